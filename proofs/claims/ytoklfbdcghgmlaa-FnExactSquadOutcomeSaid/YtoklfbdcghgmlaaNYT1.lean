/- The contracts of functions of the program, part 1: each computes what its mirror computes. No conditions. -/
import Derived.Test.YtoklfbdcghgmlaaNYT0
set_option linter.unusedSimpArgs false
set_option linter.unusedVariables false
set_option maxRecDepth 20000
set_option maxHeartbeats 4000000
namespace Go.Proofs.Ytoklfbdcghgmlaa
open Go Go.Abs Go.RowKit

theorem c48_o {p0 : (List Int)} {r : (List Int)} (H : l_toIntS_o p0 = some r) {σ : AHeap} : ACalls Try.prog G 48 [.fsl (encL rI p0)] σ (fun v σ' => ∃ M n0 : Nat, σ.next ≤ M ∧ σ.next ≤ n0 ∧ n0 < M ∧ v = .sl n0 0 r.length ∧ σ' = hp σ.objs [(n0, some ⟨3, 1, encL rI r⟩)] M) := by
 refine ACalls_fr (L := []) (Q1 := fun v σ' => ∃ M n0 : Nat, σ.next ≤ M ∧ σ.next ≤ n0 ∧ n0 < M ∧ v = .sl n0 0 r.length ∧ σ' = hp E0 [(n0, some ⟨3, 1, encL rI r⟩)] M) (by simp []) (fun hlt => ?_) ?_ ⟨_, Try.func48, rfl, rfl⟩
 rotate_left
 ·
  rintro v σ1 ⟨M, n0, h0, h1, h2, rfl, rfl⟩
  exact ⟨_, M, rfl, by simp, by simp; try omega, M, n0, h0, h1, h2, rfl, rfl⟩
 generalize σ.next = N0 at hlt ⊢
 refine ACalls_fn tok Try.func48 (by kernel_rfl) rfl Try.ntmps48 Try.results48 rfl ?_
 simp only [argsA, Nat.reduceAdd, hp_next]
 unfold l_toIntS_o at H
 refine AWP_sr tok [] [0] (fun a σ => a = [(0, .fsl (encL rI p0))] ∧ σ = hp E0 [] (N0 + 1)) (fun K hK => ?_) ?_
 ·
  skip
  simp -dsimp -implicitDefEqProofs (maxDischargeDepth := 6)
  exact hK _ _ ⟨rfl, rfl⟩
 rintro a σ ⟨rfl, rfl⟩
 obtain ⟨l1, hl1, H⟩ := bindE H
 refine AWP_sr tok [] [0, 3] (fun a σ => a = [(0, .fsl (encL rI p0)), (3, .sl (N0 + 3) 0 l1.length)] ∧ σ = hp E0 [(N0 + 3, some ⟨3, 1, encL rI l1⟩)] (N0 + 5)) (fun K hK => ?_) ?_
 ·
  skip
  simp -dsimp -implicitDefEqProofs (maxDischargeDepth := 6) [mak22 hl1]
  exact hK _ _ ⟨rfl, rfl⟩
 rintro a σ ⟨rfl, rfl⟩
 refine AWP_sq [3] fun K1 hK1 => ?_
 refine AWP_sr tok [] [0, 3, 4] (fun a σ => a = [(0, .fsl (encL rI p0)), (3, .sl (N0 + 3) 0 l1.length), (4, .int .i64 0)] ∧ σ = hp E0 [(N0 + 3, some ⟨3, 1, encL rI l1⟩)] (N0 + 6)) (fun K hK => ?_) ?_
 ·
  skip
  simp -dsimp -implicitDefEqProofs (maxDischargeDepth := 6)
  exact hK _ _ ⟨rfl, rfl⟩
 rintro a σ ⟨rfl, rfl⟩
 refine AWP_block (AWP_thenB ?_)
 obtain ⟨e1, hse1, H⟩ := bindE H
 refine AWP_lp [0, 3, 4] (fun s a σ => ∃ M1 o1 : Nat, N0 ≤ M1 ∧ N0 ≤ o1 ∧ o1 < M1 ∧ a = [(0, .fsl (encL rI p0)), (3, .sl o1 0 s.2.length), (4, .int .i64 s.1)] ∧ σ = hp E0 [(o1, some ⟨3, 1, encL rI s.2⟩)] M1) (fun s x a σ => x = .exit 0 ∧ Rc G 22 N0 (fun a σ => ∃ M2 o2 : Nat, N0 ≤ M2 ∧ N0 ≤ o2 ∧ o2 < M2 ∧ a = [(3, .sl o2 0 s.length)] ∧ σ = hp E0 [(o2, some ⟨3, 1, encL rI s⟩)] M2) (AAct.keep a [3]) σ) hse1 ?_ ?_ ?_
 ·
  refine Rc.kp [0, 3, 4] [(0, .fsl (encL rI p0)), (3, .sl (N0 + 3) 0 l1.length), (4, .int .i64 0)] rfl ?_
  exact Rc.fin (AHeap.Sub.refl _) ⟨N0 + 6, (N0 + 3), (by omega), (by omega), (by omega), rfl, rfl⟩
 ·
  clear H hse1
  rintro ⟨s2, s3⟩ fl a σ H ⟨M1, o1, fM1_0, fM1_1, fM1_2, rfl, rfl⟩ K2 O2 hK2 hO2
  unfold l_toIntS_o_L1 at H; dsimp only at H
  refine AWP_sq [0, 3, 4] fun K3 hK3 => ?_
  refine AWP_sr tok [] [0, 3, 4, 11] (fun a σ => a = [(0, .fsl (encL rI p0)), (3, .sl o1 0 s3.length), (4, .int .i64 s2), (11, .bool (ilt s2 (ilen p0)))] ∧ σ = hp E0 [(o1, some ⟨3, 1, encL rI s3⟩)] (M1 + 4)) (fun K hK => ?_) ?_
  ·
   skip
   simp -dsimp -implicitDefEqProofs (maxDischargeDepth := 6)
   exact hK _ _ ⟨rfl, rfl⟩
  rintro a σ ⟨rfl, rfl⟩
  refine AWP_cond (ilt s2 (ilen p0)) rfl (fun C1 => ?_) (fun C1 => ?_)
  ·
   replace H := ifT C1 H
   refine AWP_skip ?_
   show K3 _ _
   refine keepE (l := [0, 3, 4]) (x := [(0, .fsl (encL rI p0)), (3, .sl o1 0 s3.length), (4, .int .i64 s2)]) rfl fun a' ha => ?_
   refine hK3 _ _ ?_; rw [ha]
   refine Rc.mk ?_
   refine AWP_sq [0, 3, 4] fun K4 hK4 => ?_
   refine AWP_block (AWP_thenB ?_)
   obtain ⟨v5, hv5, H⟩ := bindE H
   obtain ⟨v6, hv6, H⟩ := bindE H
   obtain ⟨l7, hl7, H⟩ := bindE H
   refine AWP_rt tok [] [0, 3, 4] (fun a σ => a = [(0, .fsl (encL rI p0)), (3, .sl o1 0 s3.length), (4, .int .i64 s2)] ∧ σ = hp E0 [(o1, some ⟨3, 1, encL rI l7⟩)] (M1 + 12)) (fun K hK => ?_) ?_
   ·
    skip
    simp -dsimp -implicitDefEqProofs (maxDischargeDepth := 6) [ix22 hv5, ixo22 hv6, (idx_lt3 hv6).2.2, (setx_iff.1 hl7).2.symm]
    exact hK _ _ ⟨rfl, rfl⟩
   rintro a σ ⟨ha, rfl⟩
   (try rw [← setx_len hl7] at ha); (try rw [← setx_len hl7])
   refine hK4 _ _ ?_; rw [ha]
   refine Rc.mk ?_
   refine AWP_rt tok [] [0, 3, 4] (fun a σ => a = [(0, .fsl (encL rI p0)), (3, .sl o1 0 l7.length), (4, .int .i64 (iadd .i64 s2 1))] ∧ σ = hp E0 [(o1, some ⟨3, 1, encL rI l7⟩)] (M1 + 15)) (fun K hK => ?_) ?_
   ·
    skip
    simp -dsimp -implicitDefEqProofs (maxDischargeDepth := 6)
    exact hK _ _ ⟨rfl, rfl⟩
   rintro a σ ⟨ha, rfl⟩
   replace H := Option.some.inj H; subst H
   refine hK2 _ _ _ rfl ?_; rw [ha]
   exact Rc.fin (AHeap.Sub.refl _) ⟨M1 + 15, o1, (by omega), (by omega), (by omega), rfl, rfl⟩
  ·
   replace H := ifF C1 H
   replace H := Option.some.inj H; subst H
   refine AWP_exit (hO2 _ _ _ _ rfl ⟨rfl, ?_⟩)
   refine Rc.rw (l := [3]) (X := [(3, .sl o1 0 s3.length)]) rfl ?_
   exact Rc.fin (AHeap.Sub.refl _) ⟨M1 + 4, o1, (by omega), (by omega), (by omega), rfl, rfl⟩
 ·
  intro x a σ hx
  obtain ⟨y4, rfl⟩ : ∃ x, x = e1 := ⟨_, rfl⟩
  obtain ⟨rfl, b, τ, hr, M2, o2, fM2_0, fM2_1, fM2_2, rfl, rfl⟩ := hx
  dsimp only at H
  show K1 _ _
  refine hK1 _ _ (Rc_ref hr ?_)
  refine Rc.mk ?_
  refine AWP_sr tok [] [2] (fun a σ => a = [(2, .sl o2 0 y4.length)] ∧ σ = hp E0 [(o2, some ⟨3, 1, encL rI y4⟩)] (M2 + 2)) (fun K hK => ?_) ?_
  ·
   skip
   simp -dsimp -implicitDefEqProofs (maxDischargeDepth := 6)
   exact hK _ _ ⟨rfl, rfl⟩
  rintro a σ ⟨rfl, rfl⟩
  replace H := Option.some.inj H; subst H
  refine AWP_kp [2] [(2, .sl o2 0 y4.length)] rfl ?_
  refine AWP_ret ?_
  refine ⟨[.sl o2 0 y4.length], by simp, M2 + 2, o2, by omega, by omega, by omega, ?_, ?_⟩
  ·
   simp [encL_nil]
  ·
   first | rfl | simp [List.set_set]
theorem c11_o2 {p0 : gMachine} {r : gMachine} (H : l_toMachine_o2 p0 = some r) {σ : AHeap} : ACalls Try.prog G 11 [.agg [.fsl (encL rI p0.Regs), .int .i64 p0.Pc, .fsl (encL rI p0.Mem)]] σ (fun v σ' => ∃ M n0 n1 : Nat, σ.next ≤ M ∧ σ.next ≤ n0 ∧ n0 < M ∧ σ.next ≤ n1 ∧ n1 < M ∧ ¬ n0 = n1 ∧ v = .agg [.sl n0 0 r.Regs.length, .int .i64 r.Pc, .sl n1 0 r.Mem.length] ∧ σ' = hp σ.objs [(n0, some ⟨3, 1, encL rI r.Regs⟩), (n1, some ⟨3, 1, encL rI r.Mem⟩)] M) := by
 refine ACalls_fr (L := []) (Q1 := fun v σ' => ∃ M n0 n1 : Nat, σ.next ≤ M ∧ σ.next ≤ n0 ∧ n0 < M ∧ σ.next ≤ n1 ∧ n1 < M ∧ ¬ n0 = n1 ∧ v = .agg [.sl n0 0 r.Regs.length, .int .i64 r.Pc, .sl n1 0 r.Mem.length] ∧ σ' = hp E0 [(n0, some ⟨3, 1, encL rI r.Regs⟩), (n1, some ⟨3, 1, encL rI r.Mem⟩)] M) (by simp []) (fun hlt => ?_) ?_ ⟨_, Try.func11, rfl, rfl⟩
 rotate_left
 ·
  rintro v σ1 ⟨M, n0, n1, h0, h1, h2, h3, h4, h5, rfl, rfl⟩
  exact ⟨_, M, rfl, by simp, by simp; try omega, M, n0, n1, h0, h1, h2, h3, h4, h5, rfl, rfl⟩
 generalize σ.next = N0 at hlt ⊢
 refine ACalls_thaw 4 ?_
 refine ACalls_fn tok Try.func11 (by kernel_rfl) rfl Try.ntmps11 Try.results11 rfl ?_
 simp only [argsA, Nat.reduceAdd, hp_next]
 unfold l_toMachine_o2 at H
 refine AWP_sr tok [0] [1, 2] (fun a σ => a = [(1, .fptr [.fsl (encL rI p0.Regs), .int .i64 p0.Pc, .fsl (encL rI p0.Mem)] 0), (2, .ptr (N0 + 1) 0 0)] ∧ σ = hp E0 [(N0 + 1, some ⟨28, 3, [[.nilsl, .int .i64 0, .nilsl]]⟩)] (N0 + 2)) (fun K hK => ?_) ?_
 ·
  skip
  simp -dsimp -implicitDefEqProofs (maxDischargeDepth := 6)
  exact hK _ _ ⟨rfl, rfl⟩
 rintro a σ ⟨rfl, rfl⟩
 refine AWP_sr tok [] [1, 2, 3] (fun a σ => a = [(1, .fptr [.fsl (encL rI p0.Regs), .int .i64 p0.Pc, .fsl (encL rI p0.Mem)] 0), (2, .ptr (N0 + 1) 0 0), (3, .ptr (N0 + 2) 0 0)] ∧ σ = hp E0 [(N0 + 1, some ⟨28, 3, [[.nilsl, .int .i64 0, .nilsl]]⟩), (N0 + 2, some ⟨28, 3, [[.nilsl, .int .i64 0, .nilsl]]⟩)] (N0 + 3)) (fun K hK => ?_) ?_
 ·
  skip
  simp -dsimp -implicitDefEqProofs (maxDischargeDepth := 6)
  exact hK _ _ ⟨rfl, rfl⟩
 rintro a σ ⟨rfl, rfl⟩
 refine gPk0 AWP_ref (o := (N0 + 1)) (ob := ⟨28, 3, [[.nilsl, .int .i64 0, .nilsl]]⟩) (row := [.nilsl, .int .i64 0, .nilsl]) (r := 0) (i := 0) 3 1 [(N0 + 1, some ⟨28, 3, [[.osl 3 1 (encL rI ([] : List Int)), .int .i64 0, .nilsl]]⟩), (N0 + 2, some ⟨28, 3, [[.nilsl, .int .i64 0, .nilsl]]⟩)] (by simp (disch := omega)) rfl rfl (by simp (disch := omega)) (by simp (disch := omega) [encL_nil, List.set_set, app_set]) ?_
 refine gPk0 AWP_ref (o := (N0 + 1)) (ob := ⟨28, 3, [[.osl 3 1 (encL rI ([] : List Int)), .int .i64 0, .nilsl]]⟩) (row := [.osl 3 1 (encL rI ([] : List Int)), .int .i64 0, .nilsl]) (r := 0) (i := 2) 3 1 [(N0 + 1, some ⟨28, 3, [[.osl 3 1 (encL rI ([] : List Int)), .int .i64 0, .osl 3 1 (encL rI ([] : List Int))]]⟩), (N0 + 2, some ⟨28, 3, [[.nilsl, .int .i64 0, .nilsl]]⟩)] (by simp (disch := omega)) rfl rfl (by simp (disch := omega)) (by simp (disch := omega) [encL_nil, List.set_set, app_set]) ?_
 refine gPk0 AWP_ref (o := (N0 + 2)) (ob := ⟨28, 3, [[.nilsl, .int .i64 0, .nilsl]]⟩) (row := [.nilsl, .int .i64 0, .nilsl]) (r := 0) (i := 0) 3 1 [(N0 + 1, some ⟨28, 3, [[.osl 3 1 (encL rI ([] : List Int)), .int .i64 0, .osl 3 1 (encL rI ([] : List Int))]]⟩), (N0 + 2, some ⟨28, 3, [[.osl 3 1 (encL rI ([] : List Int)), .int .i64 0, .nilsl]]⟩)] (by simp (disch := omega)) rfl rfl (by simp (disch := omega)) (by simp (disch := omega) [encL_nil, List.set_set, app_set]) ?_
 refine gWkC AWP_ref (o := (N0 + 2)) (ob := ⟨28, 3, [[.osl 3 1 (encL rI ([] : List Int)), .int .i64 0, .nilsl]]⟩) (row := [.osl 3 1 (encL rI ([] : List Int)), .int .i64 0, .nilsl]) (r := 0) (i := 2) [(N0 + 1, some ⟨28, 3, [[.osl 3 1 (encL rI ([] : List Int)), .int .i64 0, .osl 3 1 (encL rI ([] : List Int))]]⟩), (N0 + 2, some ⟨28, 3, [[.osl 3 1 (encL rI ([] : List Int)), .int .i64 0, .fsl []]]⟩)] (by simp (disch := omega)) rfl rfl (by simp (disch := omega)) (by simp (disch := omega) [encL_nil, List.set_set, app_set]) ?_
 obtain ⟨r1, hr1, H⟩ := bindE H
 refine AWP_sr tok [] [1, 2, 3] (fun a σ => ∃ M1 o1 : Nat, N0 + 8 ≤ M1 ∧ N0 + 8 ≤ o1 ∧ o1 < M1 ∧ a = [(1, .fptr [.fsl (encL rI p0.Regs), .int .i64 p0.Pc, .fsl (encL rI p0.Mem)] 0), (2, .ptr (N0 + 1) 0 0), (3, .ptr (N0 + 2) 0 0)] ∧ σ = hp E0 [(N0 + 1, some ⟨28, 3, [[.osl 3 1 (encL rI ([] : List Int)), .int .i64 0, .osl 3 1 (encL rI ([] : List Int))]]⟩), (N0 + 2, some ⟨28, 3, [[.sl o1 0 r1.length, .int .i64 0, .fsl []]]⟩), (o1, some ⟨3, 1, encL rI r1⟩)] M1) (fun K hK => ?_) ?_
 ·
  skip
  simp -dsimp -implicitDefEqProofs (maxDischargeDepth := 6)
  refine (c48_o (H := hr1) ).mono ?_; rintro _ _ ⟨M1, o1, fM1_0, fM1_1, fM1_2, rfl, rfl⟩; simp only [hp_next] at fM1_0 fM1_1 fM1_2
  have eM1_0 := nq (a := o1) (b := N0 + 1) (by omega)
  have eM1_1 := nq (a := o1) (b := N0 + 2) (by omega)
  try simp -dsimp -implicitDefEqProofs (maxDischargeDepth := 6) [eM1_0, eM1_1, hp_over_some, hp_over_none]
  exact hK _ _ ⟨M1, o1, (by omega), (by omega), (by omega), rfl, rfl⟩
 rintro a σ ⟨M1, o1, fM1_0, fM1_1, fM1_2, rfl, rfl⟩
 refine AWP_sr tok [] [1, 2, 3] (fun a σ => a = [(1, .fptr [.fsl (encL rI p0.Regs), .int .i64 p0.Pc, .fsl (encL rI p0.Mem)] 0), (2, .ptr (N0 + 1) 0 0), (3, .ptr (N0 + 2) 0 0)] ∧ σ = hp E0 [(N0 + 1, some ⟨28, 3, [[.osl 3 1 (encL rI ([] : List Int)), .int .i64 0, .osl 3 1 (encL rI ([] : List Int))]]⟩), (N0 + 2, some ⟨28, 3, [[.sl o1 0 r1.length, .int .i64 p0.Pc, .fsl []]]⟩), (o1, some ⟨3, 1, encL rI r1⟩)] (M1 + 4)) (fun K hK => ?_) ?_
 ·
  skip
  have e0 := nq (a := N0 + 1) (b := o1) (by omega)
  have e1 := nq (a := N0 + 2) (b := o1) (by omega)
  simp -dsimp -implicitDefEqProofs (maxDischargeDepth := 6) [e0, e1]
  exact hK _ _ ⟨rfl, rfl⟩
 rintro a σ ⟨rfl, rfl⟩
 refine gPk AWP_ref (k := r1.length) (o := (N0 + 2)) (ob := ⟨28, 3, [[.sl o1 0 r1.length, .int .i64 p0.Pc, .fsl []]]⟩) (row := [.sl o1 0 r1.length, .int .i64 p0.Pc, .fsl []]) (d := o1) (obd := ⟨3, 1, encL rI r1⟩) (r := 0) (i := 0) [(N0 + 1, some ⟨28, 3, [[.osl 3 1 (encL rI ([] : List Int)), .int .i64 0, .osl 3 1 (encL rI ([] : List Int))]]⟩), (N0 + 2, some ⟨28, 3, [[.osl 3 1 (encL rI r1), .int .i64 p0.Pc, .fsl []]]⟩)] (by simp (disch := omega)) rfl rfl (by simp (disch := omega)) (by simp (disch := omega)) (by first | omega | simp) (by simp (disch := omega) [List.set_set, app_set] <;> omega) (by simp (disch := omega) [List.set_set, app_set]) ?_
 obtain ⟨r2, hr2, H⟩ := bindE H
 refine AWP_sr tok [] [2, 3] (fun a σ => ∃ M2 o2 : Nat, M1 + 9 ≤ M2 ∧ M1 + 9 ≤ o2 ∧ o2 < M2 ∧ a = [(2, .ptr (N0 + 1) 0 0), (3, .ptr (N0 + 2) 0 0)] ∧ σ = hp E0 [(N0 + 1, some ⟨28, 3, [[.osl 3 1 (encL rI ([] : List Int)), .int .i64 0, .osl 3 1 (encL rI ([] : List Int))]]⟩), (N0 + 2, some ⟨28, 3, [[.osl 3 1 (encL rI r1), .int .i64 p0.Pc, .sl o2 0 r2.length]]⟩), (o2, some ⟨3, 1, encL rI r2⟩)] M2) (fun K hK => ?_) ?_
 ·
  skip
  simp -dsimp -implicitDefEqProofs (maxDischargeDepth := 6)
  refine (c48_o (H := hr2) ).mono ?_; rintro _ _ ⟨M2, o2, fM2_0, fM2_1, fM2_2, rfl, rfl⟩; simp only [hp_next] at fM2_0 fM2_1 fM2_2
  have eM2_0 := nq (a := o2) (b := N0 + 1) (by omega)
  have eM2_1 := nq (a := o2) (b := N0 + 2) (by omega)
  try simp -dsimp -implicitDefEqProofs (maxDischargeDepth := 6) [eM2_0, eM2_1, hp_over_some, hp_over_none]
  exact hK _ _ ⟨M2, o2, (by omega), (by omega), (by omega), rfl, rfl⟩
 rintro a σ ⟨M2, o2, fM2_0, fM2_1, fM2_2, rfl, rfl⟩
 refine gUnp AWP_ref (ty := 3) (sz := 1) (es := encL rI r1) (o := (N0 + 2)) (ob := ⟨28, 3, [[.osl 3 1 (encL rI r1), .int .i64 p0.Pc, .sl o2 0 r2.length]]⟩) (row := [.osl 3 1 (encL rI r1), .int .i64 p0.Pc, .sl o2 0 r2.length]) (r := 0) (i := 0) [(N0 + 1, some ⟨28, 3, [[.osl 3 1 (encL rI ([] : List Int)), .int .i64 0, .osl 3 1 (encL rI ([] : List Int))]]⟩), (N0 + 2, some ⟨28, 3, [[.sl M2 0 r1.length, .int .i64 p0.Pc, .sl o2 0 r2.length]]⟩), (o2, some ⟨3, 1, encL rI r2⟩), (M2, some ⟨3, 1, encL rI r1⟩)] (by simp (disch := omega)) rfl rfl (by simp (disch := omega) [List.set_set]) ?_
 refine AWP_sr tok [] [2] (fun a σ => a = [(2, .ptr (N0 + 1) 0 0)] ∧ σ = hp E0 [(N0 + 1, some ⟨28, 3, [[.sl M2 0 r1.length, .int .i64 p0.Pc, .sl o2 0 r2.length]]⟩), (N0 + 2, some ⟨28, 3, [[.sl M2 0 r1.length, .int .i64 p0.Pc, .sl o2 0 r2.length]]⟩), (o2, some ⟨3, 1, encL rI r2⟩), (M2, some ⟨3, 1, encL rI r1⟩)] (M2 + 3)) (fun K hK => ?_) ?_
 ·
  skip
  have e0 := nq (a := N0 + 1) (b := o2) (by omega)
  have e1 := nq (a := N0 + 1) (b := M2) (by omega)
  have e2 := nq (a := N0 + 2) (b := o2) (by omega)
  have e3 := nq (a := N0 + 2) (b := M2) (by omega)
  have e4 := nq (a := o2) (b := M2) (by omega)
  simp -dsimp -implicitDefEqProofs (maxDischargeDepth := 6) [e0, e1, e2, e3, e4]
  exact hK _ _ ⟨rfl, rfl⟩
 rintro a σ ⟨rfl, rfl⟩
 replace H := Option.some.inj H; subst H
 refine AWP_kp [2] [(2, .ptr (N0 + 1) 0 0)] rfl ?_
 refine gDrop AWP_ref [(N0 + 1, some ⟨28, 3, [[.sl M2 0 r1.length, .int .i64 p0.Pc, .sl o2 0 r2.length]]⟩), (o2, some ⟨3, 1, encL rI r2⟩), (M2, some ⟨3, 1, encL rI r1⟩)] (hp_skip (AHeap.Sub.trans (hp_skip (hp_skip (AHeap.Sub.refl _))) (hp_drop rfl (by simp; try omega)))) ?_
 refine gPk AWP_ref (k := r1.length) (o := (N0 + 1)) (ob := ⟨28, 3, [[.sl M2 0 r1.length, .int .i64 p0.Pc, .sl o2 0 r2.length]]⟩) (row := [.sl M2 0 r1.length, .int .i64 p0.Pc, .sl o2 0 r2.length]) (d := M2) (obd := ⟨3, 1, encL rI r1⟩) (r := 0) (i := 0) [(N0 + 1, some ⟨28, 3, [[.osl 3 1 (encL rI r1), .int .i64 p0.Pc, .sl o2 0 r2.length]]⟩), (o2, some ⟨3, 1, encL rI r2⟩)] (by simp (disch := omega)) rfl rfl (by simp (disch := omega)) (by simp (disch := omega)) (by first | omega | simp) (by simp (disch := omega) [List.set_set, app_set] <;> omega) (by simp (disch := omega) [List.set_set, app_set]) ?_
 refine gPk AWP_ref (k := r2.length) (o := (N0 + 1)) (ob := ⟨28, 3, [[.osl 3 1 (encL rI r1), .int .i64 p0.Pc, .sl o2 0 r2.length]]⟩) (row := [.osl 3 1 (encL rI r1), .int .i64 p0.Pc, .sl o2 0 r2.length]) (d := o2) (obd := ⟨3, 1, encL rI r2⟩) (r := 0) (i := 2) [(N0 + 1, some ⟨28, 3, [[.osl 3 1 (encL rI r1), .int .i64 p0.Pc, .osl 3 1 (encL rI r2)]]⟩)] (by simp (disch := omega)) rfl rfl (by simp (disch := omega)) (by simp (disch := omega)) (by first | omega | simp) (by simp (disch := omega) [List.set_set, app_set] <;> omega) (by simp (disch := omega) [List.set_set, app_set]) ?_
 refine gUnp AWP_ref (ty := 3) (sz := 1) (es := encL rI r1) (o := (N0 + 1)) (ob := ⟨28, 3, [[.osl 3 1 (encL rI r1), .int .i64 p0.Pc, .osl 3 1 (encL rI r2)]]⟩) (row := [.osl 3 1 (encL rI r1), .int .i64 p0.Pc, .osl 3 1 (encL rI r2)]) (r := 0) (i := 0) [(N0 + 1, some ⟨28, 3, [[.sl (M2 + 3) 0 r1.length, .int .i64 p0.Pc, .osl 3 1 (encL rI r2)]]⟩), (M2 + 3, some ⟨3, 1, encL rI r1⟩)] (by simp (disch := omega)) rfl rfl (by simp (disch := omega) [List.set_set]) ?_
 refine gUnp AWP_ref (ty := 3) (sz := 1) (es := encL rI r2) (o := (N0 + 1)) (ob := ⟨28, 3, [[.sl (M2 + 3) 0 r1.length, .int .i64 p0.Pc, .osl 3 1 (encL rI r2)]]⟩) (row := [.sl (M2 + 3) 0 r1.length, .int .i64 p0.Pc, .osl 3 1 (encL rI r2)]) (r := 0) (i := 2) [(N0 + 1, some ⟨28, 3, [[.sl (M2 + 3) 0 r1.length, .int .i64 p0.Pc, .sl (M2 + 4) 0 r2.length]]⟩), (M2 + 3, some ⟨3, 1, encL rI r1⟩), (M2 + 4, some ⟨3, 1, encL rI r2⟩)] (by simp (disch := omega)) rfl rfl (by simp (disch := omega) [List.set_set]) ?_
 have z0 := nq (a := N0 + 1) (b := M2 + 3) (by omega)
 have z1 := nq (a := N0) (b := M2 + 2) (by omega)
 have z2 := nq (a := N0 + 1) (b := M2 + 4) (by omega)
 have z3 := nq (a := N0) (b := M2 + 3) (by omega)
 refine AWP_ret ?_
 refine ⟨[.agg [.sl (M2 + 3) 0 r1.length, .int .i64 p0.Pc, .sl (M2 + 4) 0 r2.length]], by simp [z0, z1, z2, z3], (fun o => [N0 + 1].contains o), M2 + 5, M2 + 3, M2 + 4, by omega, by omega, by omega, by omega, by omega, by omega, ?_, ?_⟩
 ·
  simp [encL_nil, z0, z1, z2, z3]
 ·
  rw [cutD (L' := [(M2 + 3, some ⟨3, 1, encL rI r1⟩), (M2 + 4, some ⟨3, 1, encL rI r2⟩)]) (by simp [z0, z1, z2, z3])]
  first | done | rfl | simp [List.set_set]
theorem c18 {p0 : (List gBox)} {p1 : Int} {r : Int × (List gBox)} (H : l_markBoxS p0 p1 = some r) {σ : AHeap} {w0 : Nat} (q0 : σ.objs w0 = some ⟨64, 2, encL rBox_o p0⟩) : ACalls Try.prog G 18 [.sl w0 0 p0.length, .int .i64 p1] σ (fun v σ' => ∃ M : Nat, σ.next ≤ M ∧ r.2.length = p0.length ∧ v = .int .i64 r.1 ∧ σ' = hp σ.objs [(w0, some ⟨64, 2, encL rBox_o r.2⟩)] M) := by
 refine ACalls_fr (L := [(w0, some ⟨64, 2, encL rBox_o p0⟩)]) (Q1 := fun v σ' => ∃ M : Nat, σ.next ≤ M ∧ r.2.length = p0.length ∧ v = .int .i64 r.1 ∧ σ' = hp E0 [(w0, some ⟨64, 2, encL rBox_o r.2⟩)] M) (by simp [q0]) (fun hlt => ?_) ?_ ⟨_, Try.func18, rfl, rfl⟩
 rotate_left
 ·
  rintro v σ1 ⟨M, h0, h1, rfl, rfl⟩
  exact ⟨_, M, rfl, by simp, by simp; try omega, M, h0, h1, rfl, rfl⟩
 generalize σ.next = N0 at hlt ⊢
 have lw0 : w0 < N0 := hlt _ (.head _) rfl
 refine ACalls_fn tok Try.func18 (by kernel_rfl) rfl Try.ntmps18 Try.results18 rfl ?_
 simp only [argsA, Nat.reduceAdd, hp_next]
 unfold l_markBoxS at H
 refine AWP_sr tok [] [0, 1] (fun a σ => a = [(0, .sl w0 0 p0.length), (1, .int .i64 p1)] ∧ σ = hp E0 [(w0, some ⟨64, 2, encL rBox_o p0⟩)] (N0 + 1)) (fun K hK => ?_) ?_
 ·
  skip
  simp -dsimp -implicitDefEqProofs (maxDischargeDepth := 6)
  exact hK _ _ ⟨rfl, rfl⟩
 rintro a σ ⟨rfl, rfl⟩
 refine AWP_sq [1] fun K1 hK1 => ?_
 refine AWP_sr tok [] [0, 1, 5] (fun a σ => a = [(0, .sl w0 0 p0.length), (1, .int .i64 p1), (5, .int .i64 0)] ∧ σ = hp E0 [(w0, some ⟨64, 2, encL rBox_o p0⟩)] (N0 + 2)) (fun K hK => ?_) ?_
 ·
  skip
  simp -dsimp -implicitDefEqProofs (maxDischargeDepth := 6)
  exact hK _ _ ⟨rfl, rfl⟩
 rintro a σ ⟨rfl, rfl⟩
 refine AWP_block (AWP_thenB ?_)
 obtain ⟨e1, hse1, H⟩ := bindE H
 refine AWP_lp [0, 1, 5] (fun s a σ => ∃ M1 : Nat, N0 ≤ M1 ∧ s.2.2.length = p0.length ∧ a = [(0, .sl w0 0 s.2.2.length), (1, .int .i64 s.1), (5, .int .i64 s.2.1)] ∧ σ = hp E0 [(w0, some ⟨64, 2, encL rBox_o s.2.2⟩)] M1) (fun s x a σ => x = .exit 0 ∧ Rc G 27 N0 (fun a σ => ∃ M2 : Nat, N0 ≤ M2 ∧ s.2.length = p0.length ∧ a = [(1, .int .i64 s.1)] ∧ σ = hp E0 [(w0, some ⟨64, 2, encL rBox_o s.2⟩)] M2) (AAct.keep a [1]) σ) hse1 ?_ ?_ ?_
 ·
  refine Rc.kp [0, 1, 5] [(0, .sl w0 0 p0.length), (1, .int .i64 p1), (5, .int .i64 0)] rfl ?_
  exact Rc.fin (AHeap.Sub.refl _) ⟨N0 + 2, (by omega), (by first | rfl | exact rfl | omega), rfl, rfl⟩
 ·
  clear H hse1
  rintro ⟨s1, s2, s3⟩ fl a σ H ⟨M1, fM1_0, fM1_1, rfl, rfl⟩ K2 O2 hK2 hO2
  unfold l_markBoxS_L1 at H; dsimp only at H
  refine AWP_sq [0, 1, 5] fun K3 hK3 => ?_
  refine AWP_sr tok [] [0, 1, 5, 9] (fun a σ => a = [(0, .sl w0 0 s3.length), (1, .int .i64 s1), (5, .int .i64 s2), (9, .bool (ilt s2 (ilen s3)))] ∧ σ = hp E0 [(w0, some ⟨64, 2, encL rBox_o s3⟩)] (M1 + 4)) (fun K hK => ?_) ?_
  ·
   skip
   simp -dsimp -implicitDefEqProofs (maxDischargeDepth := 6)
   exact hK _ _ ⟨rfl, rfl⟩
  rintro a σ ⟨rfl, rfl⟩
  refine AWP_cond (ilt s2 (ilen s3)) rfl (fun C1 => ?_) (fun C1 => ?_)
  ·
   replace H := ifT C1 H
   refine AWP_skip ?_
   show K3 _ _
   refine keepE (l := [0, 1, 5]) (x := [(0, .sl w0 0 s3.length), (1, .int .i64 s1), (5, .int .i64 s2)]) rfl fun a' ha => ?_
   refine hK3 _ _ ?_; rw [ha]
   refine Rc.mk ?_
   refine AWP_sq [0, 1, 5] fun K4 hK4 => ?_
   refine AWP_block (AWP_thenB ?_)
   obtain ⟨v6, hv6, H⟩ := bindE H
   obtain ⟨l7, hl7, H⟩ := bindE H
   refine AWP_sr tok [] [0, 1, 5] (fun a σ => a = [(0, .sl w0 0 s3.length), (1, .int .i64 s1), (5, .int .i64 s2)] ∧ σ = hp E0 [(w0, some ⟨64, 2, encL rBox_o l7⟩)] (M1 + 10)) (fun K hK => ?_) ?_
   ·
    skip
    simp -dsimp -implicitDefEqProofs (maxDischargeDepth := 6) [ixo29 hv6, (idx_lt3 hv6).2.2, (setx_iff.1 hl7).2.symm, set_rBox_o]
    exact hK _ _ ⟨rfl, rfl⟩
   rintro a σ ⟨rfl, rfl⟩
   try rw [← setx_len hl7]
   refine AWP_sr tok [] [0, 1, 5] (fun a σ => a = [(0, .sl w0 0 l7.length), (1, .int .i64 (iadd .i64 s1 1)), (5, .int .i64 s2)] ∧ σ = hp E0 [(w0, some ⟨64, 2, encL rBox_o l7⟩)] (M1 + 13)) (fun K hK => ?_) ?_
   ·
    skip
    simp -dsimp -implicitDefEqProofs (maxDischargeDepth := 6)
    exact hK _ _ ⟨rfl, rfl⟩
   rintro a σ ⟨rfl, rfl⟩
   obtain ⟨v8, hv8, H⟩ := bindE H
   refine gUnp AWP_ref (ty := 3) (sz := 1) (es := encL rI v8.Items) (o := w0) (ob := ⟨64, 2, encL rBox_o l7⟩) (row := [.int .i64 v8.Room, .osl 3 1 (encL rI v8.Items)]) (r := s2.toNat) (i := 1) [(w0, some ⟨64, 2, (encL rBox_o l7).set s2.toNat [.int .i64 v8.Room, .sl (M1 + 13) 0 v8.Items.length]⟩), (M1 + 13, some ⟨3, 1, encL rI v8.Items⟩)] (by simp (disch := omega)) (encL_at rBox_o hv8) rfl (by simp (disch := omega) [List.set_set]) ?_
   obtain ⟨r9, hr9, H⟩ := bindE H
   refine AWP_rt tok [] [0, 1, 5] (fun a σ => ∃ M3 : Nat, M1 + 22 ≤ M3 ∧ r9.2.length = v8.Items.length ∧ a = [(0, .sl w0 0 l7.length), (1, .int .i64 r9.1), (5, .int .i64 s2)] ∧ σ = hp E0 [(w0, some ⟨64, 2, (encL rBox_o l7).set s2.toNat [.int .i64 v8.Room, .sl (M1 + 13) 0 v8.Items.length]⟩), (M1 + 13, some ⟨3, 1, encL rI r9.2⟩)] M3) (fun K hK => ?_) ?_
   ·
    skip
    have e0 := nq (a := w0) (b := M1 + 13) (by omega)
    simp -dsimp -implicitDefEqProofs (maxDischargeDepth := 6) [e0, (gset hv8 _), List.set_set, ixo29 hv8, (idx_lt3 hv8).2.2]
    refine (c19 (H := hr9) (by simp [e0, (gset hv8 _), List.set_set, ixo29 hv8, (idx_lt3 hv8).2.2])).mono ?_; rintro _ _ ⟨M3, fM3_0, fM3_1, rfl, rfl⟩; simp only [hp_next] at fM3_0
    try simp -dsimp -implicitDefEqProofs (maxDischargeDepth := 6) [e0, (gset hv8 _), List.set_set, ixo29 hv8, (idx_lt3 hv8).2.2, hp_over_some, hp_over_none]
    exact hK _ _ ⟨M3, (by omega), fM3_1, rfl, rfl⟩
   rintro a σ ⟨M3, fM3_0, fM3_1, ha, rfl⟩
   (try rw [← fM3_1] at ha); (try rw [← fM3_1])
   refine hK4 _ _ ?_; rw [ha]
   refine Rc.mk ?_
   refine AWP_rt tok [] [0, 1, 5] (fun a σ => a = [(0, .sl w0 0 l7.length), (1, .int .i64 r9.1), (5, .int .i64 (iadd .i64 s2 1))] ∧ σ = hp E0 [(w0, some ⟨64, 2, (encL rBox_o l7).set s2.toNat [.int .i64 v8.Room, .sl (M1 + 13) 0 r9.2.length]⟩), (M1 + 13, some ⟨3, 1, encL rI r9.2⟩)] (M3 + 3)) (fun K hK => ?_) ?_
   ·
    skip
    have e0 := nq (a := w0) (b := M1 + 13) (by omega)
    simp -dsimp -implicitDefEqProofs (maxDischargeDepth := 6) [e0, (gset hv8 _), List.set_set]
    exact hK _ _ ⟨rfl, rfl⟩
   rintro a σ ⟨ha, rfl⟩
   obtain ⟨l10, hl10, H⟩ := bindE H
   replace H := Option.some.inj H; subst H
   refine hK2 _ _ _ rfl ?_; rw [ha]
   refine gPk Rc_ref (k := r9.2.length) (o := w0) (ob := ⟨64, 2, (encL rBox_o l7).set s2.toNat [.int .i64 v8.Room, .sl (M1 + 13) 0 r9.2.length]⟩) (row := [.int .i64 v8.Room, .sl (M1 + 13) 0 r9.2.length]) (d := (M1 + 13)) (obd := ⟨3, 1, encL rI r9.2⟩) (r := s2.toNat) (i := 1) [(w0, some ⟨64, 2, (encL rBox_o l7).set s2.toNat [.int .i64 v8.Room, .osl 3 1 (encL rI r9.2)]⟩)] (by simp (disch := omega)) (gset hv8 _) rfl (by simp (disch := omega)) (by simp (disch := omega)) (by first | omega | simp) (by simp (disch := omega) [List.set_set, app_set] <;> omega) (by simp (disch := omega) [List.set_set, app_set]) ?_
   rw [show hp E0 [(w0, some ⟨64, 2, (encL rBox_o l7).set s2.toNat [.int .i64 v8.Room, .osl 3 1 (encL rI r9.2)]⟩)] (M3 + 3) = hp E0 [(w0, some ⟨64, 2, encL rBox_o l10⟩)] (M3 + 3) from by rw [(setx_iff.1 hl10).2, ← encL_set]; rfl]; (try rw [← setx_len hl10])
   exact Rc.fin (AHeap.Sub.refl _) ⟨M3 + 3, (by omega), (by first | rfl | exact ((setx_len hl10).trans ((setx_len hl7).trans fM1_1)) | omega), rfl, rfl⟩
  ·
   replace H := ifF C1 H
   replace H := Option.some.inj H; subst H
   refine AWP_exit (hO2 _ _ _ _ rfl ⟨rfl, ?_⟩)
   refine Rc.rw (l := [1]) (X := [(1, .int .i64 s1)]) rfl ?_
   exact Rc.fin (AHeap.Sub.refl _) ⟨M1 + 4, (by omega), (by first | rfl | exact fM1_1 | omega), rfl, rfl⟩
 ·
  intro x a σ hx
  obtain ⟨y4, y5⟩ := e1
  obtain ⟨rfl, b, τ, hr, M2, fM2_0, fM2_1, rfl, rfl⟩ := hx
  dsimp only at H
  show K1 _ _
  refine hK1 _ _ (Rc_ref hr ?_)
  refine Rc.mk ?_
  refine AWP_sr tok [] [4] (fun a σ => a = [(4, .int .i64 y4)] ∧ σ = hp E0 [(w0, some ⟨64, 2, encL rBox_o y5⟩)] (M2 + 2)) (fun K hK => ?_) ?_
  ·
   skip
   simp -dsimp -implicitDefEqProofs (maxDischargeDepth := 6)
   exact hK _ _ ⟨rfl, rfl⟩
  rintro a σ ⟨rfl, rfl⟩
  replace H := Option.some.inj H; subst H
  refine AWP_kp [4] [(4, .int .i64 y4)] rfl ?_
  refine AWP_ret ?_
  refine ⟨[.int .i64 y4], by simp, M2 + 2, by omega, by first | rfl | exact fM2_1 | omega, ?_, ?_⟩
  ·
   simp [encL_nil]
  ·
   first | rfl | simp [List.set_set]
theorem c49_o {p0 : gBox} {r : gBox} (H : l_toBox_o p0 = some r) {σ : AHeap} : ACalls Try.prog G 49 [.agg [.int .i64 p0.Room, .fsl (encL rI p0.Items)]] σ (fun v σ' => ∃ M n0 : Nat, σ.next ≤ M ∧ σ.next ≤ n0 ∧ n0 < M ∧ v = .agg [.int .i64 r.Room, .sl n0 0 r.Items.length] ∧ σ' = hp σ.objs [(n0, some ⟨3, 1, encL rI r.Items⟩)] M) := by
 refine ACalls_fr (L := []) (Q1 := fun v σ' => ∃ M n0 : Nat, σ.next ≤ M ∧ σ.next ≤ n0 ∧ n0 < M ∧ v = .agg [.int .i64 r.Room, .sl n0 0 r.Items.length] ∧ σ' = hp E0 [(n0, some ⟨3, 1, encL rI r.Items⟩)] M) (by simp []) (fun hlt => ?_) ?_ ⟨_, Try.func49, rfl, rfl⟩
 rotate_left
 ·
  rintro v σ1 ⟨M, n0, h0, h1, h2, rfl, rfl⟩
  exact ⟨_, M, rfl, by simp, by simp; try omega, M, n0, h0, h1, h2, rfl, rfl⟩
 generalize σ.next = N0 at hlt ⊢
 refine ACalls_thaw 4 ?_
 refine ACalls_fn tok Try.func49 (by kernel_rfl) rfl Try.ntmps49 Try.results49 rfl ?_
 simp only [argsA, Nat.reduceAdd, hp_next]
 unfold l_toBox_o at H
 refine AWP_sr tok [0] [1, 2] (fun a σ => a = [(1, .fptr [.int .i64 p0.Room, .fsl (encL rI p0.Items)] 0), (2, .ptr (N0 + 1) 0 0)] ∧ σ = hp E0 [(N0 + 1, some ⟨64, 2, [[.int .i64 0, .nilsl]]⟩)] (N0 + 2)) (fun K hK => ?_) ?_
 ·
  skip
  simp -dsimp -implicitDefEqProofs (maxDischargeDepth := 6)
  exact hK _ _ ⟨rfl, rfl⟩
 rintro a σ ⟨rfl, rfl⟩
 refine AWP_sr tok [] [1, 2, 3] (fun a σ => a = [(1, .fptr [.int .i64 p0.Room, .fsl (encL rI p0.Items)] 0), (2, .ptr (N0 + 1) 0 0), (3, .ptr (N0 + 2) 0 0)] ∧ σ = hp E0 [(N0 + 1, some ⟨64, 2, [[.int .i64 0, .nilsl]]⟩), (N0 + 2, some ⟨64, 2, [[.int .i64 0, .nilsl]]⟩)] (N0 + 3)) (fun K hK => ?_) ?_
 ·
  skip
  simp -dsimp -implicitDefEqProofs (maxDischargeDepth := 6)
  exact hK _ _ ⟨rfl, rfl⟩
 rintro a σ ⟨rfl, rfl⟩
 refine AWP_sr tok [] [1, 2, 3] (fun a σ => a = [(1, .fptr [.int .i64 p0.Room, .fsl (encL rI p0.Items)] 0), (2, .ptr (N0 + 1) 0 0), (3, .ptr (N0 + 2) 0 0)] ∧ σ = hp E0 [(N0 + 1, some ⟨64, 2, [[.int .i64 0, .nilsl]]⟩), (N0 + 2, some ⟨64, 2, [[.int .i64 p0.Room, .nilsl]]⟩)] (N0 + 7)) (fun K hK => ?_) ?_
 ·
  skip
  simp -dsimp -implicitDefEqProofs (maxDischargeDepth := 6)
  exact hK _ _ ⟨rfl, rfl⟩
 rintro a σ ⟨rfl, rfl⟩
 refine gPk0 AWP_ref (o := (N0 + 1)) (ob := ⟨64, 2, [[.int .i64 0, .nilsl]]⟩) (row := [.int .i64 0, .nilsl]) (r := 0) (i := 1) 3 1 [(N0 + 1, some ⟨64, 2, [[.int .i64 0, .osl 3 1 (encL rI ([] : List Int))]]⟩), (N0 + 2, some ⟨64, 2, [[.int .i64 p0.Room, .nilsl]]⟩)] (by simp (disch := omega)) rfl rfl (by simp (disch := omega)) (by simp (disch := omega) [encL_nil, List.set_set, app_set]) ?_
 refine gWkC AWP_ref (o := (N0 + 2)) (ob := ⟨64, 2, [[.int .i64 p0.Room, .nilsl]]⟩) (row := [.int .i64 p0.Room, .nilsl]) (r := 0) (i := 1) [(N0 + 1, some ⟨64, 2, [[.int .i64 0, .osl 3 1 (encL rI ([] : List Int))]]⟩), (N0 + 2, some ⟨64, 2, [[.int .i64 p0.Room, .fsl []]]⟩)] (by simp (disch := omega)) rfl rfl (by simp (disch := omega)) (by simp (disch := omega) [encL_nil, List.set_set, app_set]) ?_
 obtain ⟨r1, hr1, H⟩ := bindE H
 refine AWP_sr tok [] [2, 3] (fun a σ => ∃ M1 o1 : Nat, N0 + 12 ≤ M1 ∧ N0 + 12 ≤ o1 ∧ o1 < M1 ∧ a = [(2, .ptr (N0 + 1) 0 0), (3, .ptr (N0 + 2) 0 0)] ∧ σ = hp E0 [(N0 + 1, some ⟨64, 2, [[.int .i64 0, .osl 3 1 (encL rI ([] : List Int))]]⟩), (N0 + 2, some ⟨64, 2, [[.int .i64 p0.Room, .sl o1 0 r1.length]]⟩), (o1, some ⟨3, 1, encL rI r1⟩)] M1) (fun K hK => ?_) ?_
 ·
  skip
  simp -dsimp -implicitDefEqProofs (maxDischargeDepth := 6)
  refine (c48_o (H := hr1) ).mono ?_; rintro _ _ ⟨M1, o1, fM1_0, fM1_1, fM1_2, rfl, rfl⟩; simp only [hp_next] at fM1_0 fM1_1 fM1_2
  have eM1_0 := nq (a := o1) (b := N0 + 1) (by omega)
  have eM1_1 := nq (a := o1) (b := N0 + 2) (by omega)
  try simp -dsimp -implicitDefEqProofs (maxDischargeDepth := 6) [eM1_0, eM1_1, hp_over_some, hp_over_none]
  exact hK _ _ ⟨M1, o1, (by omega), (by omega), (by omega), rfl, rfl⟩
 rintro a σ ⟨M1, o1, fM1_0, fM1_1, fM1_2, rfl, rfl⟩
 refine AWP_sr tok [] [2] (fun a σ => a = [(2, .ptr (N0 + 1) 0 0)] ∧ σ = hp E0 [(N0 + 1, some ⟨64, 2, [[.int .i64 p0.Room, .sl o1 0 r1.length]]⟩), (N0 + 2, some ⟨64, 2, [[.int .i64 p0.Room, .sl o1 0 r1.length]]⟩), (o1, some ⟨3, 1, encL rI r1⟩)] (M1 + 2)) (fun K hK => ?_) ?_
 ·
  skip
  have e0 := nq (a := N0 + 1) (b := o1) (by omega)
  have e1 := nq (a := N0 + 2) (b := o1) (by omega)
  simp -dsimp -implicitDefEqProofs (maxDischargeDepth := 6) [e0, e1]
  exact hK _ _ ⟨rfl, rfl⟩
 rintro a σ ⟨rfl, rfl⟩
 replace H := Option.some.inj H; subst H
 refine AWP_kp [2] [(2, .ptr (N0 + 1) 0 0)] rfl ?_
 refine gDrop AWP_ref [(N0 + 1, some ⟨64, 2, [[.int .i64 p0.Room, .sl o1 0 r1.length]]⟩), (o1, some ⟨3, 1, encL rI r1⟩)] (hp_skip (AHeap.Sub.trans (hp_skip (AHeap.Sub.refl _)) (hp_drop rfl (by simp; try omega)))) ?_
 refine gPk AWP_ref (k := r1.length) (o := (N0 + 1)) (ob := ⟨64, 2, [[.int .i64 p0.Room, .sl o1 0 r1.length]]⟩) (row := [.int .i64 p0.Room, .sl o1 0 r1.length]) (d := o1) (obd := ⟨3, 1, encL rI r1⟩) (r := 0) (i := 1) [(N0 + 1, some ⟨64, 2, [[.int .i64 p0.Room, .osl 3 1 (encL rI r1)]]⟩)] (by simp (disch := omega)) rfl rfl (by simp (disch := omega)) (by simp (disch := omega)) (by first | omega | simp) (by simp (disch := omega) [List.set_set, app_set] <;> omega) (by simp (disch := omega) [List.set_set, app_set]) ?_
 refine gUnp AWP_ref (ty := 3) (sz := 1) (es := encL rI r1) (o := (N0 + 1)) (ob := ⟨64, 2, [[.int .i64 p0.Room, .osl 3 1 (encL rI r1)]]⟩) (row := [.int .i64 p0.Room, .osl 3 1 (encL rI r1)]) (r := 0) (i := 1) [(N0 + 1, some ⟨64, 2, [[.int .i64 p0.Room, .sl (M1 + 2) 0 r1.length]]⟩), (M1 + 2, some ⟨3, 1, encL rI r1⟩)] (by simp (disch := omega)) rfl rfl (by simp (disch := omega) [List.set_set]) ?_
 have z0 := nq (a := N0 + 1) (b := M1 + 2) (by omega)
 have z1 := nq (a := N0) (b := M1 + 1) (by omega)
 refine AWP_ret ?_
 refine ⟨[.agg [.int .i64 p0.Room, .sl (M1 + 2) 0 r1.length]], by simp [z0, z1], (fun o => [N0 + 1].contains o), M1 + 3, M1 + 2, by omega, by omega, by omega, ?_, ?_⟩
 ·
  simp [encL_nil, z0, z1]
 ·
  rw [cutD (L' := [(M1 + 2, some ⟨3, 1, encL rI r1⟩)]) (by simp [z0, z1])]
  first | done | rfl | simp [List.set_set]
theorem c12_o2 {p0 : (List gBox)} {r : (List gBox)} (H : l_toBoxS_o2 p0 = some r) {σ : AHeap} : ACalls Try.prog G 12 [.fsl (encL rBox p0)] σ (fun v σ' => ∃ M n0 : Nat, σ.next ≤ M ∧ σ.next ≤ n0 ∧ n0 < M ∧ v = .sl n0 0 r.length ∧ σ' = hp σ.objs [(n0, some ⟨64, 2, encL rBox_o r⟩)] M) := by
 refine ACalls_fr (L := []) (Q1 := fun v σ' => ∃ M n0 : Nat, σ.next ≤ M ∧ σ.next ≤ n0 ∧ n0 < M ∧ v = .sl n0 0 r.length ∧ σ' = hp E0 [(n0, some ⟨64, 2, encL rBox_o r⟩)] M) (by simp []) (fun hlt => ?_) ?_ ⟨_, Try.func12, rfl, rfl⟩
 rotate_left
 ·
  rintro v σ1 ⟨M, n0, h0, h1, h2, rfl, rfl⟩
  exact ⟨_, M, rfl, by simp, by simp; try omega, M, n0, h0, h1, h2, rfl, rfl⟩
 generalize σ.next = N0 at hlt ⊢
 refine ACalls_fn tok Try.func12 (by kernel_rfl) rfl Try.ntmps12 Try.results12 rfl ?_
 simp only [argsA, Nat.reduceAdd, hp_next]
 unfold l_toBoxS_o2 at H
 refine AWP_sr tok [] [0] (fun a σ => a = [(0, .fsl (encL rBox p0))] ∧ σ = hp E0 [] (N0 + 1)) (fun K hK => ?_) ?_
 ·
  skip
  simp -dsimp -implicitDefEqProofs (maxDischargeDepth := 6)
  exact hK _ _ ⟨rfl, rfl⟩
 rintro a σ ⟨rfl, rfl⟩
 obtain ⟨l1, hl1, H⟩ := bindE H
 refine AWP_sr tok [] [0, 3] (fun a σ => a = [(0, .fsl (encL rBox p0)), (3, .sl (N0 + 3) 0 l1.length)] ∧ σ = hp E0 [(N0 + 3, some ⟨64, 2, List.replicate (Int.toNat (ilen p0)) [.int .i64 0, .nilsl]⟩)] (N0 + 5)) (fun K hK => ?_) ?_
 ·
  skip
  simp -dsimp -implicitDefEqProofs (maxDischargeDepth := 6) [makr29 hl1]
  exact hK _ _ ⟨rfl, rfl⟩
 rintro a σ ⟨rfl, rfl⟩
 refine AWP_sq [3] fun K1 hK1 => ?_
 refine gRep AWP_ref (o := (N0 + 3)) (ty := 64) (sz := 2) (m := Int.toNat (ilen p0)) (c := [.int .i64 0, .nilsl]) (c' := [.int .i64 0, .osl 3 1 []]) (.same (.own .nil)) [(N0 + 3, some ⟨64, 2, encL rBox_o l1⟩)] (by simp (disch := omega)) (by rw [mak_rep (f := rBox_o) (c := [.int .i64 0, .osl 3 1 []]) hl1 rfl]; simp) ?_
 refine AWP_sr tok [] [0, 3, 4] (fun a σ => a = [(0, .fsl (encL rBox p0)), (3, .sl (N0 + 3) 0 l1.length), (4, .int .i64 0)] ∧ σ = hp E0 [(N0 + 3, some ⟨64, 2, encL rBox_o l1⟩)] (N0 + 6)) (fun K hK => ?_) ?_
 ·
  skip
  simp -dsimp -implicitDefEqProofs (maxDischargeDepth := 6)
  exact hK _ _ ⟨rfl, rfl⟩
 rintro a σ ⟨rfl, rfl⟩
 refine AWP_block (AWP_thenB ?_)
 obtain ⟨e1, hse1, H⟩ := bindE H
 refine AWP_lp [0, 3, 4] (fun s a σ => ∃ M1 o1 : Nat, N0 ≤ M1 ∧ N0 ≤ o1 ∧ o1 < M1 ∧ a = [(0, .fsl (encL rBox p0)), (3, .sl o1 0 s.2.length), (4, .int .i64 s.1)] ∧ σ = hp E0 [(o1, some ⟨64, 2, encL rBox_o s.2⟩)] M1) (fun s x a σ => x = .exit 0 ∧ Rc G 23 N0 (fun a σ => ∃ M2 o2 : Nat, N0 ≤ M2 ∧ N0 ≤ o2 ∧ o2 < M2 ∧ a = [(3, .sl o2 0 s.length)] ∧ σ = hp E0 [(o2, some ⟨64, 2, encL rBox_o s⟩)] M2) (AAct.keep a [3]) σ) hse1 ?_ ?_ ?_
 ·
  refine Rc.kp [0, 3, 4] [(0, .fsl (encL rBox p0)), (3, .sl (N0 + 3) 0 l1.length), (4, .int .i64 0)] rfl ?_
  exact Rc.fin (AHeap.Sub.refl _) ⟨N0 + 6, (N0 + 3), (by omega), (by omega), (by omega), rfl, rfl⟩
 ·
  clear H hse1
  rintro ⟨s2, s3⟩ fl a σ H ⟨M1, o1, fM1_0, fM1_1, fM1_2, rfl, rfl⟩ K2 O2 hK2 hO2
  unfold l_toBoxS_o2_L1 at H; dsimp only at H
  refine AWP_sq [0, 3, 4] fun K3 hK3 => ?_
  refine AWP_sr tok [] [0, 3, 4, 11] (fun a σ => a = [(0, .fsl (encL rBox p0)), (3, .sl o1 0 s3.length), (4, .int .i64 s2), (11, .bool (ilt s2 (ilen p0)))] ∧ σ = hp E0 [(o1, some ⟨64, 2, encL rBox_o s3⟩)] (M1 + 4)) (fun K hK => ?_) ?_
  ·
   skip
   simp -dsimp -implicitDefEqProofs (maxDischargeDepth := 6)
   exact hK _ _ ⟨rfl, rfl⟩
  rintro a σ ⟨rfl, rfl⟩
  refine AWP_cond (ilt s2 (ilen p0)) rfl (fun C1 => ?_) (fun C1 => ?_)
  ·
   replace H := ifT C1 H
   refine AWP_skip ?_
   show K3 _ _
   refine keepE (l := [0, 3, 4]) (x := [(0, .fsl (encL rBox p0)), (3, .sl o1 0 s3.length), (4, .int .i64 s2)]) rfl fun a' ha => ?_
   refine hK3 _ _ ?_; rw [ha]
   refine Rc.mk ?_
   refine AWP_sq [0, 3, 4] fun K4 hK4 => ?_
   refine AWP_block (AWP_thenB ?_)
   obtain ⟨v5, hv5, H⟩ := bindE H
   obtain ⟨r6, hr6, H⟩ := bindE H
   obtain ⟨v7, hv7, H⟩ := bindE H
   refine AWP_rt tok [] [0, 3, 4] (fun a σ => ∃ M3 o3 : Nat, M1 + 13 ≤ M3 ∧ M1 + 13 ≤ o3 ∧ o3 < M3 ∧ a = [(0, .fsl (encL rBox p0)), (3, .sl o1 0 s3.length), (4, .int .i64 s2)] ∧ σ = hp E0 [(o1, some ⟨64, 2, (encL rBox_o s3).set s2.toNat [.int .i64 r6.Room, .sl o3 0 r6.Items.length]⟩), (o3, some ⟨3, 1, encL rI r6.Items⟩)] M3) (fun K hK => ?_) ?_
   ·
    skip
    simp -dsimp -implicitDefEqProofs (maxDischargeDepth := 6) [ix25 hv5, ixo29 hv7, (idx_lt3 hv7).2.2]
    refine (c49_o (H := hr6) ).mono ?_; rintro _ _ ⟨M3, o3, fM3_0, fM3_1, fM3_2, rfl, rfl⟩; simp only [hp_next] at fM3_0 fM3_1 fM3_2
    have eM3_0 := nq (a := o3) (b := o1) (by omega)
    try simp -dsimp -implicitDefEqProofs (maxDischargeDepth := 6) [ix25 hv5, ixo29 hv7, (idx_lt3 hv7).2.2, eM3_0, hp_over_some, hp_over_none]
    exact hK _ _ ⟨M3, o3, (by omega), (by omega), (by omega), rfl, rfl⟩
   rintro a σ ⟨M3, o3, fM3_0, fM3_1, fM3_2, ha, rfl⟩
   refine hK4 _ _ ?_; rw [ha]
   refine Rc.mk ?_
   refine AWP_rt tok [] [0, 3, 4] (fun a σ => a = [(0, .fsl (encL rBox p0)), (3, .sl o1 0 s3.length), (4, .int .i64 (iadd .i64 s2 1))] ∧ σ = hp E0 [(o1, some ⟨64, 2, (encL rBox_o s3).set s2.toNat [.int .i64 r6.Room, .sl o3 0 r6.Items.length]⟩), (o3, some ⟨3, 1, encL rI r6.Items⟩)] (M3 + 3)) (fun K hK => ?_) ?_
   ·
    skip
    have e0 := nq (a := o1) (b := o3) (by omega)
    simp -dsimp -implicitDefEqProofs (maxDischargeDepth := 6) [e0, (gset hv7 _), List.set_set]
    exact hK _ _ ⟨rfl, rfl⟩
   rintro a σ ⟨ha, rfl⟩
   obtain ⟨l8, hl8, H⟩ := bindE H
   replace H := Option.some.inj H; subst H
   refine hK2 _ _ _ rfl ?_; rw [ha]
   refine gPk Rc_ref (k := r6.Items.length) (o := o1) (ob := ⟨64, 2, (encL rBox_o s3).set s2.toNat [.int .i64 r6.Room, .sl o3 0 r6.Items.length]⟩) (row := [.int .i64 r6.Room, .sl o3 0 r6.Items.length]) (d := o3) (obd := ⟨3, 1, encL rI r6.Items⟩) (r := s2.toNat) (i := 1) [(o1, some ⟨64, 2, (encL rBox_o s3).set s2.toNat [.int .i64 r6.Room, .osl 3 1 (encL rI r6.Items)]⟩)] (by simp (disch := omega)) (gset hv7 _) rfl (by simp (disch := omega)) (by simp (disch := omega)) (by first | omega | simp) (by simp (disch := omega) [List.set_set, app_set] <;> omega) (by simp (disch := omega) [List.set_set, app_set]) ?_
   rw [show hp E0 [(o1, some ⟨64, 2, (encL rBox_o s3).set s2.toNat [.int .i64 r6.Room, .osl 3 1 (encL rI r6.Items)]⟩)] (M3 + 3) = hp E0 [(o1, some ⟨64, 2, encL rBox_o l8⟩)] (M3 + 3) from by rw [(setx_iff.1 hl8).2, ← encL_set]; rfl]; (try rw [← setx_len hl8])
   exact Rc.fin (AHeap.Sub.refl _) ⟨M3 + 3, o1, (by omega), (by omega), (by omega), rfl, rfl⟩
  ·
   replace H := ifF C1 H
   replace H := Option.some.inj H; subst H
   refine AWP_exit (hO2 _ _ _ _ rfl ⟨rfl, ?_⟩)
   refine Rc.rw (l := [3]) (X := [(3, .sl o1 0 s3.length)]) rfl ?_
   exact Rc.fin (AHeap.Sub.refl _) ⟨M1 + 4, o1, (by omega), (by omega), (by omega), rfl, rfl⟩
 ·
  intro x a σ hx
  obtain ⟨y4, rfl⟩ : ∃ x, x = e1 := ⟨_, rfl⟩
  obtain ⟨rfl, b, τ, hr, M2, o2, fM2_0, fM2_1, fM2_2, rfl, rfl⟩ := hx
  dsimp only at H
  show K1 _ _
  refine hK1 _ _ (Rc_ref hr ?_)
  refine Rc.mk ?_
  refine AWP_sr tok [] [2] (fun a σ => a = [(2, .sl o2 0 y4.length)] ∧ σ = hp E0 [(o2, some ⟨64, 2, encL rBox_o y4⟩)] (M2 + 2)) (fun K hK => ?_) ?_
  ·
   skip
   simp -dsimp -implicitDefEqProofs (maxDischargeDepth := 6)
   exact hK _ _ ⟨rfl, rfl⟩
  rintro a σ ⟨rfl, rfl⟩
  replace H := Option.some.inj H; subst H
  refine AWP_kp [2] [(2, .sl o2 0 y4.length)] rfl ?_
  refine AWP_ret ?_
  refine ⟨[.sl o2 0 y4.length], by simp, M2 + 2, o2, by omega, by omega, by omega, ?_, ?_⟩
  ·
   simp [encL_nil]
  ·
   first | rfl | simp [List.set_set]
theorem c22 {p0 : (List Int)} {p1 : Int} {r : Int} (H : l_heldIntS p0 p1 = some r) : APure Try.prog G 22 [.fsl (encL rI p0), .int .i64 p1] (.int .i64 r) := by
 refine APure_fn (fun N0 => ?_) (by simp)
 refine ACalls_fn tok Try.func22 (by kernel_rfl) rfl Try.ntmps22 Try.results22 rfl ?_
 simp only [argsA, Nat.reduceAdd, hp_next]
 unfold l_heldIntS at H
 refine AWP_sr tok [] [0, 1] (fun a σ => a = [(0, .fsl (encL rI p0)), (1, .int .i64 p1)] ∧ σ = hp E0 [] (N0 + 1)) (fun K hK => ?_) ?_
 ·
  skip
  simp -dsimp -implicitDefEqProofs (maxDischargeDepth := 6)
  exact hK _ _ ⟨rfl, rfl⟩
 rintro a σ ⟨rfl, rfl⟩
 refine AWP_sq [1] fun K1 hK1 => ?_
 refine AWP_sr tok [] [0, 1, 5] (fun a σ => a = [(0, .fsl (encL rI p0)), (1, .int .i64 p1), (5, .int .i64 0)] ∧ σ = hp E0 [] (N0 + 2)) (fun K hK => ?_) ?_
 ·
  skip
  simp -dsimp -implicitDefEqProofs (maxDischargeDepth := 6)
  exact hK _ _ ⟨rfl, rfl⟩
 rintro a σ ⟨rfl, rfl⟩
 refine AWP_block (AWP_thenB ?_)
 obtain ⟨e1, hse1, H⟩ := bindE H
 refine AWP_lp [0, 1, 5] (fun s a σ => ∃ M1 : Nat, N0 ≤ M1 ∧ a = [(0, .fsl (encL rI p0)), (1, .int .i64 s.1), (5, .int .i64 s.2)] ∧ σ = hp E0 [] M1) (fun e x a σ => match e with | .inl s => x = .exit 0 ∧ Rc G 21 N0 (fun a σ => ∃ M2 : Nat, N0 ≤ M2 ∧ a = [(1, .int .i64 s)] ∧ σ = hp E0 [] M2) (AAct.keep a [1]) σ | .inr s => x = .ret ∧ ∃ vs, resA T σ a [.tmp 4] = some vs ∧ ∃ d, thawA (fun _ => true) σ d (tupA vs) = .int .i64 s) hse1 ?_ ?_ ?_
 ·
  refine Rc.kp [0, 1, 5] [(0, .fsl (encL rI p0)), (1, .int .i64 p1), (5, .int .i64 0)] rfl ?_
  exact Rc.fin (AHeap.Sub.refl _) ⟨N0 + 2, (by omega), rfl, rfl⟩
 ·
  clear H hse1
  rintro ⟨s1, s2⟩ fl a σ H ⟨M1, fM1_0, rfl, rfl⟩ K2 O2 hK2 hO2
  unfold l_heldIntS_L1 at H; dsimp only at H
  refine AWP_sq [0, 1, 5] fun K3 hK3 => ?_
  refine AWP_sr tok [] [0, 1, 5, 9] (fun a σ => a = [(0, .fsl (encL rI p0)), (1, .int .i64 s1), (5, .int .i64 s2), (9, .bool (ilt s2 (ilen p0)))] ∧ σ = hp E0 [] (M1 + 4)) (fun K hK => ?_) ?_
  ·
   skip
   simp -dsimp -implicitDefEqProofs (maxDischargeDepth := 6)
   exact hK _ _ ⟨rfl, rfl⟩
  rintro a σ ⟨rfl, rfl⟩
  refine AWP_cond (ilt s2 (ilen p0)) rfl (fun C1 => ?_) (fun C1 => ?_)
  ·
   replace H := ifT C1 H
   refine AWP_skip ?_
   show K3 _ _
   refine keepE (l := [0, 1, 5]) (x := [(0, .fsl (encL rI p0)), (1, .int .i64 s1), (5, .int .i64 s2)]) rfl fun a' ha => ?_
   refine hK3 _ _ ?_; rw [ha]
   refine Rc.mk ?_
   refine AWP_sq [0, 1, 5] fun K4 hK4 => ?_
   refine AWP_block (AWP_thenB ?_)
   refine AWP_sq [0, 1, 5] fun K5 hK5 => ?_
   obtain ⟨v4, hv4, H⟩ := bindE H
   refine AWP_sr tok [] [0, 1, 5, 17] (fun a σ => a = [(0, .fsl (encL rI p0)), (1, .int .i64 s1), (5, .int .i64 s2), (17, .bool (ine v4 s1))] ∧ σ = hp E0 [] (M1 + 10)) (fun K hK => ?_) ?_
   ·
    skip
    simp -dsimp -implicitDefEqProofs (maxDischargeDepth := 6) [ix22 hv4]
    exact hK _ _ ⟨rfl, rfl⟩
   rintro a σ ⟨rfl, rfl⟩
   refine AWP_cond (ine v4 s1) rfl (fun C2 => ?_) (fun C2 => ?_)
   ·
    replace H := ifT C2 H
    refine AWP_sr tok [] [4] (fun a σ => a = [(4, .int .i64 (-1))] ∧ σ = hp E0 [] (M1 + 11)) (fun K hK => ?_) ?_
    ·
     skip
     simp -dsimp -implicitDefEqProofs (maxDischargeDepth := 6)
     exact hK _ _ ⟨rfl, rfl⟩
    rintro a σ ⟨rfl, rfl⟩
    replace H := Option.some.inj H; subst H
    refine AWP_kp [4] [(4, .int .i64 (-1))] rfl ?_
    refine AWP_ret (hO2 _ _ _ _ rfl ⟨rfl, ?_⟩)
    exact ⟨[.int .i64 (-1)], by simp, 4, by simp [encL_nil]⟩
   ·
    replace H := ifF C2 H
    refine AWP_skip ?_
    show K5 _ _
    refine keepE (l := [0, 1, 5]) (x := [(0, .fsl (encL rI p0)), (1, .int .i64 s1), (5, .int .i64 s2)]) rfl fun a' ha => ?_
    refine hK5 _ _ ?_; rw [ha]
    refine Rc.mk ?_
    refine AWP_rt tok [] [0, 1, 5] (fun a σ => a = [(0, .fsl (encL rI p0)), (1, .int .i64 (iadd .i64 s1 1)), (5, .int .i64 s2)] ∧ σ = hp E0 [] (M1 + 13)) (fun K hK => ?_) ?_
    ·
     skip
     simp -dsimp -implicitDefEqProofs (maxDischargeDepth := 6)
     exact hK _ _ ⟨rfl, rfl⟩
    rintro a σ ⟨ha, rfl⟩
    refine hK4 _ _ ?_; rw [ha]
    refine Rc.mk ?_
    refine AWP_rt tok [] [0, 1, 5] (fun a σ => a = [(0, .fsl (encL rI p0)), (1, .int .i64 (iadd .i64 s1 1)), (5, .int .i64 (iadd .i64 s2 1))] ∧ σ = hp E0 [] (M1 + 16)) (fun K hK => ?_) ?_
    ·
     skip
     simp -dsimp -implicitDefEqProofs (maxDischargeDepth := 6)
     exact hK _ _ ⟨rfl, rfl⟩
    rintro a σ ⟨ha, rfl⟩
    replace H := Option.some.inj H; subst H
    refine hK2 _ _ _ rfl ?_; rw [ha]
    exact Rc.fin (AHeap.Sub.refl _) ⟨M1 + 16, (by omega), rfl, rfl⟩
  ·
   replace H := ifF C1 H
   replace H := Option.some.inj H; subst H
   refine AWP_exit (hO2 _ _ _ _ rfl ⟨rfl, ?_⟩)
   refine Rc.rw (l := [1]) (X := [(1, .int .i64 s1)]) rfl ?_
   exact Rc.fin (AHeap.Sub.refl _) ⟨M1 + 4, (by omega), rfl, rfl⟩
 ·
  intro x a σ hx
  rcases e1 with y3 | r0
  ·
   obtain ⟨rfl, b, τ, hr, M2, fM2_0, rfl, rfl⟩ := hx
   dsimp only at H
   show K1 _ _
   refine hK1 _ _ (Rc_ref hr ?_)
   refine Rc.mk ?_
   refine AWP_sr tok [] [4] (fun a σ => a = [(4, .int .i64 y3)] ∧ σ = hp E0 [] (M2 + 2)) (fun K hK => ?_) ?_
   ·
    skip
    simp -dsimp -implicitDefEqProofs (maxDischargeDepth := 6)
    exact hK _ _ ⟨rfl, rfl⟩
   rintro a σ ⟨rfl, rfl⟩
   replace H := Option.some.inj H; subst H
   refine AWP_kp [4] [(4, .int .i64 y3)] rfl ?_
   refine AWP_ret ?_
   exact ⟨[.int .i64 y3], by simp, 4, by simp [encL_nil]⟩
  ·
   obtain ⟨rfl, hx2⟩ := hx
   dsimp only at H
   replace H := Option.some.inj H; subst H; exact hx2
theorem c56 {p0 : (List gMachine)} {p1 : Int} {r : Int} (H : l_szMachineS p0 p1 = some r) : APure Try.prog G 56 [.fsl (encL rMachine p0), .int .i64 p1] (.int .i64 r) := by
 refine APure_fn (fun N0 => ?_) (by simp)
 refine ACalls_fn tok Try.func56 (by kernel_rfl) rfl Try.ntmps56 Try.results56 rfl ?_
 simp only [argsA, Nat.reduceAdd, hp_next]
 unfold l_szMachineS at H
 refine AWP_sr tok [] [0, 1] (fun a σ => a = [(0, .fsl (encL rMachine p0)), (1, .int .i64 p1)] ∧ σ = hp E0 [] (N0 + 1)) (fun K hK => ?_) ?_
 ·
  skip
  simp -dsimp -implicitDefEqProofs (maxDischargeDepth := 6)
  exact hK _ _ ⟨rfl, rfl⟩
 rintro a σ ⟨rfl, rfl⟩
 refine AWP_sr tok [] [0, 1] (fun a σ => a = [(0, .fsl (encL rMachine p0)), (1, .int .i64 (isub .i64 p1 (ilen p0)))] ∧ σ = hp E0 [] (N0 + 6)) (fun K hK => ?_) ?_
 ·
  skip
  simp -dsimp -implicitDefEqProofs (maxDischargeDepth := 6)
  exact hK _ _ ⟨rfl, rfl⟩
 rintro a σ ⟨rfl, rfl⟩
 refine AWP_sq [0, 1] fun K1 hK1 => ?_
 refine AWP_sr tok [] [0, 1, 11] (fun a σ => a = [(0, .fsl (encL rMachine p0)), (1, .int .i64 (isub .i64 p1 (ilen p0))), (11, .bool (ilt (isub .i64 p1 (ilen p0)) 0))] ∧ σ = hp E0 [] (N0 + 8)) (fun K hK => ?_) ?_
 ·
  skip
  simp -dsimp -implicitDefEqProofs (maxDischargeDepth := 6)
  exact hK _ _ ⟨rfl, rfl⟩
 rintro a σ ⟨rfl, rfl⟩
 refine AWP_cond (ilt (isub .i64 p1 (ilen p0)) 0) rfl (fun C1 => ?_) (fun C1 => ?_)
 ·
  replace H := ifT C1 H
  refine AWP_sr tok [] [4] (fun a σ => a = [(4, .int .i64 (-1))] ∧ σ = hp E0 [] (N0 + 9)) (fun K hK => ?_) ?_
  ·
   skip
   simp -dsimp -implicitDefEqProofs (maxDischargeDepth := 6)
   exact hK _ _ ⟨rfl, rfl⟩
  rintro a σ ⟨rfl, rfl⟩
  replace H := Option.some.inj H; subst H
  refine AWP_kp [4] [(4, .int .i64 (-1))] rfl ?_
  refine AWP_ret ?_
  exact ⟨[.int .i64 (-1)], by simp, 4, by simp [encL_nil]⟩
 ·
  replace H := ifF C1 H
  refine AWP_skip ?_
  show K1 _ _
  refine keepE (l := [0, 1]) (x := [(0, .fsl (encL rMachine p0)), (1, .int .i64 (isub .i64 p1 (ilen p0)))]) rfl fun a' ha => ?_
  refine hK1 _ _ ?_; rw [ha]
  refine Rc.mk ?_
  refine AWP_sq [1] fun K2 hK2 => ?_
  refine AWP_sr tok [] [0, 1, 5] (fun a σ => a = [(0, .fsl (encL rMachine p0)), (1, .int .i64 (isub .i64 p1 (ilen p0))), (5, .int .i64 0)] ∧ σ = hp E0 [] (N0 + 9)) (fun K hK => ?_) ?_
  ·
   skip
   simp -dsimp -implicitDefEqProofs (maxDischargeDepth := 6)
   exact hK _ _ ⟨rfl, rfl⟩
  rintro a σ ⟨rfl, rfl⟩
  refine AWP_block (AWP_thenB ?_)
  obtain ⟨e1, hse1, H⟩ := bindE H
  refine AWP_lp [0, 1, 5] (fun s a σ => ∃ M1 : Nat, N0 ≤ M1 ∧ a = [(0, .fsl (encL rMachine p0)), (1, .int .i64 s.1), (5, .int .i64 s.2)] ∧ σ = hp E0 [] M1) (fun e x a σ => match e with | .inl s => x = .exit 0 ∧ Rc G 27 N0 (fun a σ => ∃ M2 : Nat, N0 ≤ M2 ∧ a = [(1, .int .i64 s)] ∧ σ = hp E0 [] M2) (AAct.keep a [1]) σ | .inr s => x = .ret ∧ ∃ vs, resA T σ a [.tmp 4] = some vs ∧ ∃ d, thawA (fun _ => true) σ d (tupA vs) = .int .i64 s) hse1 ?_ ?_ ?_
  ·
   refine Rc.kp [0, 1, 5] [(0, .fsl (encL rMachine p0)), (1, .int .i64 (isub .i64 p1 (ilen p0))), (5, .int .i64 0)] rfl ?_
   exact Rc.fin (AHeap.Sub.refl _) ⟨N0 + 9, (by omega), rfl, rfl⟩
  ·
   clear H hse1
   rintro ⟨s1, s2⟩ fl a σ H ⟨M1, fM1_0, rfl, rfl⟩ K3 O3 hK3 hO3
   unfold l_szMachineS_L1 at H; dsimp only at H
   refine AWP_sq [0, 1, 5] fun K4 hK4 => ?_
   refine AWP_sr tok [] [0, 1, 5, 15] (fun a σ => a = [(0, .fsl (encL rMachine p0)), (1, .int .i64 s1), (5, .int .i64 s2), (15, .bool (ilt s2 (ilen p0)))] ∧ σ = hp E0 [] (M1 + 4)) (fun K hK => ?_) ?_
   ·
    skip
    simp -dsimp -implicitDefEqProofs (maxDischargeDepth := 6)
    exact hK _ _ ⟨rfl, rfl⟩
   rintro a σ ⟨rfl, rfl⟩
   refine AWP_cond (ilt s2 (ilen p0)) rfl (fun C2 => ?_) (fun C2 => ?_)
   ·
    replace H := ifT C2 H
    refine AWP_skip ?_
    show K4 _ _
    refine keepE (l := [0, 1, 5]) (x := [(0, .fsl (encL rMachine p0)), (1, .int .i64 s1), (5, .int .i64 s2)]) rfl fun a' ha => ?_
    refine hK4 _ _ ?_; rw [ha]
    refine Rc.mk ?_
    refine AWP_sq [0, 1, 5] fun K5 hK5 => ?_
    refine AWP_block (AWP_thenB ?_)
    obtain ⟨v4, hv4, H⟩ := bindE H
    obtain ⟨r5, hr5, H⟩ := bindE H
    refine AWP_sr tok [] [0, 1, 5] (fun a σ => a = [(0, .fsl (encL rMachine p0)), (1, .int .i64 r5), (5, .int .i64 s2)] ∧ σ = hp E0 [] (M1 + 11)) (fun K hK => ?_) ?_
    ·
     skip
     simp -dsimp -implicitDefEqProofs (maxDischargeDepth := 6) [ix41 hv4]
     refine (c8 hr5).app ?_; try simp -dsimp -implicitDefEqProofs (maxDischargeDepth := 6) [ix41 hv4]
     exact hK _ _ ⟨rfl, rfl⟩
    rintro a σ ⟨rfl, rfl⟩
    refine AWP_sr tok [] [0, 1, 5, 25] (fun a σ => a = [(0, .fsl (encL rMachine p0)), (1, .int .i64 r5), (5, .int .i64 s2), (25, .bool (ilt r5 0))] ∧ σ = hp E0 [] (M1 + 13)) (fun K hK => ?_) ?_
    ·
     skip
     simp -dsimp -implicitDefEqProofs (maxDischargeDepth := 6)
     exact hK _ _ ⟨rfl, rfl⟩
    rintro a σ ⟨rfl, rfl⟩
    refine AWP_cond (ilt r5 0) rfl (fun C3 => ?_) (fun C3 => ?_)
    ·
     replace H := ifT C3 H
     refine AWP_sr tok [] [4] (fun a σ => a = [(4, .int .i64 (-1))] ∧ σ = hp E0 [] (M1 + 14)) (fun K hK => ?_) ?_
     ·
      skip
      simp -dsimp -implicitDefEqProofs (maxDischargeDepth := 6)
      exact hK _ _ ⟨rfl, rfl⟩
     rintro a σ ⟨rfl, rfl⟩
     replace H := Option.some.inj H; subst H
     refine AWP_kp [4] [(4, .int .i64 (-1))] rfl ?_
     refine AWP_ret (hO3 _ _ _ _ rfl ⟨rfl, ?_⟩)
     exact ⟨[.int .i64 (-1)], by simp, 4, by simp [encL_nil]⟩
    ·
     replace H := ifF C3 H
     refine AWP_skip ?_
     show K5 _ _
     refine keepE (l := [0, 1, 5]) (x := [(0, .fsl (encL rMachine p0)), (1, .int .i64 r5), (5, .int .i64 s2)]) rfl fun a' ha => ?_
     refine hK5 _ _ ?_; rw [ha]
     refine Rc.mk ?_
     refine AWP_rt tok [] [0, 1, 5] (fun a σ => a = [(0, .fsl (encL rMachine p0)), (1, .int .i64 r5), (5, .int .i64 (iadd .i64 s2 1))] ∧ σ = hp E0 [] (M1 + 16)) (fun K hK => ?_) ?_
     ·
      skip
      simp -dsimp -implicitDefEqProofs (maxDischargeDepth := 6)
      exact hK _ _ ⟨rfl, rfl⟩
     rintro a σ ⟨ha, rfl⟩
     replace H := Option.some.inj H; subst H
     refine hK3 _ _ _ rfl ?_; rw [ha]
     exact Rc.fin (AHeap.Sub.refl _) ⟨M1 + 16, (by omega), rfl, rfl⟩
   ·
    replace H := ifF C2 H
    replace H := Option.some.inj H; subst H
    refine AWP_exit (hO3 _ _ _ _ rfl ⟨rfl, ?_⟩)
    refine Rc.rw (l := [1]) (X := [(1, .int .i64 s1)]) rfl ?_
    exact Rc.fin (AHeap.Sub.refl _) ⟨M1 + 4, (by omega), rfl, rfl⟩
  ·
   intro x a σ hx
   rcases e1 with y3 | r0
   ·
    obtain ⟨rfl, b, τ, hr, M2, fM2_0, rfl, rfl⟩ := hx
    dsimp only at H
    show K2 _ _
    refine hK2 _ _ (Rc_ref hr ?_)
    refine Rc.mk ?_
    refine AWP_sr tok [] [4] (fun a σ => a = [(4, .int .i64 y3)] ∧ σ = hp E0 [] (M2 + 2)) (fun K hK => ?_) ?_
    ·
     skip
     simp -dsimp -implicitDefEqProofs (maxDischargeDepth := 6)
     exact hK _ _ ⟨rfl, rfl⟩
    rintro a σ ⟨rfl, rfl⟩
    replace H := Option.some.inj H; subst H
    refine AWP_kp [4] [(4, .int .i64 y3)] rfl ?_
    refine AWP_ret ?_
    exact ⟨[.int .i64 y3], by simp, 4, by simp [encL_nil]⟩
   ·
    obtain ⟨rfl, hx2⟩ := hx
    dsimp only at H
    replace H := Option.some.inj H; subst H; exact hx2
theorem c23 {p0 : gSquad} {p1 : Int} {r : Int} (H : l_szSquad p0 p1 = some r) : APure Try.prog G 23 [.agg [.fsl (encL rMachine p0.Harts), .fsl (encL rBox p0.Boxes), .int .i64 p0.Turn, .int .i64 p0.Idle, .fsl (encL rI p0.Out)], .int .i64 p1] (.int .i64 r) := by
 refine APure_fn (fun N0 => ?_) (by simp)
 refine ACalls_fn tok Try.func23 (by kernel_rfl) rfl Try.ntmps23 Try.results23 rfl ?_
 simp only [argsA, Nat.reduceAdd, hp_next]
 unfold l_szSquad at H
 refine AWP_sr tok [0] [1, 2] (fun a σ => a = [(1, .int .i64 p1), (2, .fptr [.fsl (encL rMachine p0.Harts), .fsl (encL rBox p0.Boxes), .int .i64 p0.Turn, .int .i64 p0.Idle, .fsl (encL rI p0.Out)] 0)] ∧ σ = hp E0 [] (N0 + 2)) (fun K hK => ?_) ?_
 ·
  skip
  simp -dsimp -implicitDefEqProofs (maxDischargeDepth := 6)
  exact hK _ _ ⟨rfl, rfl⟩
 rintro a σ ⟨rfl, rfl⟩
 obtain ⟨r1, hr1, H⟩ := bindE H
 refine AWP_sr tok [] [1, 2] (fun a σ => a = [(1, .int .i64 r1), (2, .fptr [.fsl (encL rMachine p0.Harts), .fsl (encL rBox p0.Boxes), .int .i64 p0.Turn, .int .i64 p0.Idle, .fsl (encL rI p0.Out)] 0)] ∧ σ = hp E0 [] (N0 + 7)) (fun K hK => ?_) ?_
 ·
  skip
  simp -dsimp -implicitDefEqProofs (maxDischargeDepth := 6)
  refine (c56 hr1).app ?_; try simp -dsimp -implicitDefEqProofs (maxDischargeDepth := 6)
  exact hK _ _ ⟨rfl, rfl⟩
 rintro a σ ⟨rfl, rfl⟩
 refine AWP_sq [1, 2] fun K1 hK1 => ?_
 refine AWP_sr tok [] [1, 2, 10] (fun a σ => a = [(1, .int .i64 r1), (2, .fptr [.fsl (encL rMachine p0.Harts), .fsl (encL rBox p0.Boxes), .int .i64 p0.Turn, .int .i64 p0.Idle, .fsl (encL rI p0.Out)] 0), (10, .bool (ilt r1 0))] ∧ σ = hp E0 [] (N0 + 9)) (fun K hK => ?_) ?_
 ·
  skip
  simp -dsimp -implicitDefEqProofs (maxDischargeDepth := 6)
  exact hK _ _ ⟨rfl, rfl⟩
 rintro a σ ⟨rfl, rfl⟩
 refine AWP_cond (ilt r1 0) rfl (fun C1 => ?_) (fun C1 => ?_)
 ·
  replace H := ifT C1 H
  refine AWP_sr tok [] [4] (fun a σ => a = [(4, .int .i64 (-1))] ∧ σ = hp E0 [] (N0 + 10)) (fun K hK => ?_) ?_
  ·
   skip
   simp -dsimp -implicitDefEqProofs (maxDischargeDepth := 6)
   exact hK _ _ ⟨rfl, rfl⟩
  rintro a σ ⟨rfl, rfl⟩
  replace H := Option.some.inj H; subst H
  refine AWP_kp [4] [(4, .int .i64 (-1))] rfl ?_
  refine AWP_ret ?_
  exact ⟨[.int .i64 (-1)], by simp, 4, by simp [encL_nil]⟩
 ·
  replace H := ifF C1 H
  refine AWP_skip ?_
  show K1 _ _
  refine keepE (l := [1, 2]) (x := [(1, .int .i64 r1), (2, .fptr [.fsl (encL rMachine p0.Harts), .fsl (encL rBox p0.Boxes), .int .i64 p0.Turn, .int .i64 p0.Idle, .fsl (encL rI p0.Out)] 0)]) rfl fun a' ha => ?_
  refine hK1 _ _ ?_; rw [ha]
  refine Rc.mk ?_
  obtain ⟨r2, hr2, H⟩ := bindE H
  refine AWP_sr tok [] [1, 2] (fun a σ => a = [(1, .int .i64 r2), (2, .fptr [.fsl (encL rMachine p0.Harts), .fsl (encL rBox p0.Boxes), .int .i64 p0.Turn, .int .i64 p0.Idle, .fsl (encL rI p0.Out)] 0)] ∧ σ = hp E0 [] (N0 + 14)) (fun K hK => ?_) ?_
  ·
   skip
   simp -dsimp -implicitDefEqProofs (maxDischargeDepth := 6)
   refine (c9 hr2).app ?_; try simp -dsimp -implicitDefEqProofs (maxDischargeDepth := 6)
   exact hK _ _ ⟨rfl, rfl⟩
  rintro a σ ⟨rfl, rfl⟩
  refine AWP_sq [1, 2] fun K2 hK2 => ?_
  refine AWP_sr tok [] [1, 2, 16] (fun a σ => a = [(1, .int .i64 r2), (2, .fptr [.fsl (encL rMachine p0.Harts), .fsl (encL rBox p0.Boxes), .int .i64 p0.Turn, .int .i64 p0.Idle, .fsl (encL rI p0.Out)] 0), (16, .bool (ilt r2 0))] ∧ σ = hp E0 [] (N0 + 16)) (fun K hK => ?_) ?_
  ·
   skip
   simp -dsimp -implicitDefEqProofs (maxDischargeDepth := 6)
   exact hK _ _ ⟨rfl, rfl⟩
  rintro a σ ⟨rfl, rfl⟩
  refine AWP_cond (ilt r2 0) rfl (fun C2 => ?_) (fun C2 => ?_)
  ·
   replace H := ifT C2 H
   refine AWP_sr tok [] [4] (fun a σ => a = [(4, .int .i64 (-1))] ∧ σ = hp E0 [] (N0 + 17)) (fun K hK => ?_) ?_
   ·
    skip
    simp -dsimp -implicitDefEqProofs (maxDischargeDepth := 6)
    exact hK _ _ ⟨rfl, rfl⟩
   rintro a σ ⟨rfl, rfl⟩
   replace H := Option.some.inj H; subst H
   refine AWP_kp [4] [(4, .int .i64 (-1))] rfl ?_
   refine AWP_ret ?_
   exact ⟨[.int .i64 (-1)], by simp, 4, by simp [encL_nil]⟩
  ·
   replace H := ifF C2 H
   refine AWP_skip ?_
   show K2 _ _
   refine keepE (l := [1, 2]) (x := [(1, .int .i64 r2), (2, .fptr [.fsl (encL rMachine p0.Harts), .fsl (encL rBox p0.Boxes), .int .i64 p0.Turn, .int .i64 p0.Idle, .fsl (encL rI p0.Out)] 0)]) rfl fun a' ha => ?_
   refine hK2 _ _ ?_; rw [ha]
   refine Rc.mk ?_
   obtain ⟨r3, hr3, H⟩ := bindE H
   refine AWP_sr tok [] [1] (fun a σ => a = [(1, .int .i64 r3)] ∧ σ = hp E0 [] (N0 + 21)) (fun K hK => ?_) ?_
   ·
    skip
    simp -dsimp -implicitDefEqProofs (maxDischargeDepth := 6)
    refine (c40 hr3).app ?_; try simp -dsimp -implicitDefEqProofs (maxDischargeDepth := 6)
    exact hK _ _ ⟨rfl, rfl⟩
   rintro a σ ⟨rfl, rfl⟩
   refine AWP_sq [1] fun K3 hK3 => ?_
   refine AWP_sr tok [] [1, 22] (fun a σ => a = [(1, .int .i64 r3), (22, .bool (ilt r3 0))] ∧ σ = hp E0 [] (N0 + 23)) (fun K hK => ?_) ?_
   ·
    skip
    simp -dsimp -implicitDefEqProofs (maxDischargeDepth := 6)
    exact hK _ _ ⟨rfl, rfl⟩
   rintro a σ ⟨rfl, rfl⟩
   refine AWP_cond (ilt r3 0) rfl (fun C3 => ?_) (fun C3 => ?_)
   ·
    replace H := ifT C3 H
    refine AWP_sr tok [] [4] (fun a σ => a = [(4, .int .i64 (-1))] ∧ σ = hp E0 [] (N0 + 24)) (fun K hK => ?_) ?_
    ·
     skip
     simp -dsimp -implicitDefEqProofs (maxDischargeDepth := 6)
     exact hK _ _ ⟨rfl, rfl⟩
    rintro a σ ⟨rfl, rfl⟩
    replace H := Option.some.inj H; subst H
    refine AWP_kp [4] [(4, .int .i64 (-1))] rfl ?_
    refine AWP_ret ?_
    exact ⟨[.int .i64 (-1)], by simp, 4, by simp [encL_nil]⟩
   ·
    replace H := ifF C3 H
    refine AWP_skip ?_
    show K3 _ _
    refine keepE (l := [1]) (x := [(1, .int .i64 r3)]) rfl fun a' ha => ?_
    refine hK3 _ _ ?_; rw [ha]
    refine Rc.mk ?_
    refine AWP_sr tok [] [4] (fun a σ => a = [(4, .int .i64 r3)] ∧ σ = hp E0 [] (N0 + 25)) (fun K hK => ?_) ?_
    ·
     skip
     simp -dsimp -implicitDefEqProofs (maxDischargeDepth := 6)
     exact hK _ _ ⟨rfl, rfl⟩
    rintro a σ ⟨rfl, rfl⟩
    replace H := Option.some.inj H; subst H
    refine AWP_kp [4] [(4, .int .i64 r3)] rfl ?_
    refine AWP_ret ?_
    exact ⟨[.int .i64 r3], by simp, 4, by simp [encL_nil]⟩
theorem c59 {p0 : (List gMachine)} {r : (List gMachine)} (H : l_toMachineS p0 = some r) : APure Try.prog G 59 [.fsl (encL rMachine p0)] (.fsl (encL rMachine r)) := by
 refine APure_fn (fun N0 => ?_) (by simp)
 refine ACalls_fn tok Try.func59 (by kernel_rfl) rfl Try.ntmps59 Try.results59 rfl ?_
 simp only [argsA, Nat.reduceAdd, hp_next]
 unfold l_toMachineS at H
 refine AWP_sr tok [] [0] (fun a σ => a = [(0, .fsl (encL rMachine p0))] ∧ σ = hp E0 [] (N0 + 1)) (fun K hK => ?_) ?_
 ·
  skip
  simp -dsimp -implicitDefEqProofs (maxDischargeDepth := 6)
  exact hK _ _ ⟨rfl, rfl⟩
 rintro a σ ⟨rfl, rfl⟩
 obtain ⟨l1, hl1, H⟩ := bindE H
 refine AWP_sr tok [] [0, 3] (fun a σ => a = [(0, .fsl (encL rMachine p0)), (3, .sl (N0 + 3) 0 l1.length)] ∧ σ = hp E0 [(N0 + 3, some ⟨28, 3, List.replicate (Int.toNat (ilen p0)) [.nilsl, .int .i64 0, .nilsl]⟩)] (N0 + 5)) (fun K hK => ?_) ?_
 ·
  skip
  simp -dsimp -implicitDefEqProofs (maxDischargeDepth := 6) [makr50 hl1]
  exact hK _ _ ⟨rfl, rfl⟩
 rintro a σ ⟨rfl, rfl⟩
 refine AWP_sq [3] fun K1 hK1 => ?_
 refine gRep AWP_ref (o := (N0 + 3)) (ty := 28) (sz := 3) (m := Int.toNat (ilen p0)) (c := [.nilsl, .int .i64 0, .nilsl]) (c' := [.fsl [], .int .i64 0, .fsl []]) (.frz (.same (.frz .nil))) [(N0 + 3, some ⟨28, 3, encL rMachine l1⟩)] (by simp (disch := omega)) (by rw [mak_rep (f := rMachine) (c := [.fsl [], .int .i64 0, .fsl []]) hl1 rfl]; simp) ?_
 refine AWP_sr tok [] [0, 3, 4] (fun a σ => a = [(0, .fsl (encL rMachine p0)), (3, .sl (N0 + 3) 0 l1.length), (4, .int .i64 0)] ∧ σ = hp E0 [(N0 + 3, some ⟨28, 3, encL rMachine l1⟩)] (N0 + 6)) (fun K hK => ?_) ?_
 ·
  skip
  simp -dsimp -implicitDefEqProofs (maxDischargeDepth := 6)
  exact hK _ _ ⟨rfl, rfl⟩
 rintro a σ ⟨rfl, rfl⟩
 refine AWP_block (AWP_thenB ?_)
 obtain ⟨e1, hse1, H⟩ := bindE H
 refine AWP_lp [0, 3, 4] (fun s a σ => ∃ M1 o1 : Nat, N0 ≤ M1 ∧ N0 ≤ o1 ∧ o1 < M1 ∧ a = [(0, .fsl (encL rMachine p0)), (3, .sl o1 0 s.2.length), (4, .int .i64 s.1)] ∧ σ = hp E0 [(o1, some ⟨28, 3, encL rMachine s.2⟩)] M1) (fun s x a σ => x = .exit 0 ∧ Rc G 23 N0 (fun a σ => ∃ M2 o2 : Nat, N0 ≤ M2 ∧ N0 ≤ o2 ∧ o2 < M2 ∧ a = [(3, .sl o2 0 s.length)] ∧ σ = hp E0 [(o2, some ⟨28, 3, encL rMachine s⟩)] M2) (AAct.keep a [3]) σ) hse1 ?_ ?_ ?_
 ·
  refine Rc.kp [0, 3, 4] [(0, .fsl (encL rMachine p0)), (3, .sl (N0 + 3) 0 l1.length), (4, .int .i64 0)] rfl ?_
  exact Rc.fin (AHeap.Sub.refl _) ⟨N0 + 6, (N0 + 3), (by omega), (by omega), (by omega), rfl, rfl⟩
 ·
  clear H hse1
  rintro ⟨s2, s3⟩ fl a σ H ⟨M1, o1, fM1_0, fM1_1, fM1_2, rfl, rfl⟩ K2 O2 hK2 hO2
  unfold l_toMachineS_L1 at H; dsimp only at H
  refine AWP_sq [0, 3, 4] fun K3 hK3 => ?_
  refine AWP_sr tok [] [0, 3, 4, 11] (fun a σ => a = [(0, .fsl (encL rMachine p0)), (3, .sl o1 0 s3.length), (4, .int .i64 s2), (11, .bool (ilt s2 (ilen p0)))] ∧ σ = hp E0 [(o1, some ⟨28, 3, encL rMachine s3⟩)] (M1 + 4)) (fun K hK => ?_) ?_
  ·
   skip
   simp -dsimp -implicitDefEqProofs (maxDischargeDepth := 6)
   exact hK _ _ ⟨rfl, rfl⟩
  rintro a σ ⟨rfl, rfl⟩
  refine AWP_cond (ilt s2 (ilen p0)) rfl (fun C1 => ?_) (fun C1 => ?_)
  ·
   replace H := ifT C1 H
   refine AWP_skip ?_
   show K3 _ _
   refine keepE (l := [0, 3, 4]) (x := [(0, .fsl (encL rMachine p0)), (3, .sl o1 0 s3.length), (4, .int .i64 s2)]) rfl fun a' ha => ?_
   refine hK3 _ _ ?_; rw [ha]
   refine Rc.mk ?_
   refine AWP_sq [0, 3, 4] fun K4 hK4 => ?_
   refine AWP_block (AWP_thenB ?_)
   obtain ⟨v5, hv5, H⟩ := bindE H
   obtain ⟨r6, hr6, H⟩ := bindE H
   obtain ⟨v7, hv7, H⟩ := bindE H
   obtain ⟨l8, hl8, H⟩ := bindE H
   refine AWP_rt tok [] [0, 3, 4] (fun a σ => a = [(0, .fsl (encL rMachine p0)), (3, .sl o1 0 s3.length), (4, .int .i64 s2)] ∧ σ = hp E0 [(o1, some ⟨28, 3, encL rMachine l8⟩)] (M1 + 13)) (fun K hK => ?_) ?_
   ·
    skip
    simp -dsimp -implicitDefEqProofs (maxDischargeDepth := 6) [ix41 hv5, ixo50 hv7, (idx_lt3 hv7).2.2, (setx_iff.1 hl8).2.symm]
    refine (c11 hr6).app ?_; try simp -dsimp -implicitDefEqProofs (maxDischargeDepth := 6) [ix41 hv5, ixo50 hv7, (idx_lt3 hv7).2.2, (setx_iff.1 hl8).2.symm]
    exact hK _ _ ⟨rfl, rfl⟩
   rintro a σ ⟨ha, rfl⟩
   (try rw [← setx_len hl8] at ha); (try rw [← setx_len hl8])
   refine hK4 _ _ ?_; rw [ha]
   refine Rc.mk ?_
   refine AWP_rt tok [] [0, 3, 4] (fun a σ => a = [(0, .fsl (encL rMachine p0)), (3, .sl o1 0 l8.length), (4, .int .i64 (iadd .i64 s2 1))] ∧ σ = hp E0 [(o1, some ⟨28, 3, encL rMachine l8⟩)] (M1 + 16)) (fun K hK => ?_) ?_
   ·
    skip
    simp -dsimp -implicitDefEqProofs (maxDischargeDepth := 6)
    exact hK _ _ ⟨rfl, rfl⟩
   rintro a σ ⟨ha, rfl⟩
   replace H := Option.some.inj H; subst H
   refine hK2 _ _ _ rfl ?_; rw [ha]
   exact Rc.fin (AHeap.Sub.refl _) ⟨M1 + 16, o1, (by omega), (by omega), (by omega), rfl, rfl⟩
  ·
   replace H := ifF C1 H
   replace H := Option.some.inj H; subst H
   refine AWP_exit (hO2 _ _ _ _ rfl ⟨rfl, ?_⟩)
   refine Rc.rw (l := [3]) (X := [(3, .sl o1 0 s3.length)]) rfl ?_
   exact Rc.fin (AHeap.Sub.refl _) ⟨M1 + 4, o1, (by omega), (by omega), (by omega), rfl, rfl⟩
 ·
  intro x a σ hx
  obtain ⟨y4, rfl⟩ : ∃ x, x = e1 := ⟨_, rfl⟩
  obtain ⟨rfl, b, τ, hr, M2, o2, fM2_0, fM2_1, fM2_2, rfl, rfl⟩ := hx
  dsimp only at H
  show K1 _ _
  refine hK1 _ _ (Rc_ref hr ?_)
  refine Rc.mk ?_
  refine AWP_sr tok [] [2] (fun a σ => a = [(2, .sl o2 0 y4.length)] ∧ σ = hp E0 [(o2, some ⟨28, 3, encL rMachine y4⟩)] (M2 + 2)) (fun K hK => ?_) ?_
  ·
   skip
   simp -dsimp -implicitDefEqProofs (maxDischargeDepth := 6)
   exact hK _ _ ⟨rfl, rfl⟩
  rintro a σ ⟨rfl, rfl⟩
  replace H := Option.some.inj H; subst H
  refine AWP_kp [2] [(2, .sl o2 0 y4.length)] rfl ?_
  refine AWP_ret ?_
  exact ⟨[.sl o2 0 y4.length], by simp, 4, by simp [encL_nil]⟩
theorem c25 {p0 : gSquad} {r : gSquad} (H : l_toSquad p0 = some r) : APure Try.prog G 25 [.agg [.fsl (encL rMachine p0.Harts), .fsl (encL rBox p0.Boxes), .int .i64 p0.Turn, .int .i64 p0.Idle, .fsl (encL rI p0.Out)]] (.agg [.fsl (encL rMachine r.Harts), .fsl (encL rBox r.Boxes), .int .i64 r.Turn, .int .i64 r.Idle, .fsl (encL rI r.Out)]) := by
 refine APure_fn (fun N0 => ?_) (by simp)
 refine ACalls_fn tok Try.func25 (by kernel_rfl) rfl Try.ntmps25 Try.results25 rfl ?_
 simp only [argsA, Nat.reduceAdd, hp_next]
 unfold l_toSquad at H
 refine AWP_sr tok [0] [1, 2] (fun a σ => a = [(1, .fptr [.fsl (encL rMachine p0.Harts), .fsl (encL rBox p0.Boxes), .int .i64 p0.Turn, .int .i64 p0.Idle, .fsl (encL rI p0.Out)] 0), (2, .ptr (N0 + 1) 0 0)] ∧ σ = hp E0 [(N0 + 1, some ⟨52, 5, [[.nilsl, .nilsl, .int .i64 0, .int .i64 0, .nilsl]]⟩)] (N0 + 2)) (fun K hK => ?_) ?_
 ·
  skip
  simp -dsimp -implicitDefEqProofs (maxDischargeDepth := 6)
  exact hK _ _ ⟨rfl, rfl⟩
 rintro a σ ⟨rfl, rfl⟩
 refine AWP_sr tok [] [1, 2, 3] (fun a σ => a = [(1, .fptr [.fsl (encL rMachine p0.Harts), .fsl (encL rBox p0.Boxes), .int .i64 p0.Turn, .int .i64 p0.Idle, .fsl (encL rI p0.Out)] 0), (2, .ptr (N0 + 1) 0 0), (3, .ptr (N0 + 2) 0 0)] ∧ σ = hp E0 [(N0 + 1, some ⟨52, 5, [[.nilsl, .nilsl, .int .i64 0, .int .i64 0, .nilsl]]⟩), (N0 + 2, some ⟨52, 5, [[.nilsl, .nilsl, .int .i64 0, .int .i64 0, .nilsl]]⟩)] (N0 + 3)) (fun K hK => ?_) ?_
 ·
  skip
  simp -dsimp -implicitDefEqProofs (maxDischargeDepth := 6)
  exact hK _ _ ⟨rfl, rfl⟩
 rintro a σ ⟨rfl, rfl⟩
 refine gWkC AWP_ref (o := (N0 + 1)) (ob := ⟨52, 5, [[.nilsl, .nilsl, .int .i64 0, .int .i64 0, .nilsl]]⟩) (row := [.nilsl, .nilsl, .int .i64 0, .int .i64 0, .nilsl]) (r := 0) (i := 0) [(N0 + 1, some ⟨52, 5, [[.fsl [], .nilsl, .int .i64 0, .int .i64 0, .nilsl]]⟩), (N0 + 2, some ⟨52, 5, [[.nilsl, .nilsl, .int .i64 0, .int .i64 0, .nilsl]]⟩)] (by simp (disch := omega)) rfl rfl (by simp (disch := omega)) (by simp (disch := omega) [encL_nil, List.set_set, app_set]) ?_
 refine gWkC AWP_ref (o := (N0 + 1)) (ob := ⟨52, 5, [[.fsl [], .nilsl, .int .i64 0, .int .i64 0, .nilsl]]⟩) (row := [.fsl [], .nilsl, .int .i64 0, .int .i64 0, .nilsl]) (r := 0) (i := 1) [(N0 + 1, some ⟨52, 5, [[.fsl [], .fsl [], .int .i64 0, .int .i64 0, .nilsl]]⟩), (N0 + 2, some ⟨52, 5, [[.nilsl, .nilsl, .int .i64 0, .int .i64 0, .nilsl]]⟩)] (by simp (disch := omega)) rfl rfl (by simp (disch := omega)) (by simp (disch := omega) [encL_nil, List.set_set, app_set]) ?_
 refine gWkC AWP_ref (o := (N0 + 1)) (ob := ⟨52, 5, [[.fsl [], .fsl [], .int .i64 0, .int .i64 0, .nilsl]]⟩) (row := [.fsl [], .fsl [], .int .i64 0, .int .i64 0, .nilsl]) (r := 0) (i := 4) [(N0 + 1, some ⟨52, 5, [[.fsl [], .fsl [], .int .i64 0, .int .i64 0, .fsl []]]⟩), (N0 + 2, some ⟨52, 5, [[.nilsl, .nilsl, .int .i64 0, .int .i64 0, .nilsl]]⟩)] (by simp (disch := omega)) rfl rfl (by simp (disch := omega)) (by simp (disch := omega) [encL_nil, List.set_set, app_set]) ?_
 refine gWkC AWP_ref (o := (N0 + 2)) (ob := ⟨52, 5, [[.nilsl, .nilsl, .int .i64 0, .int .i64 0, .nilsl]]⟩) (row := [.nilsl, .nilsl, .int .i64 0, .int .i64 0, .nilsl]) (r := 0) (i := 0) [(N0 + 1, some ⟨52, 5, [[.fsl [], .fsl [], .int .i64 0, .int .i64 0, .fsl []]]⟩), (N0 + 2, some ⟨52, 5, [[.fsl [], .nilsl, .int .i64 0, .int .i64 0, .nilsl]]⟩)] (by simp (disch := omega)) rfl rfl (by simp (disch := omega)) (by simp (disch := omega) [encL_nil, List.set_set, app_set]) ?_
 refine gWkC AWP_ref (o := (N0 + 2)) (ob := ⟨52, 5, [[.fsl [], .nilsl, .int .i64 0, .int .i64 0, .nilsl]]⟩) (row := [.fsl [], .nilsl, .int .i64 0, .int .i64 0, .nilsl]) (r := 0) (i := 1) [(N0 + 1, some ⟨52, 5, [[.fsl [], .fsl [], .int .i64 0, .int .i64 0, .fsl []]]⟩), (N0 + 2, some ⟨52, 5, [[.fsl [], .fsl [], .int .i64 0, .int .i64 0, .nilsl]]⟩)] (by simp (disch := omega)) rfl rfl (by simp (disch := omega)) (by simp (disch := omega) [encL_nil, List.set_set, app_set]) ?_
 refine gWkC AWP_ref (o := (N0 + 2)) (ob := ⟨52, 5, [[.fsl [], .fsl [], .int .i64 0, .int .i64 0, .nilsl]]⟩) (row := [.fsl [], .fsl [], .int .i64 0, .int .i64 0, .nilsl]) (r := 0) (i := 4) [(N0 + 1, some ⟨52, 5, [[.fsl [], .fsl [], .int .i64 0, .int .i64 0, .fsl []]]⟩), (N0 + 2, some ⟨52, 5, [[.fsl [], .fsl [], .int .i64 0, .int .i64 0, .fsl []]]⟩)] (by simp (disch := omega)) rfl rfl (by simp (disch := omega)) (by simp (disch := omega) [encL_nil, List.set_set, app_set]) ?_
 obtain ⟨r1, hr1, H⟩ := bindE H
 refine AWP_sr tok [] [1, 2, 3] (fun a σ => a = [(1, .fptr [.fsl (encL rMachine p0.Harts), .fsl (encL rBox p0.Boxes), .int .i64 p0.Turn, .int .i64 p0.Idle, .fsl (encL rI p0.Out)] 0), (2, .ptr (N0 + 1) 0 0), (3, .ptr (N0 + 2) 0 0)] ∧ σ = hp E0 [(N0 + 1, some ⟨52, 5, [[.fsl [], .fsl [], .int .i64 0, .int .i64 0, .fsl []]]⟩), (N0 + 2, some ⟨52, 5, [[.fsl (encL rMachine r1), .fsl [], .int .i64 0, .int .i64 0, .fsl []]]⟩)] (N0 + 8)) (fun K hK => ?_) ?_
 ·
  skip
  simp -dsimp -implicitDefEqProofs (maxDischargeDepth := 6)
  refine (c59 hr1).app ?_; try simp -dsimp -implicitDefEqProofs (maxDischargeDepth := 6)
  exact hK _ _ ⟨rfl, rfl⟩
 rintro a σ ⟨rfl, rfl⟩
 obtain ⟨r2, hr2, H⟩ := bindE H
 refine AWP_sr tok [] [1, 2, 3] (fun a σ => a = [(1, .fptr [.fsl (encL rMachine p0.Harts), .fsl (encL rBox p0.Boxes), .int .i64 p0.Turn, .int .i64 p0.Idle, .fsl (encL rI p0.Out)] 0), (2, .ptr (N0 + 1) 0 0), (3, .ptr (N0 + 2) 0 0)] ∧ σ = hp E0 [(N0 + 1, some ⟨52, 5, [[.fsl [], .fsl [], .int .i64 0, .int .i64 0, .fsl []]]⟩), (N0 + 2, some ⟨52, 5, [[.fsl (encL rMachine r1), .fsl (encL rBox r2), .int .i64 0, .int .i64 0, .fsl []]]⟩)] (N0 + 13)) (fun K hK => ?_) ?_
 ·
  skip
  simp -dsimp -implicitDefEqProofs (maxDischargeDepth := 6)
  refine (c12 hr2).app ?_; try simp -dsimp -implicitDefEqProofs (maxDischargeDepth := 6)
  exact hK _ _ ⟨rfl, rfl⟩
 rintro a σ ⟨rfl, rfl⟩
 refine AWP_sr tok [] [1, 2, 3] (fun a σ => a = [(1, .fptr [.fsl (encL rMachine p0.Harts), .fsl (encL rBox p0.Boxes), .int .i64 p0.Turn, .int .i64 p0.Idle, .fsl (encL rI p0.Out)] 0), (2, .ptr (N0 + 1) 0 0), (3, .ptr (N0 + 2) 0 0)] ∧ σ = hp E0 [(N0 + 1, some ⟨52, 5, [[.fsl [], .fsl [], .int .i64 0, .int .i64 0, .fsl []]]⟩), (N0 + 2, some ⟨52, 5, [[.fsl (encL rMachine r1), .fsl (encL rBox r2), .int .i64 p0.Turn, .int .i64 0, .fsl []]]⟩)] (N0 + 17)) (fun K hK => ?_) ?_
 ·
  skip
  simp -dsimp -implicitDefEqProofs (maxDischargeDepth := 6)
  exact hK _ _ ⟨rfl, rfl⟩
 rintro a σ ⟨rfl, rfl⟩
 refine AWP_sr tok [] [1, 2, 3] (fun a σ => a = [(1, .fptr [.fsl (encL rMachine p0.Harts), .fsl (encL rBox p0.Boxes), .int .i64 p0.Turn, .int .i64 p0.Idle, .fsl (encL rI p0.Out)] 0), (2, .ptr (N0 + 1) 0 0), (3, .ptr (N0 + 2) 0 0)] ∧ σ = hp E0 [(N0 + 1, some ⟨52, 5, [[.fsl [], .fsl [], .int .i64 0, .int .i64 0, .fsl []]]⟩), (N0 + 2, some ⟨52, 5, [[.fsl (encL rMachine r1), .fsl (encL rBox r2), .int .i64 p0.Turn, .int .i64 p0.Idle, .fsl []]]⟩)] (N0 + 21)) (fun K hK => ?_) ?_
 ·
  skip
  simp -dsimp -implicitDefEqProofs (maxDischargeDepth := 6)
  exact hK _ _ ⟨rfl, rfl⟩
 rintro a σ ⟨rfl, rfl⟩
 obtain ⟨r3, hr3, H⟩ := bindE H
 refine AWP_sr tok [] [2, 3] (fun a σ => a = [(2, .ptr (N0 + 1) 0 0), (3, .ptr (N0 + 2) 0 0)] ∧ σ = hp E0 [(N0 + 1, some ⟨52, 5, [[.fsl [], .fsl [], .int .i64 0, .int .i64 0, .fsl []]]⟩), (N0 + 2, some ⟨52, 5, [[.fsl (encL rMachine r1), .fsl (encL rBox r2), .int .i64 p0.Turn, .int .i64 p0.Idle, .fsl (encL rI r3)]]⟩)] (N0 + 26)) (fun K hK => ?_) ?_
 ·
  skip
  simp -dsimp -implicitDefEqProofs (maxDischargeDepth := 6)
  refine (c48 hr3).app ?_; try simp -dsimp -implicitDefEqProofs (maxDischargeDepth := 6)
  exact hK _ _ ⟨rfl, rfl⟩
 rintro a σ ⟨rfl, rfl⟩
 refine AWP_sr tok [] [2] (fun a σ => a = [(2, .ptr (N0 + 1) 0 0)] ∧ σ = hp E0 [(N0 + 1, some ⟨52, 5, [[.fsl (encL rMachine r1), .fsl (encL rBox r2), .int .i64 p0.Turn, .int .i64 p0.Idle, .fsl (encL rI r3)]]⟩), (N0 + 2, some ⟨52, 5, [[.fsl (encL rMachine r1), .fsl (encL rBox r2), .int .i64 p0.Turn, .int .i64 p0.Idle, .fsl (encL rI r3)]]⟩)] (N0 + 28)) (fun K hK => ?_) ?_
 ·
  skip
  simp -dsimp -implicitDefEqProofs (maxDischargeDepth := 6)
  exact hK _ _ ⟨rfl, rfl⟩
 rintro a σ ⟨rfl, rfl⟩
 replace H := Option.some.inj H; subst H
 refine AWP_kp [2] [(2, .ptr (N0 + 1) 0 0)] rfl ?_
 refine AWP_ret ?_
 exact ⟨[.agg [.fsl (encL rMachine r1), .fsl (encL rBox r2), .int .i64 p0.Turn, .int .i64 p0.Idle, .fsl (encL rI r3)]], by simp, 4, by simp [encL_nil]⟩
theorem c57 {p0 : gSquad} {r : Bool} (H : s_l45Valid p0 = some r) : APure Try.prog G 57 [.agg [.fsl (encL rMachine p0.Harts), .fsl (encL rBox p0.Boxes), .int .i64 p0.Turn, .int .i64 p0.Idle, .fsl (encL rI p0.Out)]] (.bool r) := by
 refine APure_fn (fun N0 => ?_) (by simp)
 refine ACalls_fn tok Try.func57 (by kernel_rfl) rfl Try.ntmps57 Try.results57 rfl ?_
 simp only [argsA, Nat.reduceAdd, hp_next]
 unfold s_l45Valid at H
 refine AWP_sr tok [0] [1] (fun a σ => a = [(1, .fptr [.fsl (encL rMachine p0.Harts), .fsl (encL rBox p0.Boxes), .int .i64 p0.Turn, .int .i64 p0.Idle, .fsl (encL rI p0.Out)] 0)] ∧ σ = hp E0 [] (N0 + 2)) (fun K hK => ?_) ?_
 ·
  skip
  simp -dsimp -implicitDefEqProofs (maxDischargeDepth := 6)
  exact hK _ _ ⟨rfl, rfl⟩
 rintro a σ ⟨rfl, rfl⟩
 refine AWP_sr tok [] [1, 3] (fun a σ => a = [(1, .fptr [.fsl (encL rMachine p0.Harts), .fsl (encL rBox p0.Boxes), .int .i64 p0.Turn, .int .i64 p0.Idle, .fsl (encL rI p0.Out)] 0), (3, .int .i64 (ilen p0.Harts))] ∧ σ = hp E0 [] (N0 + 6)) (fun K hK => ?_) ?_
 ·
  skip
  simp -dsimp -implicitDefEqProofs (maxDischargeDepth := 6)
  exact hK _ _ ⟨rfl, rfl⟩
 rintro a σ ⟨rfl, rfl⟩
 refine AWP_sq [1, 3] fun K1 hK1 => ?_
 obtain ⟨r1, hr1, H⟩ := bindE H
 obtain ⟨g3, hg3, H⟩ := bindE H
 obtain ⟨g5, hg5, H⟩ := bindE H
 obtain ⟨g7, hg7, H⟩ := bindE H
 refine AWP_sr tok [] [1, 3, 31] (fun a σ => a = [(1, .fptr [.fsl (encL rMachine p0.Harts), .fsl (encL rBox p0.Boxes), .int .i64 p0.Turn, .int .i64 p0.Idle, .fsl (encL rI p0.Out)] 0), (3, .int .i64 (ilen p0.Harts)), (31, .bool g7)] ∧ σ = hp E0 [] (N0 + 30)) (fun K hK => ?_) ?_
 ·
  skip
  simp -dsimp -implicitDefEqProofs (maxDischargeDepth := 6)
  refine (c83 hr1).app ?_; try simp -dsimp -implicitDefEqProofs (maxDischargeDepth := 6)
  cases hbg3 : bnot r1
  ·
   replace hg3 := ifF hbg3 hg3
   obtain ⟨r2, hr2, hg3⟩ := bindE hg3
   replace hg3 := Option.some.inj hg3; subst hg3
   try simp -dsimp -implicitDefEqProofs (maxDischargeDepth := 6) [hbg3]
   refine (c43 hr2).app ?_; try simp -dsimp -implicitDefEqProofs (maxDischargeDepth := 6) [hbg3]
   cases hbg5 : (bnot r2)
   ·
    replace hg5 := ifF hbg5 hg5
    obtain ⟨r4, hr4, hg5⟩ := bindE hg5
    replace hg5 := Option.some.inj hg5; subst hg5
    try simp -dsimp -implicitDefEqProofs (maxDischargeDepth := 6) [hbg3, hbg5]
    refine (c83 hr4).app ?_; try simp -dsimp -implicitDefEqProofs (maxDischargeDepth := 6) [hbg3, hbg5]
    cases hbg7 : (bnot r4)
    ·
     replace hg7 := ifF hbg7 hg7
     obtain ⟨r6, hr6, hg7⟩ := bindE hg7
     replace hg7 := Option.some.inj hg7; subst hg7
     try simp -dsimp -implicitDefEqProofs (maxDischargeDepth := 6) [hbg3, hbg5, hbg7]
     refine (c83 hr6).app ?_; try simp -dsimp -implicitDefEqProofs (maxDischargeDepth := 6) [hbg3, hbg5, hbg7]
     exact hK _ _ ⟨rfl, rfl⟩
    ·
     replace hg7 := ifT hbg7 hg7
     replace hg7 := Option.some.inj hg7; subst hg7
     try simp -dsimp -implicitDefEqProofs (maxDischargeDepth := 6) [hbg3, hbg5, hbg7]
     exact hK _ _ ⟨rfl, rfl⟩
   ·
    replace hg5 := ifT hbg5 hg5
    replace hg5 := Option.some.inj hg5; subst hg5
    try simp -dsimp -implicitDefEqProofs (maxDischargeDepth := 6) [hbg3, hbg5]
    replace hg7 := ifT rfl hg7
    replace hg7 := Option.some.inj hg7; subst hg7
    try simp -dsimp -implicitDefEqProofs (maxDischargeDepth := 6) [hbg3, hbg5]
    exact hK _ _ ⟨rfl, rfl⟩
  ·
   replace hg3 := ifT hbg3 hg3
   replace hg3 := Option.some.inj hg3; subst hg3
   try simp -dsimp -implicitDefEqProofs (maxDischargeDepth := 6) [hbg3]
   replace hg5 := ifT rfl hg5
   replace hg5 := Option.some.inj hg5; subst hg5
   try simp -dsimp -implicitDefEqProofs (maxDischargeDepth := 6) [hbg3]
   replace hg7 := ifT rfl hg7
   replace hg7 := Option.some.inj hg7; subst hg7
   try simp -dsimp -implicitDefEqProofs (maxDischargeDepth := 6) [hbg3]
   exact hK _ _ ⟨rfl, rfl⟩
 rintro a σ ⟨rfl, rfl⟩
 refine AWP_cond g7 rfl (fun C1 => ?_) (fun C1 => ?_)
 ·
  replace H := ifT C1 H
  refine AWP_sr tok [] [2] (fun a σ => a = [(2, .bool false)] ∧ σ = hp E0 [] (N0 + 31)) (fun K hK => ?_) ?_
  ·
   skip
   simp -dsimp -implicitDefEqProofs (maxDischargeDepth := 6)
   exact hK _ _ ⟨rfl, rfl⟩
  rintro a σ ⟨rfl, rfl⟩
  replace H := Option.some.inj H; subst H
  refine AWP_kp [2] [(2, .bool false)] rfl ?_
  refine AWP_ret ?_
  exact ⟨[.bool false], by simp, 4, by simp [encL_nil]⟩
 ·
  replace H := ifF C1 H
  refine AWP_skip ?_
  show K1 _ _
  refine keepE (l := [1, 3]) (x := [(1, .fptr [.fsl (encL rMachine p0.Harts), .fsl (encL rBox p0.Boxes), .int .i64 p0.Turn, .int .i64 p0.Idle, .fsl (encL rI p0.Out)] 0), (3, .int .i64 (ilen p0.Harts))]) rfl fun a' ha => ?_
  refine hK1 _ _ ?_; rw [ha]
  refine Rc.mk ?_
  refine AWP_sq [1] fun K2 hK2 => ?_
  refine AWP_sr tok [] [1, 3, 4] (fun a σ => a = [(1, .fptr [.fsl (encL rMachine p0.Harts), .fsl (encL rBox p0.Boxes), .int .i64 p0.Turn, .int .i64 p0.Idle, .fsl (encL rI p0.Out)] 0), (3, .int .i64 (ilen p0.Harts)), (4, .int .i64 0)] ∧ σ = hp E0 [] (N0 + 31)) (fun K hK => ?_) ?_
  ·
   skip
   simp -dsimp -implicitDefEqProofs (maxDischargeDepth := 6)
   exact hK _ _ ⟨rfl, rfl⟩
  rintro a σ ⟨rfl, rfl⟩
  refine AWP_block (AWP_thenB ?_)
  obtain ⟨e1, hse1, H⟩ := bindE H
  refine AWP_lp [1, 3, 4] (fun s a σ => ∃ M1 : Nat, N0 ≤ M1 ∧ a = [(1, .fptr [.fsl (encL rMachine p0.Harts), .fsl (encL rBox p0.Boxes), .int .i64 p0.Turn, .int .i64 p0.Idle, .fsl (encL rI p0.Out)] 0), (3, .int .i64 (ilen p0.Harts)), (4, .int .i64 s)] ∧ σ = hp E0 [] M1) (fun e x a σ => match e with | .inl s => x = .exit 0 ∧ Rc G 50 N0 (fun a σ => ∃ M2 : Nat, N0 ≤ M2 ∧ a = [(1, .fptr [.fsl (encL rMachine p0.Harts), .fsl (encL rBox p0.Boxes), .int .i64 p0.Turn, .int .i64 p0.Idle, .fsl (encL rI p0.Out)] 0)] ∧ σ = hp E0 [] M2) (AAct.keep a [1]) σ | .inr s => x = .ret ∧ ∃ vs, resA T σ a [.tmp 2] = some vs ∧ ∃ d, thawA (fun _ => true) σ d (tupA vs) = .bool s) hse1 ?_ ?_ ?_
  ·
   refine Rc.kp [1, 3, 4] [(1, .fptr [.fsl (encL rMachine p0.Harts), .fsl (encL rBox p0.Boxes), .int .i64 p0.Turn, .int .i64 p0.Idle, .fsl (encL rI p0.Out)] 0), (3, .int .i64 (ilen p0.Harts)), (4, .int .i64 0)] rfl ?_
   exact Rc.fin (AHeap.Sub.refl _) ⟨N0 + 31, (by omega), rfl, rfl⟩
  ·
   clear H hse1
   rintro s8 fl a σ H ⟨M1, fM1_0, rfl, rfl⟩ K3 O3 hK3 hO3
   unfold s_l45Valid_L1 at H; dsimp only at H
   refine AWP_sq [1, 3, 4] fun K4 hK4 => ?_
   refine AWP_sr tok [] [1, 3, 4, 34] (fun a σ => a = [(1, .fptr [.fsl (encL rMachine p0.Harts), .fsl (encL rBox p0.Boxes), .int .i64 p0.Turn, .int .i64 p0.Idle, .fsl (encL rI p0.Out)] 0), (3, .int .i64 (ilen p0.Harts)), (4, .int .i64 s8), (34, .bool (ilt s8 (ilen p0.Harts)))] ∧ σ = hp E0 [] (M1 + 3)) (fun K hK => ?_) ?_
   ·
    skip
    simp -dsimp -implicitDefEqProofs (maxDischargeDepth := 6)
    exact hK _ _ ⟨rfl, rfl⟩
   rintro a σ ⟨rfl, rfl⟩
   refine AWP_cond (ilt s8 (ilen p0.Harts)) rfl (fun C2 => ?_) (fun C2 => ?_)
   ·
    replace H := ifT C2 H
    refine AWP_skip ?_
    show K4 _ _
    refine keepE (l := [1, 3, 4]) (x := [(1, .fptr [.fsl (encL rMachine p0.Harts), .fsl (encL rBox p0.Boxes), .int .i64 p0.Turn, .int .i64 p0.Idle, .fsl (encL rI p0.Out)] 0), (3, .int .i64 (ilen p0.Harts)), (4, .int .i64 s8)]) rfl fun a' ha => ?_
    refine hK4 _ _ ?_; rw [ha]
    refine Rc.mk ?_
    refine AWP_sq [1, 3, 4] fun K5 hK5 => ?_
    refine AWP_block (AWP_thenB ?_)
    obtain ⟨v9, hv9, H⟩ := bindE H
    obtain ⟨r10, hr10, H⟩ := bindE H
    refine AWP_sr tok [] [1, 3, 4, 43] (fun a σ => a = [(1, .fptr [.fsl (encL rMachine p0.Harts), .fsl (encL rBox p0.Boxes), .int .i64 p0.Turn, .int .i64 p0.Idle, .fsl (encL rI p0.Out)] 0), (3, .int .i64 (ilen p0.Harts)), (4, .int .i64 s8), (43, .bool (bnot r10))] ∧ σ = hp E0 [] (M1 + 10)) (fun K hK => ?_) ?_
    ·
     skip
     simp -dsimp -implicitDefEqProofs (maxDischargeDepth := 6) [ix50 hv9]
     refine (c42 hr10).app ?_; try simp -dsimp -implicitDefEqProofs (maxDischargeDepth := 6) [ix50 hv9]
     exact hK _ _ ⟨rfl, rfl⟩
    rintro a σ ⟨rfl, rfl⟩
    refine AWP_cond (bnot r10) rfl (fun C3 => ?_) (fun C3 => ?_)
    ·
     replace H := ifT C3 H
     refine AWP_sr tok [] [2] (fun a σ => a = [(2, .bool false)] ∧ σ = hp E0 [] (M1 + 11)) (fun K hK => ?_) ?_
     ·
      skip
      simp -dsimp -implicitDefEqProofs (maxDischargeDepth := 6)
      exact hK _ _ ⟨rfl, rfl⟩
     rintro a σ ⟨rfl, rfl⟩
     replace H := Option.some.inj H; subst H
     refine AWP_kp [2] [(2, .bool false)] rfl ?_
     refine AWP_ret (hO3 _ _ _ _ rfl ⟨rfl, ?_⟩)
     exact ⟨[.bool false], by simp, 4, by simp [encL_nil]⟩
    ·
     replace H := ifF C3 H
     refine AWP_skip ?_
     show K5 _ _
     refine keepE (l := [1, 3, 4]) (x := [(1, .fptr [.fsl (encL rMachine p0.Harts), .fsl (encL rBox p0.Boxes), .int .i64 p0.Turn, .int .i64 p0.Idle, .fsl (encL rI p0.Out)] 0), (3, .int .i64 (ilen p0.Harts)), (4, .int .i64 s8)]) rfl fun a' ha => ?_
     refine hK5 _ _ ?_; rw [ha]
     refine Rc.mk ?_
     refine AWP_rt tok [] [1, 3, 4] (fun a σ => a = [(1, .fptr [.fsl (encL rMachine p0.Harts), .fsl (encL rBox p0.Boxes), .int .i64 p0.Turn, .int .i64 p0.Idle, .fsl (encL rI p0.Out)] 0), (3, .int .i64 (ilen p0.Harts)), (4, .int .i64 (iadd .i64 s8 1))] ∧ σ = hp E0 [] (M1 + 13)) (fun K hK => ?_) ?_
     ·
      skip
      simp -dsimp -implicitDefEqProofs (maxDischargeDepth := 6)
      exact hK _ _ ⟨rfl, rfl⟩
     rintro a σ ⟨ha, rfl⟩
     replace H := Option.some.inj H; subst H
     refine hK3 _ _ _ rfl ?_; rw [ha]
     exact Rc.fin (AHeap.Sub.refl _) ⟨M1 + 13, (by omega), rfl, rfl⟩
   ·
    replace H := ifF C2 H
    replace H := Option.some.inj H; subst H
    refine AWP_exit (hO3 _ _ _ _ rfl ⟨rfl, ?_⟩)
    refine Rc.rw (l := [1]) (X := [(1, .fptr [.fsl (encL rMachine p0.Harts), .fsl (encL rBox p0.Boxes), .int .i64 p0.Turn, .int .i64 p0.Idle, .fsl (encL rI p0.Out)] 0)]) rfl ?_
    exact Rc.fin (AHeap.Sub.refl _) ⟨M1 + 3, (by omega), rfl, rfl⟩
  ·
   intro x a σ hx
   rcases e1 with ⟨⟩ | r0
   ·
    obtain ⟨rfl, b, τ, hr, M2, fM2_0, rfl, rfl⟩ := hx
    dsimp only at H
    show K2 _ _
    refine hK2 _ _ (Rc_ref hr ?_)
    refine Rc.mk ?_
    obtain ⟨r11, hr11, H⟩ := bindE H
    refine AWP_sr tok [] [2] (fun a σ => a = [(2, .bool r11)] ∧ σ = hp E0 [] (M2 + 7)) (fun K hK => ?_) ?_
    ·
     skip
     simp -dsimp -implicitDefEqProofs (maxDischargeDepth := 6)
     refine (c80 hr11).app ?_; try simp -dsimp -implicitDefEqProofs (maxDischargeDepth := 6)
     exact hK _ _ ⟨rfl, rfl⟩
    rintro a σ ⟨rfl, rfl⟩
    replace H := Option.some.inj H; subst H
    refine AWP_kp [2] [(2, .bool r11)] rfl ?_
    refine AWP_ret ?_
    exact ⟨[.bool r11], by simp, 4, by simp [encL_nil]⟩
   ·
    obtain ⟨rfl, hx2⟩ := hx
    dsimp only at H
    replace H := Option.some.inj H; subst H; exact hx2
theorem c58 {p0 : (List gBox)} {r : (List (List Int))} (H : s_l16Items p0 = some r) : APure Try.prog G 58 [.fsl (encL rBox p0)] (.fsl (encL rL_I r)) := by
 refine APure_fn (fun N0 => ?_) (by simp)
 refine ACalls_fn tok Try.func58 (by kernel_rfl) rfl Try.ntmps58 Try.results58 rfl ?_
 simp only [argsA, Nat.reduceAdd, hp_next]
 unfold s_l16Items at H
 refine AWP_sr tok [] [0] (fun a σ => a = [(0, .fsl (encL rBox p0))] ∧ σ = hp E0 [] (N0 + 1)) (fun K hK => ?_) ?_
 ·
  skip
  simp -dsimp -implicitDefEqProofs (maxDischargeDepth := 6)
  exact hK _ _ ⟨rfl, rfl⟩
 rintro a σ ⟨rfl, rfl⟩
 have q0 : ∀ σ i, buildSliceA T 45 true i 0 [] σ = some (.esl, σ) := fun _ _ => rfl
 refine AWP_sr tok [0] [0, 3] (fun a σ => a = [(0, .fsl (encL rBox p0)), (3, .esl)] ∧ σ = hp E0 [] (N0 + 3)) (fun K hK => ?_) ?_
 ·
  skip
  simp -dsimp -implicitDefEqProofs (maxDischargeDepth := 6) [q0]
  exact hK _ _ ⟨rfl, rfl⟩
 rintro a σ ⟨rfl, rfl⟩
 refine AWP_sq [3] fun K1 hK1 => ?_
 refine AWP_sr tok [] [0, 3, 4] (fun a σ => a = [(0, .fsl (encL rBox p0)), (3, .esl), (4, .int .i64 0)] ∧ σ = hp E0 [] (N0 + 4)) (fun K hK => ?_) ?_
 ·
  skip
  simp -dsimp -implicitDefEqProofs (maxDischargeDepth := 6)
  exact hK _ _ ⟨rfl, rfl⟩
 rintro a σ ⟨rfl, rfl⟩
 refine AWP_block (AWP_thenB ?_)
 obtain ⟨e1, hse1, H⟩ := bindE H
 refine AWP_lp [0, 3, 4] (fun s a σ => ∃ M1 o1 : Nat, N0 ≤ M1 ∧ N0 ≤ o1 ∧ o1 < M1 ∧ a = [(0, .fsl (encL rBox p0)), (3, .sl o1 0 s.2.length), (4, .int .i64 s.1)] ∧ σ = hp E0 [(o1, some ⟨22, 1, encL rL_I s.2⟩)] M1) (fun s x a σ => x = .exit 0 ∧ Rc G 23 N0 (fun a σ => ∃ M2 o2 : Nat, N0 ≤ M2 ∧ N0 ≤ o2 ∧ o2 < M2 ∧ a = [(3, .sl o2 0 s.length)] ∧ σ = hp E0 [(o2, some ⟨22, 1, encL rL_I s⟩)] M2) (AAct.keep a [3]) σ) hse1 ?_ ?_ ?_
 ·
  refine Rc.kp [0, 3, 4] [(0, .fsl (encL rBox p0)), (3, .esl), (4, .int .i64 0)] rfl ?_
  refine gNilS Rc_ref 3 22 1 [(N0 + 4, some ⟨22, 1, encL rL_I ([] : List (List Int))⟩)] [(0, .fsl (encL rBox p0)), (3, .sl (N0 + 4) 0 ([] : List (List Int)).length), (4, .int .i64 0)] (by simp (disch := omega)) (by simp (disch := omega) [encL_nil]) [0, 3, 4] rfl ?_
  exact Rc.fin (AHeap.Sub.refl _) ⟨N0 + 5, (N0 + 4), (by omega), (by omega), (by omega), rfl, rfl⟩
 ·
  clear H hse1
  rintro ⟨s1, s2⟩ fl a σ H ⟨M1, o1, fM1_0, fM1_1, fM1_2, rfl, rfl⟩ K2 O2 hK2 hO2
  unfold s_l16Items_L1 at H; dsimp only at H
  refine AWP_sq [0, 3, 4] fun K3 hK3 => ?_
  refine AWP_sr tok [] [0, 3, 4, 9] (fun a σ => a = [(0, .fsl (encL rBox p0)), (3, .sl o1 0 s2.length), (4, .int .i64 s1), (9, .bool (ilt s1 (ilen p0)))] ∧ σ = hp E0 [(o1, some ⟨22, 1, encL rL_I s2⟩)] (M1 + 4)) (fun K hK => ?_) ?_
  ·
   skip
   simp -dsimp -implicitDefEqProofs (maxDischargeDepth := 6)
   exact hK _ _ ⟨rfl, rfl⟩
  rintro a σ ⟨rfl, rfl⟩
  refine AWP_cond (ilt s1 (ilen p0)) rfl (fun C1 => ?_) (fun C1 => ?_)
  ·
   replace H := ifT C1 H
   refine AWP_skip ?_
   show K3 _ _
   refine keepE (l := [0, 3, 4]) (x := [(0, .fsl (encL rBox p0)), (3, .sl o1 0 s2.length), (4, .int .i64 s1)]) rfl fun a' ha => ?_
   refine hK3 _ _ ?_; rw [ha]
   refine Rc.mk ?_
   refine AWP_sq [0, 3, 4] fun K4 hK4 => ?_
   refine AWP_block (AWP_thenB ?_)
   obtain ⟨v4, hv4, H⟩ := bindE H
   obtain ⟨l5, hl5, H⟩ := bindE H
   obtain ⟨l6, hl6, H⟩ := bindE H
   have q1 : ∀ σ i, buildSliceA T 22 true i 0 [] σ = some (.esl, σ) := fun _ _ => rfl
   have q2 : ∀ σ i, buildSliceA T 45 true i 1 [(0, .fsl (encL rI l5))] σ = some (.fsl (encL rL_I ([l5] : List (List Int))), σ) := fun _ _ => rfl
   refine AWP_rt tok [1, 7, 8] [0, 3, 4] (fun a σ => a = [(0, .fsl (encL rBox p0)), (3, .sl (M1 + 13) 0 l6.length), (4, .int .i64 s1)] ∧ σ = hp E0 [(M1 + 13, some ⟨22, 1, encL rL_I l6⟩)] (M1 + 15)) (fun K hK => ?_) ?_
   ·
    skip
    have e0 := nq (a := o1) (b := M1 + 13) (by omega)
    simp -dsimp -implicitDefEqProofs (maxDischargeDepth := 6) [e0, q1, ix29 hv4, appf22 hl5, q2, app45 hl6]
    exact hK _ _ ⟨rfl, rfl⟩
   rintro a σ ⟨ha, rfl⟩
   refine hK4 _ _ ?_; rw [ha]
   refine Rc.mk ?_
   refine AWP_rt tok [] [0, 3, 4] (fun a σ => a = [(0, .fsl (encL rBox p0)), (3, .sl (M1 + 13) 0 l6.length), (4, .int .i64 (iadd .i64 s1 1))] ∧ σ = hp E0 [(M1 + 13, some ⟨22, 1, encL rL_I l6⟩)] (M1 + 18)) (fun K hK => ?_) ?_
   ·
    skip
    simp -dsimp -implicitDefEqProofs (maxDischargeDepth := 6)
    exact hK _ _ ⟨rfl, rfl⟩
   rintro a σ ⟨ha, rfl⟩
   replace H := Option.some.inj H; subst H
   refine hK2 _ _ _ rfl ?_; rw [ha]
   exact Rc.fin (AHeap.Sub.refl _) ⟨M1 + 18, (M1 + 13), (by omega), (by omega), (by omega), rfl, rfl⟩
  ·
   replace H := ifF C1 H
   replace H := Option.some.inj H; subst H
   refine AWP_exit (hO2 _ _ _ _ rfl ⟨rfl, ?_⟩)
   refine Rc.rw (l := [3]) (X := [(3, .sl o1 0 s2.length)]) rfl ?_
   exact Rc.fin (AHeap.Sub.refl _) ⟨M1 + 4, o1, (by omega), (by omega), (by omega), rfl, rfl⟩
 ·
  intro x a σ hx
  obtain ⟨y3, rfl⟩ : ∃ x, x = e1 := ⟨_, rfl⟩
  obtain ⟨rfl, b, τ, hr, M2, o2, fM2_0, fM2_1, fM2_2, rfl, rfl⟩ := hx
  dsimp only at H
  show K1 _ _
  refine hK1 _ _ (Rc_ref hr ?_)
  refine Rc.mk ?_
  refine AWP_sr tok [] [2] (fun a σ => a = [(2, .sl o2 0 y3.length)] ∧ σ = hp E0 [(o2, some ⟨22, 1, encL rL_I y3⟩)] (M2 + 2)) (fun K hK => ?_) ?_
  ·
   skip
   simp -dsimp -implicitDefEqProofs (maxDischargeDepth := 6)
   exact hK _ _ ⟨rfl, rfl⟩
  rintro a σ ⟨rfl, rfl⟩
  replace H := Option.some.inj H; subst H
  refine AWP_kp [2] [(2, .sl o2 0 y3.length)] rfl ?_
  refine AWP_ret ?_
  exact ⟨[.sl o2 0 y3.length], by simp, 4, by simp [encL_nil]⟩
theorem c24 {p0 : gSquad} {r : gOutcome} (H : s_SquadOutcome p0 = some r) : APure Try.prog G 24 [.agg [.fsl (encL rMachine p0.Harts), .fsl (encL rBox p0.Boxes), .int .i64 p0.Turn, .int .i64 p0.Idle, .fsl (encL rI p0.Out)]] (.agg [.fsl (encL rI r.Out), .fsl (encL rL_I r.Items), .fsl (encL rB r.Ended), .bool r.Rest]) := by
 refine APure_fn (fun N0 => ?_) (by simp)
 refine ACalls_fn tok Try.func24 (by kernel_rfl) rfl Try.ntmps24 Try.results24 rfl ?_
 simp only [argsA, Nat.reduceAdd, hp_next]
 unfold s_SquadOutcome at H
 refine AWP_sr tok [0] [1, 2] (fun a σ => a = [(1, .fptr [.fsl (encL rMachine p0.Harts), .fsl (encL rBox p0.Boxes), .int .i64 p0.Turn, .int .i64 p0.Idle, .fsl (encL rI p0.Out)] 0), (2, .ptr (N0 + 1) 0 0)] ∧ σ = hp E0 [(N0 + 1, some ⟨48, 4, [[.nilsl, .nilsl, .nilsl, .bool false]]⟩)] (N0 + 2)) (fun K hK => ?_) ?_
 ·
  skip
  simp -dsimp -implicitDefEqProofs (maxDischargeDepth := 6)
  exact hK _ _ ⟨rfl, rfl⟩
 rintro a σ ⟨rfl, rfl⟩
 refine AWP_sq [1, 2] fun K1 hK1 => ?_
 refine gWkC AWP_ref (o := (N0 + 1)) (ob := ⟨48, 4, [[.nilsl, .nilsl, .nilsl, .bool false]]⟩) (row := [.nilsl, .nilsl, .nilsl, .bool false]) (r := 0) (i := 0) [(N0 + 1, some ⟨48, 4, [[.fsl [], .nilsl, .nilsl, .bool false]]⟩)] (by simp (disch := omega)) rfl rfl (by simp (disch := omega)) (by simp (disch := omega) [encL_nil, List.set_set, app_set]) ?_
 refine gWkC AWP_ref (o := (N0 + 1)) (ob := ⟨48, 4, [[.fsl [], .nilsl, .nilsl, .bool false]]⟩) (row := [.fsl [], .nilsl, .nilsl, .bool false]) (r := 0) (i := 1) [(N0 + 1, some ⟨48, 4, [[.fsl [], .fsl [], .nilsl, .bool false]]⟩)] (by simp (disch := omega)) rfl rfl (by simp (disch := omega)) (by simp (disch := omega) [encL_nil, List.set_set, app_set]) ?_
 refine gWkC AWP_ref (o := (N0 + 1)) (ob := ⟨48, 4, [[.fsl [], .fsl [], .nilsl, .bool false]]⟩) (row := [.fsl [], .fsl [], .nilsl, .bool false]) (r := 0) (i := 2) [(N0 + 1, some ⟨48, 4, [[.fsl [], .fsl [], .fsl [], .bool false]]⟩)] (by simp (disch := omega)) rfl rfl (by simp (disch := omega)) (by simp (disch := omega) [encL_nil, List.set_set, app_set]) ?_
 obtain ⟨r1, hr1, H⟩ := bindE H
 refine AWP_sr tok [] [1, 2, 7] (fun a σ => a = [(1, .fptr [.fsl (encL rMachine p0.Harts), .fsl (encL rBox p0.Boxes), .int .i64 p0.Turn, .int .i64 p0.Idle, .fsl (encL rI p0.Out)] 0), (2, .ptr (N0 + 1) 0 0), (7, .bool (bnot r1))] ∧ σ = hp E0 [(N0 + 1, some ⟨48, 4, [[.fsl [], .fsl [], .fsl [], .bool false]]⟩)] (N0 + 5)) (fun K hK => ?_) ?_
 ·
  skip
  simp -dsimp -implicitDefEqProofs (maxDischargeDepth := 6)
  refine (c57 hr1).app ?_; try simp -dsimp -implicitDefEqProofs (maxDischargeDepth := 6)
  exact hK _ _ ⟨rfl, rfl⟩
 rintro a σ ⟨rfl, rfl⟩
 refine AWP_cond (bnot r1) rfl (fun C1 => ?_) (fun C1 => ?_)
 ·
  replace H := ifT C1 H
  refine AWP_sr tok [] [2] (fun a σ => a = [(2, .ptr (N0 + 1) 0 0)] ∧ σ = hp E0 [(N0 + 1, some ⟨48, 4, [[.fsl [], .fsl [], .fsl [], .bool false]]⟩)] (N0 + 7)) (fun K hK => ?_) ?_
  ·
   skip
   simp -dsimp -implicitDefEqProofs (maxDischargeDepth := 6)
   exact hK _ _ ⟨rfl, rfl⟩
  rintro a σ ⟨rfl, rfl⟩
  replace H := Option.some.inj H; subst H
  refine AWP_kp [2] [(2, .ptr (N0 + 1) 0 0)] rfl ?_
  refine AWP_ret ?_
  exact ⟨[.agg [.fsl [], .fsl [], .fsl [], .bool false]], by simp, 4, by simp [encL_nil]⟩
 ·
  replace H := ifF C1 H
  refine AWP_skip ?_
  show K1 _ _
  refine keepE (l := [1, 2]) (x := [(1, .fptr [.fsl (encL rMachine p0.Harts), .fsl (encL rBox p0.Boxes), .int .i64 p0.Turn, .int .i64 p0.Idle, .fsl (encL rI p0.Out)] 0), (2, .ptr (N0 + 1) 0 0)]) rfl fun a' ha => ?_
  refine hK1 _ _ ?_; rw [ha]
  refine Rc.mk ?_
  obtain ⟨l2, hl2, H⟩ := bindE H
  obtain ⟨r3, hr3, H⟩ := bindE H
  obtain ⟨l4, hl4, H⟩ := bindE H
  have q0 : ∀ σ i, buildSliceA T 22 true i 0 [] σ = some (.esl, σ) := fun _ _ => rfl
  have q1 : ∀ σ i, buildSliceA T 46 false i 0 [] σ = some (.sl i 0 (List.length l4), σ.put i ⟨4, 1, encL rB l4⟩) := by rw [← Option.some.inj hl4]; intro _ _; rfl
  refine AWP_sd tok tokM [0, 3] [7, 15, 16] [0, 1, 2, 3, 4, 5, 6, 8, 9, 10, 11, 12, 13, 7, 14, 15, 16] [1, 2, 3] (fun a σ => a = [(1, .fptr [.fsl (encL rMachine p0.Harts), .fsl (encL rBox p0.Boxes), .int .i64 p0.Turn, .int .i64 p0.Idle, .fsl (encL rI p0.Out)] 0), (2, .ptr (N0 + 1) 0 0), (3, .ptr (N0 + 20) 0 0)] ∧ σ = hp E0 [(N0 + 1, some ⟨48, 4, [[.fsl [], .fsl [], .fsl [], .bool false]]⟩), (N0 + 12, some ⟨4, 1, encL rB l4⟩), (N0 + 20, some ⟨48, 4, [[.fsl (encL rI l2), .fsl (encL rL_I r3), .sl (N0 + 12) 0 l4.length, .bool (ieq p0.Idle (ilen p0.Harts))]]⟩)] (N0 + 22)) (by decide) (fun K hK => ?_) ?_
  ·
   simp only [pickL, nthO_succ, nthO_zero]
   simp -dsimp -implicitDefEqProofs (maxDischargeDepth := 6) [q0, appf22 hl2, q1]
   refine Pc.mk (c58 hr3) ?_; try simp -dsimp -implicitDefEqProofs (maxDischargeDepth := 6) [q0, appf22 hl2, q1]
   exact hK _ _ ⟨rfl, rfl⟩
  rintro a σ ⟨rfl, rfl⟩
  refine AWP_sq [2, 3] fun K2 hK2 => ?_
  refine AWP_sr tok [] [1, 2, 3, 4] (fun a σ => a = [(1, .fptr [.fsl (encL rMachine p0.Harts), .fsl (encL rBox p0.Boxes), .int .i64 p0.Turn, .int .i64 p0.Idle, .fsl (encL rI p0.Out)] 0), (2, .ptr (N0 + 1) 0 0), (3, .ptr (N0 + 20) 0 0), (4, .int .i64 0)] ∧ σ = hp E0 [(N0 + 1, some ⟨48, 4, [[.fsl [], .fsl [], .fsl [], .bool false]]⟩), (N0 + 12, some ⟨4, 1, encL rB l4⟩), (N0 + 20, some ⟨48, 4, [[.fsl (encL rI l2), .fsl (encL rL_I r3), .sl (N0 + 12) 0 l4.length, .bool (ieq p0.Idle (ilen p0.Harts))]]⟩)] (N0 + 23)) (fun K hK => ?_) ?_
  ·
   skip
   simp -dsimp -implicitDefEqProofs (maxDischargeDepth := 6)
   exact hK _ _ ⟨rfl, rfl⟩
  rintro a σ ⟨rfl, rfl⟩
  refine AWP_block (AWP_thenB ?_)
  obtain ⟨e1, hse1, H⟩ := bindE H
  refine AWP_lp [1, 2, 3, 4] (fun s a σ => ∃ M1 o1 o2 : Nat, N0 ≤ M1 ∧ N0 ≤ o1 ∧ o1 < M1 ∧ N0 ≤ o2 ∧ o2 < M1 ∧ ¬ o1 = o2 ∧ a = [(1, .fptr [.fsl (encL rMachine p0.Harts), .fsl (encL rBox p0.Boxes), .int .i64 p0.Turn, .int .i64 p0.Idle, .fsl (encL rI p0.Out)] 0), (2, .ptr o1 0 0), (3, .ptr o2 0 0), (4, .int .i64 s.1)] ∧ σ = hp E0 [(o1, some ⟨48, 4, [[.fsl (encL rI s.2.1.Out), .fsl (encL rL_I s.2.1.Items), .fsl (encL rB s.2.1.Ended), .bool s.2.1.Rest]]⟩), (o2, some ⟨48, 4, [[.fsl (encL rI s.2.2.Out), .fsl (encL rL_I s.2.2.Items), .osl 4 1 (encL rB s.2.2.Ended), .bool s.2.2.Rest]]⟩)] M1) (fun s x a σ => x = .exit 0 ∧ Rc G 55 N0 (fun a σ => ∃ M2 o3 o4 : Nat, N0 ≤ M2 ∧ N0 ≤ o3 ∧ o3 < M2 ∧ N0 ≤ o4 ∧ o4 < M2 ∧ ¬ o3 = o4 ∧ a = [(2, .ptr o3 0 0), (3, .ptr o4 0 0)] ∧ σ = hp E0 [(o3, some ⟨48, 4, [[.fsl (encL rI s.1.Out), .fsl (encL rL_I s.1.Items), .fsl (encL rB s.1.Ended), .bool s.1.Rest]]⟩), (o4, some ⟨48, 4, [[.fsl (encL rI s.2.Out), .fsl (encL rL_I s.2.Items), .osl 4 1 (encL rB s.2.Ended), .bool s.2.Rest]]⟩)] M2) (AAct.keep a [2, 3]) σ) hse1 ?_ ?_ ?_
  ·
   refine Rc.kp [1, 2, 3, 4] [(1, .fptr [.fsl (encL rMachine p0.Harts), .fsl (encL rBox p0.Boxes), .int .i64 p0.Turn, .int .i64 p0.Idle, .fsl (encL rI p0.Out)] 0), (2, .ptr (N0 + 1) 0 0), (3, .ptr (N0 + 20) 0 0), (4, .int .i64 0)] rfl ?_
   refine gPk Rc_ref (k := l4.length) (o := (N0 + 20)) (ob := ⟨48, 4, [[.fsl (encL rI l2), .fsl (encL rL_I r3), .sl (N0 + 12) 0 l4.length, .bool (ieq p0.Idle (ilen p0.Harts))]]⟩) (row := [.fsl (encL rI l2), .fsl (encL rL_I r3), .sl (N0 + 12) 0 l4.length, .bool (ieq p0.Idle (ilen p0.Harts))]) (d := (N0 + 12)) (obd := ⟨4, 1, encL rB l4⟩) (r := 0) (i := 2) [(N0 + 1, some ⟨48, 4, [[.fsl [], .fsl [], .fsl [], .bool false]]⟩), (N0 + 20, some ⟨48, 4, [[.fsl (encL rI l2), .fsl (encL rL_I r3), .osl 4 1 (encL rB l4), .bool (ieq p0.Idle (ilen p0.Harts))]]⟩)] (by simp (disch := omega)) rfl rfl (by simp (disch := omega)) (by simp (disch := omega)) (by first | omega | simp) (by simp (disch := omega) [List.set_set, app_set] <;> omega) (by simp (disch := omega) [List.set_set, app_set]) ?_
   exact Rc.fin (AHeap.Sub.refl _) ⟨N0 + 23, (N0 + 1), (N0 + 20), (by omega), (by omega), (by omega), (by omega), (by omega), (by omega), rfl, rfl⟩
  ·
   clear H hse1
   rintro ⟨s5, s6, s7⟩ fl a σ H ⟨M1, o1, o2, fM1_0, fM1_1, fM1_2, fM1_3, fM1_4, fM1_5, rfl, rfl⟩ K3 O3 hK3 hO3
   unfold s_SquadOutcome_L1 at H; dsimp only at H
   refine AWP_sq [1, 2, 3, 4] fun K4 hK4 => ?_
   refine AWP_sr tok [] [1, 2, 3, 4, 28] (fun a σ => a = [(1, .fptr [.fsl (encL rMachine p0.Harts), .fsl (encL rBox p0.Boxes), .int .i64 p0.Turn, .int .i64 p0.Idle, .fsl (encL rI p0.Out)] 0), (2, .ptr o1 0 0), (3, .ptr o2 0 0), (4, .int .i64 s5), (28, .bool (ilt s5 (ilen p0.Harts)))] ∧ σ = hp E0 [(o1, some ⟨48, 4, [[.fsl (encL rI s6.Out), .fsl (encL rL_I s6.Items), .fsl (encL rB s6.Ended), .bool s6.Rest]]⟩), (o2, some ⟨48, 4, [[.fsl (encL rI s7.Out), .fsl (encL rL_I s7.Items), .osl 4 1 (encL rB s7.Ended), .bool s7.Rest]]⟩)] (M1 + 5)) (fun K hK => ?_) ?_
   ·
    skip
    have e0 := nq (a := o1) (b := o2) (by omega)
    simp -dsimp -implicitDefEqProofs (maxDischargeDepth := 6) [e0]
    exact hK _ _ ⟨rfl, rfl⟩
   rintro a σ ⟨rfl, rfl⟩
   refine AWP_cond (ilt s5 (ilen p0.Harts)) rfl (fun C2 => ?_) (fun C2 => ?_)
   ·
    replace H := ifT C2 H
    refine AWP_skip ?_
    show K4 _ _
    refine keepE (l := [1, 2, 3, 4]) (x := [(1, .fptr [.fsl (encL rMachine p0.Harts), .fsl (encL rBox p0.Boxes), .int .i64 p0.Turn, .int .i64 p0.Idle, .fsl (encL rI p0.Out)] 0), (2, .ptr o1 0 0), (3, .ptr o2 0 0), (4, .int .i64 s5)]) rfl fun a' ha => ?_
    refine hK4 _ _ ?_; rw [ha]
    refine Rc.mk ?_
    refine AWP_sq [1, 2, 3, 4] fun K5 hK5 => ?_
    refine AWP_block (AWP_thenB ?_)
    refine gUnp AWP_ref (ty := 4) (sz := 1) (es := encL rB s7.Ended) (o := o2) (ob := ⟨48, 4, [[.fsl (encL rI s7.Out), .fsl (encL rL_I s7.Items), .osl 4 1 (encL rB s7.Ended), .bool s7.Rest]]⟩) (row := [.fsl (encL rI s7.Out), .fsl (encL rL_I s7.Items), .osl 4 1 (encL rB s7.Ended), .bool s7.Rest]) (r := 0) (i := 2) [(o1, some ⟨48, 4, [[.fsl (encL rI s6.Out), .fsl (encL rL_I s6.Items), .fsl (encL rB s6.Ended), .bool s6.Rest]]⟩), (o2, some ⟨48, 4, [[.fsl (encL rI s7.Out), .fsl (encL rL_I s7.Items), .sl (M1 + 5) 0 s7.Ended.length, .bool s7.Rest]]⟩), (M1 + 5, some ⟨4, 1, encL rB s7.Ended⟩)] (by simp (disch := omega)) rfl rfl (by simp (disch := omega) [List.set_set]) ?_
    obtain ⟨v10, hv10, H⟩ := bindE H
    obtain ⟨g12, hg12, H⟩ := bindE H
    obtain ⟨l13, hl13, H⟩ := bindE H
    have q2 : ∀ σ i, buildSliceA T 46 true i 1 [(0, .bool g12)] σ = some (.fsl (encL rB ([g12] : List Bool)), σ) := fun _ _ => rfl
    refine AWP_rd tok tokM [20] [1, 21, 23] [0, 2, 3, 4, 5, 6, 7, 8, 9, 10, 11, 12, 13, 14, 15, 16, 17, 18, 19, 20, 1, 21, 22, 23] [1, 2, 3, 4] (fun a σ => a = [(1, .fptr [.fsl (encL rMachine p0.Harts), .fsl (encL rBox p0.Boxes), .int .i64 p0.Turn, .int .i64 p0.Idle, .fsl (encL rI p0.Out)] 0), (2, .ptr o1 0 0), (3, .ptr o2 0 0), (4, .int .i64 s5)] ∧ σ = hp E0 [(o1, some ⟨48, 4, [[.fsl (encL rI s6.Out), .fsl (encL rL_I s6.Items), .fsl (encL rB s6.Ended), .bool s6.Rest]]⟩), (o2, some ⟨48, 4, [[.fsl (encL rI s7.Out), .fsl (encL rL_I s7.Items), .sl (M1 + 27) 0 l13.length, .bool s7.Rest]]⟩), (M1 + 27, some ⟨4, 1, encL rB l13⟩)] (M1 + 30)) (by decide) (fun K hK => ?_) ?_
    ·
     simp only [pickL, nthO_succ, nthO_zero]
     have e0 := nq (a := o1) (b := o2) (by omega)
     have e1 := nq (a := o1) (b := M1 + 5) (by omega)
     have e2 := nq (a := o1) (b := M1 + 27) (by omega)
     have e3 := nq (a := o2) (b := M1 + 5) (by omega)
     have e4 := nq (a := o2) (b := M1 + 27) (by omega)
     simp -dsimp -implicitDefEqProofs (maxDischargeDepth := 6) [e0, e1, e2, e3, e4, ix50 hv10, q2, app46 hl13]
     cases hbg12 : ieq v10.Pc 0
     ·
      replace hg12 := ifF hbg12 hg12
      replace hg12 := Option.some.inj hg12; subst hg12
      try simp -dsimp -implicitDefEqProofs (maxDischargeDepth := 6) [e0, e1, e2, e3, e4, ix50 hv10, q2, app46 hl13, hbg12]
      exact hK _ _ ⟨rfl, rfl⟩
     ·
      replace hg12 := ifT hbg12 hg12
      obtain ⟨v11, hv11, hg12⟩ := bindE hg12
      replace hg12 := Option.some.inj hg12; subst hg12
      try simp -dsimp -implicitDefEqProofs (maxDischargeDepth := 6) [e0, e1, e2, e3, e4, ix50 hv10, q2, app46 hl13, hbg12, ix50 hv10, ix22 hv11]
      exact hK _ _ ⟨rfl, rfl⟩
    rintro a σ ⟨ha, rfl⟩
    refine hK5 _ _ ?_; rw [ha]
    refine Rc.mk ?_
    refine AWP_rt tok [] [1, 2, 3, 4] (fun a σ => a = [(1, .fptr [.fsl (encL rMachine p0.Harts), .fsl (encL rBox p0.Boxes), .int .i64 p0.Turn, .int .i64 p0.Idle, .fsl (encL rI p0.Out)] 0), (2, .ptr o1 0 0), (3, .ptr o2 0 0), (4, .int .i64 (iadd .i64 s5 1))] ∧ σ = hp E0 [(o1, some ⟨48, 4, [[.fsl (encL rI s6.Out), .fsl (encL rL_I s6.Items), .fsl (encL rB s6.Ended), .bool s6.Rest]]⟩), (o2, some ⟨48, 4, [[.fsl (encL rI s7.Out), .fsl (encL rL_I s7.Items), .sl (M1 + 27) 0 l13.length, .bool s7.Rest]]⟩), (M1 + 27, some ⟨4, 1, encL rB l13⟩)] (M1 + 33)) (fun K hK => ?_) ?_
    ·
     skip
     have e0 := nq (a := o1) (b := o2) (by omega)
     have e1 := nq (a := o1) (b := M1 + 27) (by omega)
     have e2 := nq (a := o2) (b := M1 + 27) (by omega)
     simp -dsimp -implicitDefEqProofs (maxDischargeDepth := 6) [e0, e1, e2]
     exact hK _ _ ⟨rfl, rfl⟩
    rintro a σ ⟨ha, rfl⟩
    replace H := Option.some.inj H; subst H
    refine hK3 _ _ _ rfl ?_; rw [ha]
    refine gPk Rc_ref (k := l13.length) (o := o2) (ob := ⟨48, 4, [[.fsl (encL rI s7.Out), .fsl (encL rL_I s7.Items), .sl (M1 + 27) 0 l13.length, .bool s7.Rest]]⟩) (row := [.fsl (encL rI s7.Out), .fsl (encL rL_I s7.Items), .sl (M1 + 27) 0 l13.length, .bool s7.Rest]) (d := (M1 + 27)) (obd := ⟨4, 1, encL rB l13⟩) (r := 0) (i := 2) [(o1, some ⟨48, 4, [[.fsl (encL rI s6.Out), .fsl (encL rL_I s6.Items), .fsl (encL rB s6.Ended), .bool s6.Rest]]⟩), (o2, some ⟨48, 4, [[.fsl (encL rI s7.Out), .fsl (encL rL_I s7.Items), .osl 4 1 (encL rB l13), .bool s7.Rest]]⟩)] (by simp (disch := omega)) rfl rfl (by simp (disch := omega)) (by simp (disch := omega)) (by first | omega | simp) (by simp (disch := omega) [List.set_set, app_set] <;> omega) (by simp (disch := omega) [List.set_set, app_set]) ?_
    exact Rc.fin (AHeap.Sub.refl _) ⟨M1 + 33, o1, o2, (by omega), (by omega), (by omega), (by omega), (by omega), (by omega), rfl, rfl⟩
   ·
    replace H := ifF C2 H
    replace H := Option.some.inj H; subst H
    refine AWP_exit (hO3 _ _ _ _ rfl ⟨rfl, ?_⟩)
    refine Rc.rw (l := [2, 3]) (X := [(2, .ptr o1 0 0), (3, .ptr o2 0 0)]) rfl ?_
    exact Rc.fin (AHeap.Sub.refl _) ⟨M1 + 5, o1, o2, (by omega), (by omega), (by omega), (by omega), (by omega), (by omega), rfl, rfl⟩
  ·
   intro x a σ hx
   obtain ⟨y8, y9⟩ := e1
   obtain ⟨rfl, b, τ, hr, M2, o3, o4, fM2_0, fM2_1, fM2_2, fM2_3, fM2_4, fM2_5, rfl, rfl⟩ := hx
   dsimp only at H
   show K2 _ _
   refine hK2 _ _ (Rc_ref hr ?_)
   refine Rc.mk ?_
   refine gUnp AWP_ref (ty := 4) (sz := 1) (es := encL rB y9.Ended) (o := o4) (ob := ⟨48, 4, [[.fsl (encL rI y9.Out), .fsl (encL rL_I y9.Items), .osl 4 1 (encL rB y9.Ended), .bool y9.Rest]]⟩) (row := [.fsl (encL rI y9.Out), .fsl (encL rL_I y9.Items), .osl 4 1 (encL rB y9.Ended), .bool y9.Rest]) (r := 0) (i := 2) [(o3, some ⟨48, 4, [[.fsl (encL rI y8.Out), .fsl (encL rL_I y8.Items), .fsl (encL rB y8.Ended), .bool y8.Rest]]⟩), (o4, some ⟨48, 4, [[.fsl (encL rI y9.Out), .fsl (encL rL_I y9.Items), .sl M2 0 y9.Ended.length, .bool y9.Rest]]⟩), (M2, some ⟨4, 1, encL rB y9.Ended⟩)] (by simp (disch := omega)) rfl rfl (by simp (disch := omega) [List.set_set]) ?_
   refine AWP_sr tok [] [2] (fun a σ => a = [(2, .ptr o3 0 0)] ∧ σ = hp E0 [(o3, some ⟨48, 4, [[.fsl (encL rI y9.Out), .fsl (encL rL_I y9.Items), .sl M2 0 y9.Ended.length, .bool y9.Rest]]⟩), (o4, some ⟨48, 4, [[.fsl (encL rI y9.Out), .fsl (encL rL_I y9.Items), .sl M2 0 y9.Ended.length, .bool y9.Rest]]⟩), (M2, some ⟨4, 1, encL rB y9.Ended⟩)] (M2 + 3)) (fun K hK => ?_) ?_
   ·
    skip
    have e0 := nq (a := o3) (b := o4) (by omega)
    have e1 := nq (a := o3) (b := M2) (by omega)
    have e2 := nq (a := o4) (b := M2) (by omega)
    simp -dsimp -implicitDefEqProofs (maxDischargeDepth := 6) [e0, e1, e2]
    exact hK _ _ ⟨rfl, rfl⟩
   rintro a σ ⟨rfl, rfl⟩
   replace H := Option.some.inj H; subst H
   refine AWP_kp [2] [(2, .ptr o3 0 0)] rfl ?_
   have z0 := nq (a := o3) (b := o4) (by omega)
   have z1 := nq (a := o3) (b := M2) (by omega)
   have z2 := nq (a := o4) (b := M2) (by omega)
   refine AWP_ret ?_
   exact ⟨[.agg [.fsl (encL rI y9.Out), .fsl (encL rL_I y9.Items), .sl M2 0 y9.Ended.length, .bool y9.Rest]], by simp [z0, z1, z2], 4, by simp [encL_nil, z0, z1, z2]⟩
theorem c88 {p0 : Int} {p1 : Int} {p2 : Int} {p3 : (List Int)} {r : Bool} (H : i_turnsValid p0 p1 p2 p3 = some r) : APure Try.prog G 88 [.int .i64 p0, .int .i64 p1, .int .i64 p2, .fsl (encL rI p3)] (.bool r) := by
 refine APure_fn (fun N0 => ?_) (by simp)
 refine ACalls_fn tok Try.func88 (by kernel_rfl) rfl Try.ntmps88 Try.results88 rfl ?_
 simp only [argsA, Nat.reduceAdd, hp_next]
 unfold i_turnsValid at H
 refine AWP_sr tok [] [0, 1, 2, 3] (fun a σ => a = [(0, .int .i64 p0), (1, .int .i64 p1), (2, .int .i64 p2), (3, .fsl (encL rI p3))] ∧ σ = hp E0 [] (N0 + 1)) (fun K hK => ?_) ?_
 ·
  skip
  simp -dsimp -implicitDefEqProofs (maxDischargeDepth := 6)
  exact hK _ _ ⟨rfl, rfl⟩
 rintro a σ ⟨rfl, rfl⟩
 obtain ⟨g1, hg1, H⟩ := bindE H
 obtain ⟨g2, hg2, H⟩ := bindE H
 obtain ⟨g3, hg3, H⟩ := bindE H
 obtain ⟨g4, hg4, H⟩ := bindE H
 obtain ⟨g5, hg5, H⟩ := bindE H
 obtain ⟨g7, hg7, H⟩ := bindE H
 refine AWP_sr tok [] [8] (fun a σ => a = [(8, .bool g7)] ∧ σ = hp E0 [] (N0 + 30)) (fun K hK => ?_) ?_
 ·
  skip
  simp -dsimp -implicitDefEqProofs (maxDischargeDepth := 6)
  cases hbg1 : ige p0 1
  ·
   replace hg1 := ifF hbg1 hg1
   replace hg1 := Option.some.inj hg1; subst hg1
   try simp -dsimp -implicitDefEqProofs (maxDischargeDepth := 6) [hbg1]
   replace hg2 := ifF rfl hg2
   replace hg2 := Option.some.inj hg2; subst hg2
   try simp -dsimp -implicitDefEqProofs (maxDischargeDepth := 6) [hbg1]
   replace hg3 := ifF rfl hg3
   replace hg3 := Option.some.inj hg3; subst hg3
   try simp -dsimp -implicitDefEqProofs (maxDischargeDepth := 6) [hbg1]
   replace hg4 := ifF rfl hg4
   replace hg4 := Option.some.inj hg4; subst hg4
   try simp -dsimp -implicitDefEqProofs (maxDischargeDepth := 6) [hbg1]
   replace hg5 := ifF rfl hg5
   replace hg5 := Option.some.inj hg5; subst hg5
   try simp -dsimp -implicitDefEqProofs (maxDischargeDepth := 6) [hbg1]
   replace hg7 := ifF rfl hg7
   replace hg7 := Option.some.inj hg7; subst hg7
   try simp -dsimp -implicitDefEqProofs (maxDischargeDepth := 6) [hbg1]
   exact hK _ _ ⟨rfl, rfl⟩
  ·
   replace hg1 := ifT hbg1 hg1
   replace hg1 := Option.some.inj hg1; subst hg1
   try simp -dsimp -implicitDefEqProofs (maxDischargeDepth := 6) [hbg1]
   cases hbg2 : (ile p0 3)
   ·
    replace hg2 := ifF hbg2 hg2
    replace hg2 := Option.some.inj hg2; subst hg2
    try simp -dsimp -implicitDefEqProofs (maxDischargeDepth := 6) [hbg1, hbg2]
    replace hg3 := ifF rfl hg3
    replace hg3 := Option.some.inj hg3; subst hg3
    try simp -dsimp -implicitDefEqProofs (maxDischargeDepth := 6) [hbg1, hbg2]
    replace hg4 := ifF rfl hg4
    replace hg4 := Option.some.inj hg4; subst hg4
    try simp -dsimp -implicitDefEqProofs (maxDischargeDepth := 6) [hbg1, hbg2]
    replace hg5 := ifF rfl hg5
    replace hg5 := Option.some.inj hg5; subst hg5
    try simp -dsimp -implicitDefEqProofs (maxDischargeDepth := 6) [hbg1, hbg2]
    replace hg7 := ifF rfl hg7
    replace hg7 := Option.some.inj hg7; subst hg7
    try simp -dsimp -implicitDefEqProofs (maxDischargeDepth := 6) [hbg1, hbg2]
    exact hK _ _ ⟨rfl, rfl⟩
   ·
    replace hg2 := ifT hbg2 hg2
    replace hg2 := Option.some.inj hg2; subst hg2
    try simp -dsimp -implicitDefEqProofs (maxDischargeDepth := 6) [hbg1, hbg2]
    cases hbg3 : (ige p1 0)
    ·
     replace hg3 := ifF hbg3 hg3
     replace hg3 := Option.some.inj hg3; subst hg3
     try simp -dsimp -implicitDefEqProofs (maxDischargeDepth := 6) [hbg1, hbg2, hbg3]
     replace hg4 := ifF rfl hg4
     replace hg4 := Option.some.inj hg4; subst hg4
     try simp -dsimp -implicitDefEqProofs (maxDischargeDepth := 6) [hbg1, hbg2, hbg3]
     replace hg5 := ifF rfl hg5
     replace hg5 := Option.some.inj hg5; subst hg5
     try simp -dsimp -implicitDefEqProofs (maxDischargeDepth := 6) [hbg1, hbg2, hbg3]
     replace hg7 := ifF rfl hg7
     replace hg7 := Option.some.inj hg7; subst hg7
     try simp -dsimp -implicitDefEqProofs (maxDischargeDepth := 6) [hbg1, hbg2, hbg3]
     exact hK _ _ ⟨rfl, rfl⟩
    ·
     replace hg3 := ifT hbg3 hg3
     replace hg3 := Option.some.inj hg3; subst hg3
     try simp -dsimp -implicitDefEqProofs (maxDischargeDepth := 6) [hbg1, hbg2, hbg3]
     cases hbg4 : (ilt p1 p0)
     ·
      replace hg4 := ifF hbg4 hg4
      replace hg4 := Option.some.inj hg4; subst hg4
      try simp -dsimp -implicitDefEqProofs (maxDischargeDepth := 6) [hbg1, hbg2, hbg3, hbg4]
      replace hg5 := ifF rfl hg5
      replace hg5 := Option.some.inj hg5; subst hg5
      try simp -dsimp -implicitDefEqProofs (maxDischargeDepth := 6) [hbg1, hbg2, hbg3, hbg4]
      replace hg7 := ifF rfl hg7
      replace hg7 := Option.some.inj hg7; subst hg7
      try simp -dsimp -implicitDefEqProofs (maxDischargeDepth := 6) [hbg1, hbg2, hbg3, hbg4]
      exact hK _ _ ⟨rfl, rfl⟩
     ·
      replace hg4 := ifT hbg4 hg4
      replace hg4 := Option.some.inj hg4; subst hg4
      try simp -dsimp -implicitDefEqProofs (maxDischargeDepth := 6) [hbg1, hbg2, hbg3, hbg4]
      cases hbg5 : (ige p2 0)
      ·
       replace hg5 := ifF hbg5 hg5
       replace hg5 := Option.some.inj hg5; subst hg5
       try simp -dsimp -implicitDefEqProofs (maxDischargeDepth := 6) [hbg1, hbg2, hbg3, hbg4, hbg5]
       replace hg7 := ifF rfl hg7
       replace hg7 := Option.some.inj hg7; subst hg7
       try simp -dsimp -implicitDefEqProofs (maxDischargeDepth := 6) [hbg1, hbg2, hbg3, hbg4, hbg5]
       exact hK _ _ ⟨rfl, rfl⟩
      ·
       replace hg5 := ifT hbg5 hg5
       replace hg5 := Option.some.inj hg5; subst hg5
       try simp -dsimp -implicitDefEqProofs (maxDischargeDepth := 6) [hbg1, hbg2, hbg3, hbg4, hbg5]
       cases hbg7 : (ile p2 p0)
       ·
        replace hg7 := ifF hbg7 hg7
        replace hg7 := Option.some.inj hg7; subst hg7
        try simp -dsimp -implicitDefEqProofs (maxDischargeDepth := 6) [hbg1, hbg2, hbg3, hbg4, hbg5, hbg7]
        exact hK _ _ ⟨rfl, rfl⟩
       ·
        replace hg7 := ifT hbg7 hg7
        obtain ⟨r6, hr6, hg7⟩ := bindE hg7
        replace hg7 := Option.some.inj hg7; subst hg7
        try simp -dsimp -implicitDefEqProofs (maxDischargeDepth := 6) [hbg1, hbg2, hbg3, hbg4, hbg5, hbg7]
        refine (c85 hr6).app ?_; try simp -dsimp -implicitDefEqProofs (maxDischargeDepth := 6) [hbg1, hbg2, hbg3, hbg4, hbg5, hbg7]
        exact hK _ _ ⟨rfl, rfl⟩
 rintro a σ ⟨rfl, rfl⟩
 replace H := Option.some.inj H; subst H
 refine AWP_kp [8] [(8, .bool g7)] rfl ?_
 refine AWP_ret ?_
 exact ⟨[.bool g7], by simp, 4, by simp [encL_nil]⟩
end Go.Proofs.Ytoklfbdcghgmlaa
