/- The contracts of functions of the program, part 3: each computes what its mirror computes. No conditions. -/
import Derived.Test.YtlcilhmkbmgkeaaDoorNDT2
set_option linter.unusedSimpArgs false
set_option linter.unusedVariables false
set_option maxRecDepth 20000
set_option maxHeartbeats 4000000
namespace Go.Proofs.YtlcilhmkbmgkeaaDoor
open Go Go.Abs Go.RowKit

theorem c15 {p0 : gSquad} {p1 : Int} {r : Int × gSquad} (H : l_markSquad p0 p1 = some r) {σ : AHeap} {w0_0 : Nat} {w0_1 : Nat} {w0_2 : Nat} (q0_0 : σ.objs w0_0 = some ⟨53, 3, encL rMachine_oo p0.Harts⟩) (q0_1 : σ.objs w0_1 = some ⟨86, 2, encL rBox_o p0.Boxes⟩) (q0_2 : σ.objs w0_2 = some ⟨3, 1, encL rI p0.Out⟩) (d0_1 : ¬ w0_0 = w0_1) (d0_2 : ¬ w0_0 = w0_2) (d1_2 : ¬ w0_1 = w0_2) : ACalls Tryd.prog G 15 [.agg [.sl w0_0 0 p0.Harts.length, .sl w0_1 0 p0.Boxes.length, .int .i64 p0.Turn, .int .i64 p0.Idle, .sl w0_2 0 p0.Out.length], .int .i64 p1] σ (fun v σ' => ∃ M : Nat, σ.next ≤ M ∧ r.2.Harts.length = p0.Harts.length ∧ r.2.Boxes.length = p0.Boxes.length ∧ r.2.Out.length = p0.Out.length ∧ v = .int .i64 r.1 ∧ σ' = hp σ.objs [(w0_0, some ⟨53, 3, encL rMachine_oo r.2.Harts⟩), (w0_1, some ⟨86, 2, encL rBox_o r.2.Boxes⟩), (w0_2, some ⟨3, 1, encL rI r.2.Out⟩)] M) := by
 refine ACalls_fr (L := [(w0_0, some ⟨53, 3, encL rMachine_oo p0.Harts⟩), (w0_1, some ⟨86, 2, encL rBox_o p0.Boxes⟩), (w0_2, some ⟨3, 1, encL rI p0.Out⟩)]) (Q1 := fun v σ' => ∃ M : Nat, σ.next ≤ M ∧ r.2.Harts.length = p0.Harts.length ∧ r.2.Boxes.length = p0.Boxes.length ∧ r.2.Out.length = p0.Out.length ∧ v = .int .i64 r.1 ∧ σ' = hp E0 [(w0_0, some ⟨53, 3, encL rMachine_oo r.2.Harts⟩), (w0_1, some ⟨86, 2, encL rBox_o r.2.Boxes⟩), (w0_2, some ⟨3, 1, encL rI r.2.Out⟩)] M) (by simp [q0_0, q0_1, q0_2]) (fun hlt => ?_) ?_ ⟨_, Tryd.func15, rfl, rfl⟩
 rotate_left
 ·
  rintro v σ1 ⟨M, h0, h1, h2, h3, rfl, rfl⟩
  exact ⟨_, M, rfl, by simp, by simp; try omega, M, h0, h1, h2, h3, rfl, rfl⟩
 generalize σ.next = N0 at hlt ⊢
 have lw0_0 : w0_0 < N0 := hlt _ (.head _) rfl
 have lw0_1 : w0_1 < N0 := hlt _ (.tail _ (.head _)) rfl
 have lw0_2 : w0_2 < N0 := hlt _ (.tail _ (.tail _ (.head _))) rfl
 refine ACalls_fn tok Tryd.func15 (by kernel_rfl) rfl Tryd.ntmps15 Tryd.results15 rfl ?_
 simp only [argsA, Nat.reduceAdd, hp_next]
 unfold l_markSquad at H
 refine AWP_sr tok [0] [1, 2] (fun a σ => a = [(1, .int .i64 p1), (2, .fptr [.sl w0_0 0 p0.Harts.length, .sl w0_1 0 p0.Boxes.length, .int .i64 p0.Turn, .int .i64 p0.Idle, .sl w0_2 0 p0.Out.length] 0)] ∧ σ = hp E0 [(w0_0, some ⟨53, 3, encL rMachine_oo p0.Harts⟩), (w0_1, some ⟨86, 2, encL rBox_o p0.Boxes⟩), (w0_2, some ⟨3, 1, encL rI p0.Out⟩)] (N0 + 2)) (fun K hK => ?_) ?_
 ·
  have e0 := nq (a := w0_0) (b := w0_1) (by omega)
  have e1 := nq (a := w0_0) (b := w0_2) (by omega)
  have e2 := nq (a := w0_1) (b := w0_2) (by omega)
  simp -dsimp -implicitDefEqProofs (maxDischargeDepth := 6) [e0, e1, e2]
  exact hK _ _ ⟨rfl, rfl⟩
 rintro a σ ⟨rfl, rfl⟩
 obtain ⟨r1, hr1, H⟩ := bindE H
 refine AWP_sr tok [] [1, 2] (fun a σ => ∃ M1 : Nat, N0 + 7 ≤ M1 ∧ r1.2.length = p0.Harts.length ∧ a = [(1, .int .i64 r1.1), (2, .fptr [.sl w0_0 0 p0.Harts.length, .sl w0_1 0 p0.Boxes.length, .int .i64 p0.Turn, .int .i64 p0.Idle, .sl w0_2 0 p0.Out.length] 0)] ∧ σ = hp E0 [(w0_0, some ⟨53, 3, encL rMachine_oo r1.2⟩), (w0_1, some ⟨86, 2, encL rBox_o p0.Boxes⟩), (w0_2, some ⟨3, 1, encL rI p0.Out⟩)] M1) (fun K hK => ?_) ?_
 ·
  have e0 := nq (a := w0_0) (b := w0_1) (by omega)
  have e1 := nq (a := w0_0) (b := w0_2) (by omega)
  have e2 := nq (a := w0_1) (b := w0_2) (by omega)
  simp -dsimp -implicitDefEqProofs (maxDischargeDepth := 6) [e0, e1, e2]
  refine (c38 (H := hr1) (by simp [e0, e1, e2])).mono ?_; rintro _ _ ⟨M1, fM1_0, fM1_1, rfl, rfl⟩; simp only [hp_next] at fM1_0
  try simp -dsimp -implicitDefEqProofs (maxDischargeDepth := 6) [e0, e1, e2, hp_over_some, hp_over_none]
  exact hK _ _ ⟨M1, (by omega), fM1_1, rfl, rfl⟩
 rintro a σ ⟨M1, fM1_0, fM1_1, rfl, rfl⟩
 try rw [← fM1_1]
 obtain ⟨r2, hr2, H⟩ := bindE H
 refine AWP_sr tok [] [1, 2] (fun a σ => ∃ M2 : Nat, M1 + 5 ≤ M2 ∧ r2.2.length = p0.Boxes.length ∧ a = [(1, .int .i64 r2.1), (2, .fptr [.sl w0_0 0 r1.2.length, .sl w0_1 0 p0.Boxes.length, .int .i64 p0.Turn, .int .i64 p0.Idle, .sl w0_2 0 p0.Out.length] 0)] ∧ σ = hp E0 [(w0_0, some ⟨53, 3, encL rMachine_oo r1.2⟩), (w0_1, some ⟨86, 2, encL rBox_o r2.2⟩), (w0_2, some ⟨3, 1, encL rI p0.Out⟩)] M2) (fun K hK => ?_) ?_
 ·
  have e0 := nq (a := w0_0) (b := w0_1) (by omega)
  have e1 := nq (a := w0_0) (b := w0_2) (by omega)
  have e2 := nq (a := w0_1) (b := w0_2) (by omega)
  simp -dsimp -implicitDefEqProofs (maxDischargeDepth := 6) [e0, e1, e2]
  refine (c39 (H := hr2) (by simp [e0, e1, e2])).mono ?_; rintro _ _ ⟨M2, fM2_0, fM2_1, rfl, rfl⟩; simp only [hp_next] at fM2_0
  try simp -dsimp -implicitDefEqProofs (maxDischargeDepth := 6) [e0, e1, e2, hp_over_some, hp_over_none]
  exact hK _ _ ⟨M2, (by omega), fM2_1, rfl, rfl⟩
 rintro a σ ⟨M2, fM2_0, fM2_1, rfl, rfl⟩
 try rw [← fM2_1]
 obtain ⟨r3, hr3, H⟩ := bindE H
 refine AWP_sr tok [] [1] (fun a σ => ∃ M3 : Nat, M2 + 5 ≤ M3 ∧ r3.2.length = p0.Out.length ∧ a = [(1, .int .i64 r3.1)] ∧ σ = hp E0 [(w0_0, some ⟨53, 3, encL rMachine_oo r1.2⟩), (w0_1, some ⟨86, 2, encL rBox_o r2.2⟩), (w0_2, some ⟨3, 1, encL rI r3.2⟩)] M3) (fun K hK => ?_) ?_
 ·
  have e0 := nq (a := w0_0) (b := w0_1) (by omega)
  have e1 := nq (a := w0_0) (b := w0_2) (by omega)
  have e2 := nq (a := w0_1) (b := w0_2) (by omega)
  simp -dsimp -implicitDefEqProofs (maxDischargeDepth := 6) [e0, e1, e2]
  refine (c13 (H := hr3) (by simp [e0, e1, e2])).mono ?_; rintro _ _ ⟨M3, fM3_0, fM3_1, rfl, rfl⟩; simp only [hp_next] at fM3_0
  try simp -dsimp -implicitDefEqProofs (maxDischargeDepth := 6) [e0, e1, e2, hp_over_some, hp_over_none]
  exact hK _ _ ⟨M3, (by omega), fM3_1, rfl, rfl⟩
 rintro a σ ⟨M3, fM3_0, fM3_1, rfl, rfl⟩
 try rw [← fM3_1]
 refine AWP_sr tok [] [4] (fun a σ => a = [(4, .int .i64 r3.1)] ∧ σ = hp E0 [(w0_0, some ⟨53, 3, encL rMachine_oo r1.2⟩), (w0_1, some ⟨86, 2, encL rBox_o r2.2⟩), (w0_2, some ⟨3, 1, encL rI r3.2⟩)] (M3 + 2)) (fun K hK => ?_) ?_
 ·
  have e0 := nq (a := w0_0) (b := w0_1) (by omega)
  have e1 := nq (a := w0_0) (b := w0_2) (by omega)
  have e2 := nq (a := w0_1) (b := w0_2) (by omega)
  simp -dsimp -implicitDefEqProofs (maxDischargeDepth := 6) [e0, e1, e2]
  exact hK _ _ ⟨rfl, rfl⟩
 rintro a σ ⟨rfl, rfl⟩
 replace H := Option.some.inj H; subst H
 refine AWP_kp [4] [(4, .int .i64 r3.1)] rfl ?_
 have z0 := nq (a := w0_0) (b := w0_1) (by omega)
 have z1 := nq (a := w0_0) (b := w0_2) (by omega)
 have z2 := nq (a := w0_1) (b := w0_2) (by omega)
 refine AWP_ret ?_
 refine ⟨[.int .i64 r3.1], by simp [z0, z1, z2], M3 + 2, by omega, by first | rfl | exact (fM1_1) | omega, by first | rfl | exact (fM2_1) | omega, by first | rfl | exact (fM3_1) | omega, ?_, ?_⟩
 ·
  simp [encL_nil]
 ·
  first | rfl | simp [List.set_set]
theorem c42 {p0 : (List Int)} {p1 : Int} {r : Int} (H : l_heldIntS p0 p1 = some r) : APure Tryd.prog G 42 [.fsl (encL rI p0), .int .i64 p1] (.int .i64 r) := by
 refine APure_fn (fun N0 => ?_) (by simp)
 refine ACalls_fn tok Tryd.func42 (by kernel_rfl) rfl Tryd.ntmps42 Tryd.results42 rfl ?_
 simp only [argsA, Nat.reduceAdd, hp_next]
 unfold l_heldIntS at H
 refine AWP_sr tok [] [0, 1] (fun a σ => a = [(0, .fsl (encL rI p0)), (1, .int .i64 p1)] ∧ σ = hp E0 [] (N0 + 1)) (fun K hK => ?_) ?_
 ·
  simp -dsimp -implicitDefEqProofs (maxDischargeDepth := 6)
  exact hK _ _ ⟨rfl, rfl⟩
 rintro a σ ⟨rfl, rfl⟩
 refine AWP_sq [1] fun K1 hK1 => ?_
 refine AWP_sr tok [] [0, 1, 5] (fun a σ => a = [(0, .fsl (encL rI p0)), (1, .int .i64 p1), (5, .int .i64 0)] ∧ σ = hp E0 [] (N0 + 2)) (fun K hK => ?_) ?_
 ·
  simp -dsimp -implicitDefEqProofs (maxDischargeDepth := 6)
  exact hK _ _ ⟨rfl, rfl⟩
 rintro a σ ⟨rfl, rfl⟩
 refine AWP_block (AWP_thenB ?_)
 obtain ⟨e1, hse1, H⟩ := bindE H
 refine AWP_lp [0, 1, 5] (fun s a σ => ∃ M1 : Nat, N0 ≤ M1 ∧ a = [(0, .fsl (encL rI p0)), (1, .int .i64 s.1), (5, .int .i64 s.2)] ∧ σ = hp E0 [] M1) (fun e x a σ => match e with | .inl s => x = .exit 0 ∧ Rc G 21 N0 (fun a σ => ∃ M2 : Nat, N0 ≤ M2 ∧ a = [(1, .int .i64 s)] ∧ σ = hp E0 [] M2) (AAct.keep a [1]) σ | .inr s => x = .ret ∧ ∃ vs, resA T σ a [.tmp 4] = some vs ∧ ∃ d, thawA (fun _ => true) σ d (tupA vs) = .int .i64 s) hse1 ?_ ?_ ?_
 ·
  refine Rc.kp [0, 1, 5] [(0, .fsl (encL rI p0)), (1, .int .i64 p1), (5, .int .i64 0)] rfl ?_
  exact Rc.fin (AHeap.Sub.refl _) ⟨N0 + 2, (by omega), rfl, rfl⟩
 ·
  clear H hse1
  rintro ⟨s1, s2⟩ fl a σ H ⟨M1, fM1_0, rfl, rfl⟩ K2 O2 hK2 hO2
  unfold l_heldIntS_L1 at H; dsimp only at H
  refine AWP_sq [0, 1, 5] fun K3 hK3 => ?_
  refine AWP_sr tok [] [0, 1, 5, 9] (fun a σ => a = [(0, .fsl (encL rI p0)), (1, .int .i64 s1), (5, .int .i64 s2), (9, .bool (ilt s2 (ilen p0)))] ∧ σ = hp E0 [] (M1 + 4)) (fun K hK => ?_) ?_
  ·
   simp -dsimp -implicitDefEqProofs (maxDischargeDepth := 6)
   exact hK _ _ ⟨rfl, rfl⟩
  rintro a σ ⟨rfl, rfl⟩
  refine AWP_cond (ilt s2 (ilen p0)) rfl (fun C1 => ?_) (fun C1 => ?_)
  ·
   replace H := ifT C1 H
   refine AWP_skip ?_
   show K3 _ _
   refine keepE (l := [0, 1, 5]) (x := [(0, .fsl (encL rI p0)), (1, .int .i64 s1), (5, .int .i64 s2)]) rfl fun a' ha => ?_
   refine hK3 _ _ ?_; rw [ha]
   refine Rc.mk ?_
   refine AWP_sq [0, 1, 5] fun K4 hK4 => ?_
   refine AWP_block (AWP_thenB ?_)
   refine AWP_sq [0, 1, 5] fun K5 hK5 => ?_
   obtain ⟨v4, hv4, H⟩ := bindE H
   refine AWP_sr tok [] [0, 1, 5, 17] (fun a σ => a = [(0, .fsl (encL rI p0)), (1, .int .i64 s1), (5, .int .i64 s2), (17, .bool (ine v4 s1))] ∧ σ = hp E0 [] (M1 + 10)) (fun K hK => ?_) ?_
   ·
    simp -dsimp -implicitDefEqProofs (maxDischargeDepth := 6) [ix22 hv4]
    exact hK _ _ ⟨rfl, rfl⟩
   rintro a σ ⟨rfl, rfl⟩
   refine AWP_cond (ine v4 s1) rfl (fun C2 => ?_) (fun C2 => ?_)
   ·
    replace H := ifT C2 H
    refine AWP_sr tok [] [4] (fun a σ => a = [(4, .int .i64 (-1))] ∧ σ = hp E0 [] (M1 + 11)) (fun K hK => ?_) ?_
    ·
     simp -dsimp -implicitDefEqProofs (maxDischargeDepth := 6)
     exact hK _ _ ⟨rfl, rfl⟩
    rintro a σ ⟨rfl, rfl⟩
    replace H := Option.some.inj H; subst H
    refine AWP_kp [4] [(4, .int .i64 (-1))] rfl ?_
    refine AWP_ret (hO2 _ _ _ _ rfl ⟨rfl, ?_⟩)
    exact ⟨[.int .i64 (-1)], by simp, 4, by simp [encL_nil]⟩
   ·
    replace H := ifF C2 H
    refine AWP_skip ?_
    show K5 _ _
    refine keepE (l := [0, 1, 5]) (x := [(0, .fsl (encL rI p0)), (1, .int .i64 s1), (5, .int .i64 s2)]) rfl fun a' ha => ?_
    refine hK5 _ _ ?_; rw [ha]
    refine Rc.mk ?_
    refine AWP_rt tok [] [0, 1, 5] (fun a σ => a = [(0, .fsl (encL rI p0)), (1, .int .i64 (iadd .i64 s1 1)), (5, .int .i64 s2)] ∧ σ = hp E0 [] (M1 + 13)) (fun K hK => ?_) ?_
    ·
     simp -dsimp -implicitDefEqProofs (maxDischargeDepth := 6)
     exact hK _ _ ⟨rfl, rfl⟩
    rintro a σ ⟨ha, rfl⟩
    refine hK4 _ _ ?_; rw [ha]
    refine Rc.mk ?_
    refine AWP_rt tok [] [0, 1, 5] (fun a σ => a = [(0, .fsl (encL rI p0)), (1, .int .i64 (iadd .i64 s1 1)), (5, .int .i64 (iadd .i64 s2 1))] ∧ σ = hp E0 [] (M1 + 16)) (fun K hK => ?_) ?_
    ·
     simp -dsimp -implicitDefEqProofs (maxDischargeDepth := 6)
     exact hK _ _ ⟨rfl, rfl⟩
    rintro a σ ⟨ha, rfl⟩
    replace H := Option.some.inj H; subst H
    refine hK2 _ _ _ rfl ?_; rw [ha]
    exact Rc.fin (AHeap.Sub.refl _) ⟨M1 + 16, (by omega), rfl, rfl⟩
  ·
   replace H := ifF C1 H
   replace H := Option.some.inj H; subst H
   refine AWP_exit (hO2 _ _ _ _ rfl ⟨rfl, ?_⟩)
   refine Rc.rw (l := [1]) (X := [(1, .int .i64 s1)]) rfl ?_
   exact Rc.fin (AHeap.Sub.refl _) ⟨M1 + 4, (by omega), rfl, rfl⟩
 ·
  intro x a σ hx
  rcases e1 with y3 | r0
  ·
   obtain ⟨rfl, b, τ, hr, M2, fM2_0, rfl, rfl⟩ := hx
   dsimp only at H
   show K1 _ _
   refine hK1 _ _ (Rc_ref hr ?_)
   refine Rc.mk ?_
   refine AWP_sr tok [] [4] (fun a σ => a = [(4, .int .i64 y3)] ∧ σ = hp E0 [] (M2 + 2)) (fun K hK => ?_) ?_
   ·
    simp -dsimp -implicitDefEqProofs (maxDischargeDepth := 6)
    exact hK _ _ ⟨rfl, rfl⟩
   rintro a σ ⟨rfl, rfl⟩
   replace H := Option.some.inj H; subst H
   refine AWP_kp [4] [(4, .int .i64 y3)] rfl ?_
   refine AWP_ret ?_
   exact ⟨[.int .i64 y3], by simp, 4, by simp [encL_nil]⟩
  ·
   obtain ⟨rfl, hx2⟩ := hx
   dsimp only at H
   replace H := Option.some.inj H; subst H; exact hx2
theorem c40 {p0 : (List gMachine)} {p1 : Int} {r : Int} (H : l_heldMachineS p0 p1 = some r) : APure Tryd.prog G 40 [.fsl (encL rMachine p0), .int .i64 p1] (.int .i64 r) := by
 refine APure_fn (fun N0 => ?_) (by simp)
 refine ACalls_fn tok Tryd.func40 (by kernel_rfl) rfl Tryd.ntmps40 Tryd.results40 rfl ?_
 simp only [argsA, Nat.reduceAdd, hp_next]
 unfold l_heldMachineS at H
 refine AWP_sr tok [] [0, 1] (fun a σ => a = [(0, .fsl (encL rMachine p0)), (1, .int .i64 p1)] ∧ σ = hp E0 [] (N0 + 1)) (fun K hK => ?_) ?_
 ·
  simp -dsimp -implicitDefEqProofs (maxDischargeDepth := 6)
  exact hK _ _ ⟨rfl, rfl⟩
 rintro a σ ⟨rfl, rfl⟩
 refine AWP_sq [1] fun K1 hK1 => ?_
 refine AWP_sr tok [] [0, 1, 5] (fun a σ => a = [(0, .fsl (encL rMachine p0)), (1, .int .i64 p1), (5, .int .i64 0)] ∧ σ = hp E0 [] (N0 + 2)) (fun K hK => ?_) ?_
 ·
  simp -dsimp -implicitDefEqProofs (maxDischargeDepth := 6)
  exact hK _ _ ⟨rfl, rfl⟩
 rintro a σ ⟨rfl, rfl⟩
 refine AWP_block (AWP_thenB ?_)
 obtain ⟨e1, hse1, H⟩ := bindE H
 refine AWP_lp [0, 1, 5] (fun s a σ => ∃ M1 : Nat, N0 ≤ M1 ∧ a = [(0, .fsl (encL rMachine p0)), (1, .int .i64 s.1), (5, .int .i64 s.2)] ∧ σ = hp E0 [] M1) (fun e x a σ => match e with | .inl s => x = .exit 0 ∧ Rc G 40 N0 (fun a σ => ∃ M2 : Nat, N0 ≤ M2 ∧ a = [(1, .int .i64 s)] ∧ σ = hp E0 [] M2) (AAct.keep a [1]) σ | .inr s => x = .ret ∧ ∃ vs, resA T σ a [.tmp 4] = some vs ∧ ∃ d, thawA (fun _ => true) σ d (tupA vs) = .int .i64 s) hse1 ?_ ?_ ?_
 ·
  refine Rc.kp [0, 1, 5] [(0, .fsl (encL rMachine p0)), (1, .int .i64 p1), (5, .int .i64 0)] rfl ?_
  exact Rc.fin (AHeap.Sub.refl _) ⟨N0 + 2, (by omega), rfl, rfl⟩
 ·
  clear H hse1
  rintro ⟨s1, s2⟩ fl a σ H ⟨M1, fM1_0, rfl, rfl⟩ K2 O2 hK2 hO2
  unfold l_heldMachineS_L1 at H; dsimp only at H
  refine AWP_sq [0, 1, 5] fun K3 hK3 => ?_
  refine AWP_sr tok [] [0, 1, 5, 9] (fun a σ => a = [(0, .fsl (encL rMachine p0)), (1, .int .i64 s1), (5, .int .i64 s2), (9, .bool (ilt s2 (ilen p0)))] ∧ σ = hp E0 [] (M1 + 4)) (fun K hK => ?_) ?_
  ·
   simp -dsimp -implicitDefEqProofs (maxDischargeDepth := 6)
   exact hK _ _ ⟨rfl, rfl⟩
  rintro a σ ⟨rfl, rfl⟩
  refine AWP_cond (ilt s2 (ilen p0)) rfl (fun C1 => ?_) (fun C1 => ?_)
  ·
   replace H := ifT C1 H
   refine AWP_skip ?_
   show K3 _ _
   refine keepE (l := [0, 1, 5]) (x := [(0, .fsl (encL rMachine p0)), (1, .int .i64 s1), (5, .int .i64 s2)]) rfl fun a' ha => ?_
   refine hK3 _ _ ?_; rw [ha]
   refine Rc.mk ?_
   refine AWP_sq [0, 1, 5] fun K4 hK4 => ?_
   refine AWP_block (AWP_thenB ?_)
   obtain ⟨v4, hv4, H⟩ := bindE H
   obtain ⟨r5, hr5, H⟩ := bindE H
   refine AWP_sr tok [] [0, 1, 5] (fun a σ => a = [(0, .fsl (encL rMachine p0)), (1, .int .i64 r5), (5, .int .i64 s2)] ∧ σ = hp E0 [] (M1 + 12)) (fun K hK => ?_) ?_
   ·
    simp -dsimp -implicitDefEqProofs (maxDischargeDepth := 6) [ix25 hv4]
    refine (c42 hr5).app ?_; try simp -dsimp -implicitDefEqProofs (maxDischargeDepth := 6) [ix25 hv4]
    exact hK _ _ ⟨rfl, rfl⟩
   rintro a σ ⟨rfl, rfl⟩
   refine AWP_sq [0, 1, 5] fun K5 hK5 => ?_
   refine AWP_sr tok [] [0, 1, 5, 20] (fun a σ => a = [(0, .fsl (encL rMachine p0)), (1, .int .i64 r5), (5, .int .i64 s2), (20, .bool (ilt r5 0))] ∧ σ = hp E0 [] (M1 + 14)) (fun K hK => ?_) ?_
   ·
    simp -dsimp -implicitDefEqProofs (maxDischargeDepth := 6)
    exact hK _ _ ⟨rfl, rfl⟩
   rintro a σ ⟨rfl, rfl⟩
   refine AWP_cond (ilt r5 0) rfl (fun C2 => ?_) (fun C2 => ?_)
   ·
    replace H := ifT C2 H
    refine AWP_sr tok [] [4] (fun a σ => a = [(4, .int .i64 (-1))] ∧ σ = hp E0 [] (M1 + 15)) (fun K hK => ?_) ?_
    ·
     simp -dsimp -implicitDefEqProofs (maxDischargeDepth := 6)
     exact hK _ _ ⟨rfl, rfl⟩
    rintro a σ ⟨rfl, rfl⟩
    replace H := Option.some.inj H; subst H
    refine AWP_kp [4] [(4, .int .i64 (-1))] rfl ?_
    refine AWP_ret (hO2 _ _ _ _ rfl ⟨rfl, ?_⟩)
    exact ⟨[.int .i64 (-1)], by simp, 4, by simp [encL_nil]⟩
   ·
    replace H := ifF C2 H
    refine AWP_skip ?_
    show K5 _ _
    refine keepE (l := [0, 1, 5]) (x := [(0, .fsl (encL rMachine p0)), (1, .int .i64 r5), (5, .int .i64 s2)]) rfl fun a' ha => ?_
    refine hK5 _ _ ?_; rw [ha]
    refine Rc.mk ?_
    refine AWP_sq [0, 1, 5] fun K6 hK6 => ?_
    refine AWP_sr tok [] [0, 1, 5, 27] (fun a σ => a = [(0, .fsl (encL rMachine p0)), (1, .int .i64 r5), (5, .int .i64 s2), (27, .bool (ine v4.Pc r5))] ∧ σ = hp E0 [] (M1 + 21)) (fun K hK => ?_) ?_
    ·
     simp -dsimp -implicitDefEqProofs (maxDischargeDepth := 6) [ix25 hv4]
     exact hK _ _ ⟨rfl, rfl⟩
    rintro a σ ⟨rfl, rfl⟩
    refine AWP_cond (ine v4.Pc r5) rfl (fun C3 => ?_) (fun C3 => ?_)
    ·
     replace H := ifT C3 H
     refine AWP_sr tok [] [4] (fun a σ => a = [(4, .int .i64 (-1))] ∧ σ = hp E0 [] (M1 + 22)) (fun K hK => ?_) ?_
     ·
      simp -dsimp -implicitDefEqProofs (maxDischargeDepth := 6)
      exact hK _ _ ⟨rfl, rfl⟩
     rintro a σ ⟨rfl, rfl⟩
     replace H := Option.some.inj H; subst H
     refine AWP_kp [4] [(4, .int .i64 (-1))] rfl ?_
     refine AWP_ret (hO2 _ _ _ _ rfl ⟨rfl, ?_⟩)
     exact ⟨[.int .i64 (-1)], by simp, 4, by simp [encL_nil]⟩
    ·
     replace H := ifF C3 H
     refine AWP_skip ?_
     show K6 _ _
     refine keepE (l := [0, 1, 5]) (x := [(0, .fsl (encL rMachine p0)), (1, .int .i64 r5), (5, .int .i64 s2)]) rfl fun a' ha => ?_
     refine hK6 _ _ ?_; rw [ha]
     refine Rc.mk ?_
     refine AWP_sr tok [] [0, 1, 5] (fun a σ => a = [(0, .fsl (encL rMachine p0)), (1, .int .i64 (iadd .i64 r5 1)), (5, .int .i64 s2)] ∧ σ = hp E0 [] (M1 + 24)) (fun K hK => ?_) ?_
     ·
      simp -dsimp -implicitDefEqProofs (maxDischargeDepth := 6)
      exact hK _ _ ⟨rfl, rfl⟩
     rintro a σ ⟨rfl, rfl⟩
     obtain ⟨r6, hr6, H⟩ := bindE H
     refine AWP_sr tok [] [0, 1, 5] (fun a σ => a = [(0, .fsl (encL rMachine p0)), (1, .int .i64 r6), (5, .int .i64 s2)] ∧ σ = hp E0 [] (M1 + 32)) (fun K hK => ?_) ?_
     ·
      simp -dsimp -implicitDefEqProofs (maxDischargeDepth := 6) [ix25 hv4]
      refine (c42 hr6).app ?_; try simp -dsimp -implicitDefEqProofs (maxDischargeDepth := 6) [ix25 hv4]
      exact hK _ _ ⟨rfl, rfl⟩
     rintro a σ ⟨rfl, rfl⟩
     refine AWP_sr tok [] [0, 1, 5, 38] (fun a σ => a = [(0, .fsl (encL rMachine p0)), (1, .int .i64 r6), (5, .int .i64 s2), (38, .bool (ilt r6 0))] ∧ σ = hp E0 [] (M1 + 34)) (fun K hK => ?_) ?_
     ·
      simp -dsimp -implicitDefEqProofs (maxDischargeDepth := 6)
      exact hK _ _ ⟨rfl, rfl⟩
     rintro a σ ⟨rfl, rfl⟩
     refine AWP_cond (ilt r6 0) rfl (fun C4 => ?_) (fun C4 => ?_)
     ·
      replace H := ifT C4 H
      refine AWP_sr tok [] [4] (fun a σ => a = [(4, .int .i64 (-1))] ∧ σ = hp E0 [] (M1 + 35)) (fun K hK => ?_) ?_
      ·
       simp -dsimp -implicitDefEqProofs (maxDischargeDepth := 6)
       exact hK _ _ ⟨rfl, rfl⟩
      rintro a σ ⟨rfl, rfl⟩
      replace H := Option.some.inj H; subst H
      refine AWP_kp [4] [(4, .int .i64 (-1))] rfl ?_
      refine AWP_ret (hO2 _ _ _ _ rfl ⟨rfl, ?_⟩)
      exact ⟨[.int .i64 (-1)], by simp, 4, by simp [encL_nil]⟩
     ·
      replace H := ifF C4 H
      refine AWP_skip ?_
      show K4 _ _
      refine keepE (l := [0, 1, 5]) (x := [(0, .fsl (encL rMachine p0)), (1, .int .i64 r6), (5, .int .i64 s2)]) rfl fun a' ha => ?_
      refine hK4 _ _ ?_; rw [ha]
      refine Rc.mk ?_
      refine AWP_rt tok [] [0, 1, 5] (fun a σ => a = [(0, .fsl (encL rMachine p0)), (1, .int .i64 r6), (5, .int .i64 (iadd .i64 s2 1))] ∧ σ = hp E0 [] (M1 + 37)) (fun K hK => ?_) ?_
      ·
       simp -dsimp -implicitDefEqProofs (maxDischargeDepth := 6)
       exact hK _ _ ⟨rfl, rfl⟩
      rintro a σ ⟨ha, rfl⟩
      replace H := Option.some.inj H; subst H
      refine hK2 _ _ _ rfl ?_; rw [ha]
      exact Rc.fin (AHeap.Sub.refl _) ⟨M1 + 37, (by omega), rfl, rfl⟩
  ·
   replace H := ifF C1 H
   replace H := Option.some.inj H; subst H
   refine AWP_exit (hO2 _ _ _ _ rfl ⟨rfl, ?_⟩)
   refine Rc.rw (l := [1]) (X := [(1, .int .i64 s1)]) rfl ?_
   exact Rc.fin (AHeap.Sub.refl _) ⟨M1 + 4, (by omega), rfl, rfl⟩
 ·
  intro x a σ hx
  rcases e1 with y3 | r0
  ·
   obtain ⟨rfl, b, τ, hr, M2, fM2_0, rfl, rfl⟩ := hx
   dsimp only at H
   show K1 _ _
   refine hK1 _ _ (Rc_ref hr ?_)
   refine Rc.mk ?_
   refine AWP_sr tok [] [4] (fun a σ => a = [(4, .int .i64 y3)] ∧ σ = hp E0 [] (M2 + 2)) (fun K hK => ?_) ?_
   ·
    simp -dsimp -implicitDefEqProofs (maxDischargeDepth := 6)
    exact hK _ _ ⟨rfl, rfl⟩
   rintro a σ ⟨rfl, rfl⟩
   replace H := Option.some.inj H; subst H
   refine AWP_kp [4] [(4, .int .i64 y3)] rfl ?_
   refine AWP_ret ?_
   exact ⟨[.int .i64 y3], by simp, 4, by simp [encL_nil]⟩
  ·
   obtain ⟨rfl, hx2⟩ := hx
   dsimp only at H
   replace H := Option.some.inj H; subst H; exact hx2
theorem c41 {p0 : (List gBox)} {p1 : Int} {r : Int} (H : l_heldBoxS p0 p1 = some r) : APure Tryd.prog G 41 [.fsl (encL rBox p0), .int .i64 p1] (.int .i64 r) := by
 refine APure_fn (fun N0 => ?_) (by simp)
 refine ACalls_fn tok Tryd.func41 (by kernel_rfl) rfl Tryd.ntmps41 Tryd.results41 rfl ?_
 simp only [argsA, Nat.reduceAdd, hp_next]
 unfold l_heldBoxS at H
 refine AWP_sr tok [] [0, 1] (fun a σ => a = [(0, .fsl (encL rBox p0)), (1, .int .i64 p1)] ∧ σ = hp E0 [] (N0 + 1)) (fun K hK => ?_) ?_
 ·
  simp -dsimp -implicitDefEqProofs (maxDischargeDepth := 6)
  exact hK _ _ ⟨rfl, rfl⟩
 rintro a σ ⟨rfl, rfl⟩
 refine AWP_sq [1] fun K1 hK1 => ?_
 refine AWP_sr tok [] [0, 1, 5] (fun a σ => a = [(0, .fsl (encL rBox p0)), (1, .int .i64 p1), (5, .int .i64 0)] ∧ σ = hp E0 [] (N0 + 2)) (fun K hK => ?_) ?_
 ·
  simp -dsimp -implicitDefEqProofs (maxDischargeDepth := 6)
  exact hK _ _ ⟨rfl, rfl⟩
 rintro a σ ⟨rfl, rfl⟩
 refine AWP_block (AWP_thenB ?_)
 obtain ⟨e1, hse1, H⟩ := bindE H
 refine AWP_lp [0, 1, 5] (fun s a σ => ∃ M1 : Nat, N0 ≤ M1 ∧ a = [(0, .fsl (encL rBox p0)), (1, .int .i64 s.1), (5, .int .i64 s.2)] ∧ σ = hp E0 [] M1) (fun e x a σ => match e with | .inl s => x = .exit 0 ∧ Rc G 31 N0 (fun a σ => ∃ M2 : Nat, N0 ≤ M2 ∧ a = [(1, .int .i64 s)] ∧ σ = hp E0 [] M2) (AAct.keep a [1]) σ | .inr s => x = .ret ∧ ∃ vs, resA T σ a [.tmp 4] = some vs ∧ ∃ d, thawA (fun _ => true) σ d (tupA vs) = .int .i64 s) hse1 ?_ ?_ ?_
 ·
  refine Rc.kp [0, 1, 5] [(0, .fsl (encL rBox p0)), (1, .int .i64 p1), (5, .int .i64 0)] rfl ?_
  exact Rc.fin (AHeap.Sub.refl _) ⟨N0 + 2, (by omega), rfl, rfl⟩
 ·
  clear H hse1
  rintro ⟨s1, s2⟩ fl a σ H ⟨M1, fM1_0, rfl, rfl⟩ K2 O2 hK2 hO2
  unfold l_heldBoxS_L1 at H; dsimp only at H
  refine AWP_sq [0, 1, 5] fun K3 hK3 => ?_
  refine AWP_sr tok [] [0, 1, 5, 9] (fun a σ => a = [(0, .fsl (encL rBox p0)), (1, .int .i64 s1), (5, .int .i64 s2), (9, .bool (ilt s2 (ilen p0)))] ∧ σ = hp E0 [] (M1 + 4)) (fun K hK => ?_) ?_
  ·
   simp -dsimp -implicitDefEqProofs (maxDischargeDepth := 6)
   exact hK _ _ ⟨rfl, rfl⟩
  rintro a σ ⟨rfl, rfl⟩
  refine AWP_cond (ilt s2 (ilen p0)) rfl (fun C1 => ?_) (fun C1 => ?_)
  ·
   replace H := ifT C1 H
   refine AWP_skip ?_
   show K3 _ _
   refine keepE (l := [0, 1, 5]) (x := [(0, .fsl (encL rBox p0)), (1, .int .i64 s1), (5, .int .i64 s2)]) rfl fun a' ha => ?_
   refine hK3 _ _ ?_; rw [ha]
   refine Rc.mk ?_
   refine AWP_sq [0, 1, 5] fun K4 hK4 => ?_
   refine AWP_block (AWP_thenB ?_)
   refine AWP_sq [0, 1, 5] fun K5 hK5 => ?_
   obtain ⟨v4, hv4, H⟩ := bindE H
   refine AWP_sr tok [] [0, 1, 5, 18] (fun a σ => a = [(0, .fsl (encL rBox p0)), (1, .int .i64 s1), (5, .int .i64 s2), (18, .bool (ine v4.Room s1))] ∧ σ = hp E0 [] (M1 + 11)) (fun K hK => ?_) ?_
   ·
    simp -dsimp -implicitDefEqProofs (maxDischargeDepth := 6) [ix26 hv4]
    exact hK _ _ ⟨rfl, rfl⟩
   rintro a σ ⟨rfl, rfl⟩
   refine AWP_cond (ine v4.Room s1) rfl (fun C2 => ?_) (fun C2 => ?_)
   ·
    replace H := ifT C2 H
    refine AWP_sr tok [] [4] (fun a σ => a = [(4, .int .i64 (-1))] ∧ σ = hp E0 [] (M1 + 12)) (fun K hK => ?_) ?_
    ·
     simp -dsimp -implicitDefEqProofs (maxDischargeDepth := 6)
     exact hK _ _ ⟨rfl, rfl⟩
    rintro a σ ⟨rfl, rfl⟩
    replace H := Option.some.inj H; subst H
    refine AWP_kp [4] [(4, .int .i64 (-1))] rfl ?_
    refine AWP_ret (hO2 _ _ _ _ rfl ⟨rfl, ?_⟩)
    exact ⟨[.int .i64 (-1)], by simp, 4, by simp [encL_nil]⟩
   ·
    replace H := ifF C2 H
    refine AWP_skip ?_
    show K5 _ _
    refine keepE (l := [0, 1, 5]) (x := [(0, .fsl (encL rBox p0)), (1, .int .i64 s1), (5, .int .i64 s2)]) rfl fun a' ha => ?_
    refine hK5 _ _ ?_; rw [ha]
    refine Rc.mk ?_
    refine AWP_sr tok [] [0, 1, 5] (fun a σ => a = [(0, .fsl (encL rBox p0)), (1, .int .i64 (iadd .i64 s1 1)), (5, .int .i64 s2)] ∧ σ = hp E0 [] (M1 + 14)) (fun K hK => ?_) ?_
    ·
     simp -dsimp -implicitDefEqProofs (maxDischargeDepth := 6)
     exact hK _ _ ⟨rfl, rfl⟩
    rintro a σ ⟨rfl, rfl⟩
    obtain ⟨r5, hr5, H⟩ := bindE H
    refine AWP_sr tok [] [0, 1, 5] (fun a σ => a = [(0, .fsl (encL rBox p0)), (1, .int .i64 r5), (5, .int .i64 s2)] ∧ σ = hp E0 [] (M1 + 22)) (fun K hK => ?_) ?_
    ·
     simp -dsimp -implicitDefEqProofs (maxDischargeDepth := 6) [ix26 hv4]
     refine (c42 hr5).app ?_; try simp -dsimp -implicitDefEqProofs (maxDischargeDepth := 6) [ix26 hv4]
     exact hK _ _ ⟨rfl, rfl⟩
    rintro a σ ⟨rfl, rfl⟩
    refine AWP_sr tok [] [0, 1, 5, 29] (fun a σ => a = [(0, .fsl (encL rBox p0)), (1, .int .i64 r5), (5, .int .i64 s2), (29, .bool (ilt r5 0))] ∧ σ = hp E0 [] (M1 + 24)) (fun K hK => ?_) ?_
    ·
     simp -dsimp -implicitDefEqProofs (maxDischargeDepth := 6)
     exact hK _ _ ⟨rfl, rfl⟩
    rintro a σ ⟨rfl, rfl⟩
    refine AWP_cond (ilt r5 0) rfl (fun C3 => ?_) (fun C3 => ?_)
    ·
     replace H := ifT C3 H
     refine AWP_sr tok [] [4] (fun a σ => a = [(4, .int .i64 (-1))] ∧ σ = hp E0 [] (M1 + 25)) (fun K hK => ?_) ?_
     ·
      simp -dsimp -implicitDefEqProofs (maxDischargeDepth := 6)
      exact hK _ _ ⟨rfl, rfl⟩
     rintro a σ ⟨rfl, rfl⟩
     replace H := Option.some.inj H; subst H
     refine AWP_kp [4] [(4, .int .i64 (-1))] rfl ?_
     refine AWP_ret (hO2 _ _ _ _ rfl ⟨rfl, ?_⟩)
     exact ⟨[.int .i64 (-1)], by simp, 4, by simp [encL_nil]⟩
    ·
     replace H := ifF C3 H
     refine AWP_skip ?_
     show K4 _ _
     refine keepE (l := [0, 1, 5]) (x := [(0, .fsl (encL rBox p0)), (1, .int .i64 r5), (5, .int .i64 s2)]) rfl fun a' ha => ?_
     refine hK4 _ _ ?_; rw [ha]
     refine Rc.mk ?_
     refine AWP_rt tok [] [0, 1, 5] (fun a σ => a = [(0, .fsl (encL rBox p0)), (1, .int .i64 r5), (5, .int .i64 (iadd .i64 s2 1))] ∧ σ = hp E0 [] (M1 + 27)) (fun K hK => ?_) ?_
     ·
      simp -dsimp -implicitDefEqProofs (maxDischargeDepth := 6)
      exact hK _ _ ⟨rfl, rfl⟩
     rintro a σ ⟨ha, rfl⟩
     replace H := Option.some.inj H; subst H
     refine hK2 _ _ _ rfl ?_; rw [ha]
     exact Rc.fin (AHeap.Sub.refl _) ⟨M1 + 27, (by omega), rfl, rfl⟩
  ·
   replace H := ifF C1 H
   replace H := Option.some.inj H; subst H
   refine AWP_exit (hO2 _ _ _ _ rfl ⟨rfl, ?_⟩)
   refine Rc.rw (l := [1]) (X := [(1, .int .i64 s1)]) rfl ?_
   exact Rc.fin (AHeap.Sub.refl _) ⟨M1 + 4, (by omega), rfl, rfl⟩
 ·
  intro x a σ hx
  rcases e1 with y3 | r0
  ·
   obtain ⟨rfl, b, τ, hr, M2, fM2_0, rfl, rfl⟩ := hx
   dsimp only at H
   show K1 _ _
   refine hK1 _ _ (Rc_ref hr ?_)
   refine Rc.mk ?_
   refine AWP_sr tok [] [4] (fun a σ => a = [(4, .int .i64 y3)] ∧ σ = hp E0 [] (M2 + 2)) (fun K hK => ?_) ?_
   ·
    simp -dsimp -implicitDefEqProofs (maxDischargeDepth := 6)
    exact hK _ _ ⟨rfl, rfl⟩
   rintro a σ ⟨rfl, rfl⟩
   replace H := Option.some.inj H; subst H
   refine AWP_kp [4] [(4, .int .i64 y3)] rfl ?_
   refine AWP_ret ?_
   exact ⟨[.int .i64 y3], by simp, 4, by simp [encL_nil]⟩
  ·
   obtain ⟨rfl, hx2⟩ := hx
   dsimp only at H
   replace H := Option.some.inj H; subst H; exact hx2
theorem c16 {p0 : gSquad} {p1 : Int} {r : Int} (H : l_heldSquad p0 p1 = some r) : APure Tryd.prog G 16 [.agg [.fsl (encL rMachine p0.Harts), .fsl (encL rBox p0.Boxes), .int .i64 p0.Turn, .int .i64 p0.Idle, .fsl (encL rI p0.Out)], .int .i64 p1] (.int .i64 r) := by
 refine APure_fn (fun N0 => ?_) (by simp)
 refine ACalls_fn tok Tryd.func16 (by kernel_rfl) rfl Tryd.ntmps16 Tryd.results16 rfl ?_
 simp only [argsA, Nat.reduceAdd, hp_next]
 unfold l_heldSquad at H
 refine AWP_sr tok [0] [1, 2] (fun a σ => a = [(1, .int .i64 p1), (2, .fptr [.fsl (encL rMachine p0.Harts), .fsl (encL rBox p0.Boxes), .int .i64 p0.Turn, .int .i64 p0.Idle, .fsl (encL rI p0.Out)] 0)] ∧ σ = hp E0 [] (N0 + 2)) (fun K hK => ?_) ?_
 ·
  simp -dsimp -implicitDefEqProofs (maxDischargeDepth := 6)
  exact hK _ _ ⟨rfl, rfl⟩
 rintro a σ ⟨rfl, rfl⟩
 obtain ⟨r1, hr1, H⟩ := bindE H
 refine AWP_sr tok [] [1, 2] (fun a σ => a = [(1, .int .i64 r1), (2, .fptr [.fsl (encL rMachine p0.Harts), .fsl (encL rBox p0.Boxes), .int .i64 p0.Turn, .int .i64 p0.Idle, .fsl (encL rI p0.Out)] 0)] ∧ σ = hp E0 [] (N0 + 7)) (fun K hK => ?_) ?_
 ·
  simp -dsimp -implicitDefEqProofs (maxDischargeDepth := 6)
  refine (c40 hr1).app ?_; try simp -dsimp -implicitDefEqProofs (maxDischargeDepth := 6)
  exact hK _ _ ⟨rfl, rfl⟩
 rintro a σ ⟨rfl, rfl⟩
 refine AWP_sq [1, 2] fun K1 hK1 => ?_
 refine AWP_sr tok [] [1, 2, 10] (fun a σ => a = [(1, .int .i64 r1), (2, .fptr [.fsl (encL rMachine p0.Harts), .fsl (encL rBox p0.Boxes), .int .i64 p0.Turn, .int .i64 p0.Idle, .fsl (encL rI p0.Out)] 0), (10, .bool (ilt r1 0))] ∧ σ = hp E0 [] (N0 + 9)) (fun K hK => ?_) ?_
 ·
  simp -dsimp -implicitDefEqProofs (maxDischargeDepth := 6)
  exact hK _ _ ⟨rfl, rfl⟩
 rintro a σ ⟨rfl, rfl⟩
 refine AWP_cond (ilt r1 0) rfl (fun C1 => ?_) (fun C1 => ?_)
 ·
  replace H := ifT C1 H
  refine AWP_sr tok [] [4] (fun a σ => a = [(4, .int .i64 (-1))] ∧ σ = hp E0 [] (N0 + 10)) (fun K hK => ?_) ?_
  ·
   simp -dsimp -implicitDefEqProofs (maxDischargeDepth := 6)
   exact hK _ _ ⟨rfl, rfl⟩
  rintro a σ ⟨rfl, rfl⟩
  replace H := Option.some.inj H; subst H
  refine AWP_kp [4] [(4, .int .i64 (-1))] rfl ?_
  refine AWP_ret ?_
  exact ⟨[.int .i64 (-1)], by simp, 4, by simp [encL_nil]⟩
 ·
  replace H := ifF C1 H
  refine AWP_skip ?_
  show K1 _ _
  refine keepE (l := [1, 2]) (x := [(1, .int .i64 r1), (2, .fptr [.fsl (encL rMachine p0.Harts), .fsl (encL rBox p0.Boxes), .int .i64 p0.Turn, .int .i64 p0.Idle, .fsl (encL rI p0.Out)] 0)]) rfl fun a' ha => ?_
  refine hK1 _ _ ?_; rw [ha]
  refine Rc.mk ?_
  obtain ⟨r2, hr2, H⟩ := bindE H
  refine AWP_sr tok [] [1, 2] (fun a σ => a = [(1, .int .i64 r2), (2, .fptr [.fsl (encL rMachine p0.Harts), .fsl (encL rBox p0.Boxes), .int .i64 p0.Turn, .int .i64 p0.Idle, .fsl (encL rI p0.Out)] 0)] ∧ σ = hp E0 [] (N0 + 14)) (fun K hK => ?_) ?_
  ·
   simp -dsimp -implicitDefEqProofs (maxDischargeDepth := 6)
   refine (c41 hr2).app ?_; try simp -dsimp -implicitDefEqProofs (maxDischargeDepth := 6)
   exact hK _ _ ⟨rfl, rfl⟩
  rintro a σ ⟨rfl, rfl⟩
  refine AWP_sq [1, 2] fun K2 hK2 => ?_
  refine AWP_sr tok [] [1, 2, 16] (fun a σ => a = [(1, .int .i64 r2), (2, .fptr [.fsl (encL rMachine p0.Harts), .fsl (encL rBox p0.Boxes), .int .i64 p0.Turn, .int .i64 p0.Idle, .fsl (encL rI p0.Out)] 0), (16, .bool (ilt r2 0))] ∧ σ = hp E0 [] (N0 + 16)) (fun K hK => ?_) ?_
  ·
   simp -dsimp -implicitDefEqProofs (maxDischargeDepth := 6)
   exact hK _ _ ⟨rfl, rfl⟩
  rintro a σ ⟨rfl, rfl⟩
  refine AWP_cond (ilt r2 0) rfl (fun C2 => ?_) (fun C2 => ?_)
  ·
   replace H := ifT C2 H
   refine AWP_sr tok [] [4] (fun a σ => a = [(4, .int .i64 (-1))] ∧ σ = hp E0 [] (N0 + 17)) (fun K hK => ?_) ?_
   ·
    simp -dsimp -implicitDefEqProofs (maxDischargeDepth := 6)
    exact hK _ _ ⟨rfl, rfl⟩
   rintro a σ ⟨rfl, rfl⟩
   replace H := Option.some.inj H; subst H
   refine AWP_kp [4] [(4, .int .i64 (-1))] rfl ?_
   refine AWP_ret ?_
   exact ⟨[.int .i64 (-1)], by simp, 4, by simp [encL_nil]⟩
  ·
   replace H := ifF C2 H
   refine AWP_skip ?_
   show K2 _ _
   refine keepE (l := [1, 2]) (x := [(1, .int .i64 r2), (2, .fptr [.fsl (encL rMachine p0.Harts), .fsl (encL rBox p0.Boxes), .int .i64 p0.Turn, .int .i64 p0.Idle, .fsl (encL rI p0.Out)] 0)]) rfl fun a' ha => ?_
   refine hK2 _ _ ?_; rw [ha]
   refine Rc.mk ?_
   obtain ⟨r3, hr3, H⟩ := bindE H
   refine AWP_sr tok [] [1] (fun a σ => a = [(1, .int .i64 r3)] ∧ σ = hp E0 [] (N0 + 21)) (fun K hK => ?_) ?_
   ·
    simp -dsimp -implicitDefEqProofs (maxDischargeDepth := 6)
    refine (c42 hr3).app ?_; try simp -dsimp -implicitDefEqProofs (maxDischargeDepth := 6)
    exact hK _ _ ⟨rfl, rfl⟩
   rintro a σ ⟨rfl, rfl⟩
   refine AWP_sq [1] fun K3 hK3 => ?_
   refine AWP_sr tok [] [1, 22] (fun a σ => a = [(1, .int .i64 r3), (22, .bool (ilt r3 0))] ∧ σ = hp E0 [] (N0 + 23)) (fun K hK => ?_) ?_
   ·
    simp -dsimp -implicitDefEqProofs (maxDischargeDepth := 6)
    exact hK _ _ ⟨rfl, rfl⟩
   rintro a σ ⟨rfl, rfl⟩
   refine AWP_cond (ilt r3 0) rfl (fun C3 => ?_) (fun C3 => ?_)
   ·
    replace H := ifT C3 H
    refine AWP_sr tok [] [4] (fun a σ => a = [(4, .int .i64 (-1))] ∧ σ = hp E0 [] (N0 + 24)) (fun K hK => ?_) ?_
    ·
     simp -dsimp -implicitDefEqProofs (maxDischargeDepth := 6)
     exact hK _ _ ⟨rfl, rfl⟩
    rintro a σ ⟨rfl, rfl⟩
    replace H := Option.some.inj H; subst H
    refine AWP_kp [4] [(4, .int .i64 (-1))] rfl ?_
    refine AWP_ret ?_
    exact ⟨[.int .i64 (-1)], by simp, 4, by simp [encL_nil]⟩
   ·
    replace H := ifF C3 H
    refine AWP_skip ?_
    show K3 _ _
    refine keepE (l := [1]) (x := [(1, .int .i64 r3)]) rfl fun a' ha => ?_
    refine hK3 _ _ ?_; rw [ha]
    refine Rc.mk ?_
    refine AWP_sr tok [] [4] (fun a σ => a = [(4, .int .i64 r3)] ∧ σ = hp E0 [] (N0 + 25)) (fun K hK => ?_) ?_
    ·
     simp -dsimp -implicitDefEqProofs (maxDischargeDepth := 6)
     exact hK _ _ ⟨rfl, rfl⟩
    rintro a σ ⟨rfl, rfl⟩
    replace H := Option.some.inj H; subst H
    refine AWP_kp [4] [(4, .int .i64 r3)] rfl ?_
    refine AWP_ret ?_
    exact ⟨[.int .i64 r3], by simp, 4, by simp [encL_nil]⟩
theorem c3 {p0 : (List Int)} {p1 : (List (List gInstr))} {r : Bool} (H : l_FnExactSquadNew p0 p1 = some r) : APure Tryd.prog G 3 [.fsl (encL rI p0), .fsl (encL rL_Instr p1)] (.bool r) := by
 refine APure_fn (fun N0 => ?_) (by simp)
 refine ACalls_fn tok Tryd.func3 (by kernel_rfl) rfl Tryd.ntmps3 Tryd.results3 rfl ?_
 simp only [argsA, Nat.reduceAdd, hp_next]
 unfold l_FnExactSquadNew at H
 refine AWP_sr tok [] [0, 1] (fun a σ => a = [(0, .fsl (encL rI p0)), (1, .fsl (encL rL_Instr p1))] ∧ σ = hp E0 [] (N0 + 1)) (fun K hK => ?_) ?_
 ·
  simp -dsimp -implicitDefEqProofs (maxDischargeDepth := 6)
  exact hK _ _ ⟨rfl, rfl⟩
 rintro a σ ⟨rfl, rfl⟩
 refine AWP_sq [0, 1] fun K1 hK1 => ?_
 refine AWP_sr tok [] [0, 1, 19] (fun a σ => a = [(0, .fsl (encL rI p0)), (1, .fsl (encL rL_Instr p1)), (19, .bool (igt (ilen p0) 1048576))] ∧ σ = hp E0 [] (N0 + 4)) (fun K hK => ?_) ?_
 ·
  simp -dsimp -implicitDefEqProofs (maxDischargeDepth := 6)
  exact hK _ _ ⟨rfl, rfl⟩
 rintro a σ ⟨rfl, rfl⟩
 refine AWP_cond (igt (ilen p0) 1048576) rfl (fun C1 => ?_) (fun C1 => ?_)
 ·
  replace H := ifT C1 H
  refine AWP_sr tok [] [4] (fun a σ => a = [(4, .bool true)] ∧ σ = hp E0 [] (N0 + 5)) (fun K hK => ?_) ?_
  ·
   simp -dsimp -implicitDefEqProofs (maxDischargeDepth := 6)
   exact hK _ _ ⟨rfl, rfl⟩
  rintro a σ ⟨rfl, rfl⟩
  replace H := Option.some.inj H; subst H
  refine AWP_kp [4] [(4, .bool true)] rfl ?_
  refine AWP_ret ?_
  exact ⟨[.bool true], by simp, 4, by simp [encL_nil]⟩
 ·
  replace H := ifF C1 H
  refine AWP_skip ?_
  show K1 _ _
  refine keepE (l := [0, 1]) (x := [(0, .fsl (encL rI p0)), (1, .fsl (encL rL_Instr p1))]) rfl fun a' ha => ?_
  refine hK1 _ _ ?_; rw [ha]
  refine Rc.mk ?_
  refine AWP_sr tok [] [0, 1, 5] (fun a σ => a = [(0, .fsl (encL rI p0)), (1, .fsl (encL rL_Instr p1)), (5, .int .i64 1048576)] ∧ σ = hp E0 [] (N0 + 5)) (fun K hK => ?_) ?_
  ·
   simp -dsimp -implicitDefEqProofs (maxDischargeDepth := 6)
   exact hK _ _ ⟨rfl, rfl⟩
  rintro a σ ⟨rfl, rfl⟩
  obtain ⟨r1, hr1, H⟩ := bindE H
  refine AWP_sr tok [] [0, 1, 5] (fun a σ => a = [(0, .fsl (encL rI p0)), (1, .fsl (encL rL_Instr p1)), (5, .int .i64 r1)] ∧ σ = hp E0 [] (N0 + 9)) (fun K hK => ?_) ?_
  ·
   simp -dsimp -implicitDefEqProofs (maxDischargeDepth := 6)
   refine (c5 hr1).app ?_; try simp -dsimp -implicitDefEqProofs (maxDischargeDepth := 6)
   exact hK _ _ ⟨rfl, rfl⟩
  rintro a σ ⟨rfl, rfl⟩
  refine AWP_sq [0, 1] fun K2 hK2 => ?_
  refine AWP_sr tok [] [0, 1, 24] (fun a σ => a = [(0, .fsl (encL rI p0)), (1, .fsl (encL rL_Instr p1)), (24, .bool (ilt r1 0))] ∧ σ = hp E0 [] (N0 + 11)) (fun K hK => ?_) ?_
  ·
   simp -dsimp -implicitDefEqProofs (maxDischargeDepth := 6)
   exact hK _ _ ⟨rfl, rfl⟩
  rintro a σ ⟨rfl, rfl⟩
  refine AWP_cond (ilt r1 0) rfl (fun C2 => ?_) (fun C2 => ?_)
  ·
   replace H := ifT C2 H
   refine AWP_sr tok [] [4] (fun a σ => a = [(4, .bool true)] ∧ σ = hp E0 [] (N0 + 12)) (fun K hK => ?_) ?_
   ·
    simp -dsimp -implicitDefEqProofs (maxDischargeDepth := 6)
    exact hK _ _ ⟨rfl, rfl⟩
   rintro a σ ⟨rfl, rfl⟩
   replace H := Option.some.inj H; subst H
   refine AWP_kp [4] [(4, .bool true)] rfl ?_
   refine AWP_ret ?_
   exact ⟨[.bool true], by simp, 4, by simp [encL_nil]⟩
  ·
   replace H := ifF C2 H
   refine AWP_skip ?_
   show K2 _ _
   refine keepE (l := [0, 1]) (x := [(0, .fsl (encL rI p0)), (1, .fsl (encL rL_Instr p1))]) rfl fun a' ha => ?_
   refine hK2 _ _ ?_; rw [ha]
   refine Rc.mk ?_
   obtain ⟨r2, hr2, H⟩ := bindE H
   obtain ⟨r3, hr3, H⟩ := bindE H
   obtain ⟨r4, hr4, H⟩ := bindE H
   refine AWP_sr tok [] [0, 1, 6, 7] (fun a σ => a = [(0, .fsl (encL rI p0)), (1, .fsl (encL rL_Instr p1)), (6, .ptr (N0 + 19) 0 0), (7, .bool r4.2)] ∧ σ = hp E0 [(N0 + 19, some ⟨28, 5, [[.fsl (encL rMachine r4.1.Harts), .fsl (encL rBox r4.1.Boxes), .int .i64 r4.1.Turn, .int .i64 r4.1.Idle, .fsl (encL rI r4.1.Out)]]⟩)] (N0 + 22)) (fun K hK => ?_) ?_
   ·
    simp -dsimp -implicitDefEqProofs (maxDischargeDepth := 6)
    refine (c7 hr2).app ?_; try simp -dsimp -implicitDefEqProofs (maxDischargeDepth := 6)
    refine (c8 hr3).app ?_; try simp -dsimp -implicitDefEqProofs (maxDischargeDepth := 6)
    refine (c6 hr4).app ?_; try simp -dsimp -implicitDefEqProofs (maxDischargeDepth := 6)
    exact hK _ _ ⟨rfl, rfl⟩
   rintro a σ ⟨rfl, rfl⟩
   obtain ⟨r5, hr5, H⟩ := bindE H
   refine AWP_sr tok [] [0, 1, 6, 7, 8] (fun a σ => ∃ M1 o1 : Nat, N0 + 25 ≤ M1 ∧ N0 + 25 ≤ o1 ∧ o1 < M1 ∧ a = [(0, .fsl (encL rI p0)), (1, .fsl (encL rL_Instr p1)), (6, .ptr (N0 + 19) 0 0), (7, .bool r4.2), (8, .sl o1 0 r5.length)] ∧ σ = hp E0 [(N0 + 19, some ⟨28, 5, [[.fsl (encL rMachine r4.1.Harts), .fsl (encL rBox r4.1.Boxes), .int .i64 r4.1.Turn, .int .i64 r4.1.Idle, .fsl (encL rI r4.1.Out)]]⟩), (o1, some ⟨3, 1, encL rI r5⟩)] M1) (fun K hK => ?_) ?_
   ·
    simp -dsimp -implicitDefEqProofs (maxDischargeDepth := 6)
    refine (c7_o (H := hr5) ).mono ?_; rintro _ _ ⟨M1, o1, fM1_0, fM1_1, fM1_2, rfl, rfl⟩; simp only [hp_next] at fM1_0 fM1_1 fM1_2
    have eM1_0 := nq (a := o1) (b := N0 + 19) (by omega)
    try simp -dsimp -implicitDefEqProofs (maxDischargeDepth := 6) [eM1_0, hp_over_some, hp_over_none]
    exact hK _ _ ⟨M1, o1, (by omega), (by omega), (by omega), rfl, rfl⟩
   rintro a σ ⟨M1, o1, fM1_0, fM1_1, fM1_2, rfl, rfl⟩
   obtain ⟨r6, hr6, H⟩ := bindE H
   refine AWP_sr tok [] [0, 1, 6, 7, 8, 9] (fun a σ => ∃ M2 o2 : Nat, M1 + 3 ≤ M2 ∧ M1 + 3 ≤ o2 ∧ o2 < M2 ∧ a = [(0, .fsl (encL rI p0)), (1, .fsl (encL rL_Instr p1)), (6, .ptr (N0 + 19) 0 0), (7, .bool r4.2), (8, .sl o1 0 r5.length), (9, .sl o2 0 r6.length)] ∧ σ = hp E0 [(N0 + 19, some ⟨28, 5, [[.fsl (encL rMachine r4.1.Harts), .fsl (encL rBox r4.1.Boxes), .int .i64 r4.1.Turn, .int .i64 r4.1.Idle, .fsl (encL rI r4.1.Out)]]⟩), (o1, some ⟨3, 1, encL rI r5⟩), (o2, some ⟨46, 1, encL rL_Instr_o r6⟩)] M2) (fun K hK => ?_) ?_
   ·
    have e0 := nq (a := N0 + 19) (b := o1) (by omega)
    simp -dsimp -implicitDefEqProofs (maxDischargeDepth := 6) [e0]
    refine (c8_o2 (H := hr6) ).mono ?_; rintro _ _ ⟨M2, o2, fM2_0, fM2_1, fM2_2, rfl, rfl⟩; simp only [hp_next] at fM2_0 fM2_1 fM2_2
    have eM2_0 := nq (a := o2) (b := N0 + 19) (by omega)
    have eM2_1 := nq (a := o2) (b := o1) (by omega)
    try simp -dsimp -implicitDefEqProofs (maxDischargeDepth := 6) [e0, eM2_0, eM2_1, hp_over_some, hp_over_none]
    exact hK _ _ ⟨M2, o2, (by omega), (by omega), (by omega), rfl, rfl⟩
   rintro a σ ⟨M2, o2, fM2_0, fM2_1, fM2_2, rfl, rfl⟩
   obtain ⟨r7, hr7, H⟩ := bindE H
   refine AWP_sr tok [] [0, 1, 6, 7, 8, 9, 10, 11] (fun a σ => ∃ M3 o3 o4 o5 : Nat, M2 + 9 ≤ M3 ∧ M2 + 9 ≤ o3 ∧ o3 < M3 ∧ M2 + 9 ≤ o4 ∧ o4 < M3 ∧ M2 + 9 ≤ o5 ∧ o5 < M3 ∧ ¬ o3 = o4 ∧ ¬ o3 = o5 ∧ ¬ o4 = o5 ∧ a = [(0, .fsl (encL rI p0)), (1, .fsl (encL rL_Instr p1)), (6, .ptr (N0 + 19) 0 0), (7, .bool r4.2), (8, .sl o1 0 r5.length), (9, .sl o2 0 r6.length), (10, .ptr (M2 + 6) 0 0), (11, .bool r7.2)] ∧ σ = hp E0 [(N0 + 19, some ⟨28, 5, [[.fsl (encL rMachine r4.1.Harts), .fsl (encL rBox r4.1.Boxes), .int .i64 r4.1.Turn, .int .i64 r4.1.Idle, .fsl (encL rI r4.1.Out)]]⟩), (o1, some ⟨3, 1, encL rI r5⟩), (o2, some ⟨46, 1, encL rL_Instr_o r6⟩), (o3, some ⟨53, 3, encL rMachine_oo r7.1.Harts⟩), (o4, some ⟨86, 2, encL rBox_o r7.1.Boxes⟩), (o5, some ⟨3, 1, encL rI r7.1.Out⟩), (M2 + 6, some ⟨28, 5, [[.sl o3 0 r7.1.Harts.length, .sl o4 0 r7.1.Boxes.length, .int .i64 r7.1.Turn, .int .i64 r7.1.Idle, .sl o5 0 r7.1.Out.length]]⟩)] M3) (fun K hK => ?_) ?_
   ·
    have e0 := nq (a := N0 + 19) (b := o1) (by omega)
    have e1 := nq (a := N0 + 19) (b := o2) (by omega)
    have e2 := nq (a := N0 + 19) (b := M2 + 6) (by omega)
    have e3 := nq (a := N0 + 13) (b := M2) (by omega)
    have e4 := nq (a := o1) (b := o2) (by omega)
    have e5 := nq (a := o1) (b := M2 + 6) (by omega)
    have e6 := nq (a := o2) (b := M2 + 6) (by omega)
    simp -dsimp -implicitDefEqProofs (maxDischargeDepth := 6) [e0, e1, e2, e3, e4, e5, e6]
    refine (c9_o6_b (H := hr7) (by simp [e0, e1, e2, e3, e4, e5, e6])).mono ?_; rintro _ _ ⟨M3, o3, o4, o5, fM3_0, fM3_1, fM3_2, fM3_3, fM3_4, fM3_5, fM3_6, fM3_7, fM3_8, fM3_9, rfl, rfl⟩; simp only [hp_next] at fM3_0 fM3_1 fM3_2 fM3_3 fM3_4 fM3_5 fM3_6 fM3_7 fM3_8 fM3_9
    have eM3_0 := nq (a := o3) (b := N0 + 19) (by omega)
    have eM3_1 := nq (a := o3) (b := o1) (by omega)
    have eM3_2 := nq (a := o3) (b := o2) (by omega)
    have eM3_3 := nq (a := o3) (b := M2 + 6) (by omega)
    have eM3_4 := nq (a := o3) (b := o4) (by omega)
    have eM3_5 := nq (a := o3) (b := o5) (by omega)
    have eM3_6 := nq (a := o4) (b := N0 + 19) (by omega)
    have eM3_7 := nq (a := o4) (b := o1) (by omega)
    have eM3_8 := nq (a := o4) (b := o2) (by omega)
    have eM3_9 := nq (a := o4) (b := M2 + 6) (by omega)
    have eM3_10 := nq (a := o4) (b := o5) (by omega)
    have eM3_11 := nq (a := o5) (b := N0 + 19) (by omega)
    have eM3_12 := nq (a := o5) (b := o1) (by omega)
    have eM3_13 := nq (a := o5) (b := o2) (by omega)
    have eM3_14 := nq (a := o5) (b := M2 + 6) (by omega)
    try simp -dsimp -implicitDefEqProofs (maxDischargeDepth := 6) [e0, e1, e2, e3, e4, e5, e6, eM3_0, eM3_1, eM3_2, eM3_3, eM3_4, eM3_5, eM3_6, eM3_7, eM3_8, eM3_9, eM3_10, eM3_11, eM3_12, eM3_13, eM3_14, hp_over_some, hp_over_none]
    exact hK _ _ ⟨M3, o3, o4, o5, (by omega), (by omega), (by omega), (by omega), (by omega), (by omega), (by omega), (by omega), (by omega), (by omega), rfl, rfl⟩
   rintro a σ ⟨M3, o3, o4, o5, fM3_0, fM3_1, fM3_2, fM3_3, fM3_4, fM3_5, fM3_6, fM3_7, fM3_8, fM3_9, rfl, rfl⟩
   refine AWP_sq [0, 1, 6, 7, 8, 9, 10, 11] fun K3 hK3 => ?_
   refine gPk AWP_ref (k := r7.1.Harts.length) (o := (M2 + 6)) (ob := ⟨28, 5, [[.sl o3 0 r7.1.Harts.length, .sl o4 0 r7.1.Boxes.length, .int .i64 r7.1.Turn, .int .i64 r7.1.Idle, .sl o5 0 r7.1.Out.length]]⟩) (row := [.sl o3 0 r7.1.Harts.length, .sl o4 0 r7.1.Boxes.length, .int .i64 r7.1.Turn, .int .i64 r7.1.Idle, .sl o5 0 r7.1.Out.length]) (d := o3) (obd := ⟨53, 3, encL rMachine_oo r7.1.Harts⟩) (r := 0) (i := 0) [(N0 + 19, some ⟨28, 5, [[.fsl (encL rMachine r4.1.Harts), .fsl (encL rBox r4.1.Boxes), .int .i64 r4.1.Turn, .int .i64 r4.1.Idle, .fsl (encL rI r4.1.Out)]]⟩), (o1, some ⟨3, 1, encL rI r5⟩), (o2, some ⟨46, 1, encL rL_Instr_o r6⟩), (o4, some ⟨86, 2, encL rBox_o r7.1.Boxes⟩), (o5, some ⟨3, 1, encL rI r7.1.Out⟩), (M2 + 6, some ⟨28, 5, [[.osl 53 3 (encL rMachine_oo r7.1.Harts), .sl o4 0 r7.1.Boxes.length, .int .i64 r7.1.Turn, .int .i64 r7.1.Idle, .sl o5 0 r7.1.Out.length]]⟩)] (by simp (disch := omega)) rfl rfl (by simp (disch := omega)) (by simp (disch := omega)) (by first | omega | simp) (by simp (disch := omega) [List.set_set, app_set] <;> omega) (by simp (disch := omega) [List.set_set, app_set]) ?_
   refine gPk AWP_ref (k := r7.1.Boxes.length) (o := (M2 + 6)) (ob := ⟨28, 5, [[.osl 53 3 (encL rMachine_oo r7.1.Harts), .sl o4 0 r7.1.Boxes.length, .int .i64 r7.1.Turn, .int .i64 r7.1.Idle, .sl o5 0 r7.1.Out.length]]⟩) (row := [.osl 53 3 (encL rMachine_oo r7.1.Harts), .sl o4 0 r7.1.Boxes.length, .int .i64 r7.1.Turn, .int .i64 r7.1.Idle, .sl o5 0 r7.1.Out.length]) (d := o4) (obd := ⟨86, 2, encL rBox_o r7.1.Boxes⟩) (r := 0) (i := 1) [(N0 + 19, some ⟨28, 5, [[.fsl (encL rMachine r4.1.Harts), .fsl (encL rBox r4.1.Boxes), .int .i64 r4.1.Turn, .int .i64 r4.1.Idle, .fsl (encL rI r4.1.Out)]]⟩), (o1, some ⟨3, 1, encL rI r5⟩), (o2, some ⟨46, 1, encL rL_Instr_o r6⟩), (o5, some ⟨3, 1, encL rI r7.1.Out⟩), (M2 + 6, some ⟨28, 5, [[.osl 53 3 (encL rMachine_oo r7.1.Harts), .osl 86 2 (encL rBox_o r7.1.Boxes), .int .i64 r7.1.Turn, .int .i64 r7.1.Idle, .sl o5 0 r7.1.Out.length]]⟩)] (by simp (disch := omega)) rfl rfl (by simp (disch := omega)) (by simp (disch := omega)) (by first | omega | simp) (by simp (disch := omega) [List.set_set, app_set] <;> omega) (by simp (disch := omega) [List.set_set, app_set]) ?_
   refine gPk AWP_ref (k := r7.1.Out.length) (o := (M2 + 6)) (ob := ⟨28, 5, [[.osl 53 3 (encL rMachine_oo r7.1.Harts), .osl 86 2 (encL rBox_o r7.1.Boxes), .int .i64 r7.1.Turn, .int .i64 r7.1.Idle, .sl o5 0 r7.1.Out.length]]⟩) (row := [.osl 53 3 (encL rMachine_oo r7.1.Harts), .osl 86 2 (encL rBox_o r7.1.Boxes), .int .i64 r7.1.Turn, .int .i64 r7.1.Idle, .sl o5 0 r7.1.Out.length]) (d := o5) (obd := ⟨3, 1, encL rI r7.1.Out⟩) (r := 0) (i := 4) [(N0 + 19, some ⟨28, 5, [[.fsl (encL rMachine r4.1.Harts), .fsl (encL rBox r4.1.Boxes), .int .i64 r4.1.Turn, .int .i64 r4.1.Idle, .fsl (encL rI r4.1.Out)]]⟩), (o1, some ⟨3, 1, encL rI r5⟩), (o2, some ⟨46, 1, encL rL_Instr_o r6⟩), (M2 + 6, some ⟨28, 5, [[.osl 53 3 (encL rMachine_oo r7.1.Harts), .osl 86 2 (encL rBox_o r7.1.Boxes), .int .i64 r7.1.Turn, .int .i64 r7.1.Idle, .osl 3 1 (encL rI r7.1.Out)]]⟩)] (by simp (disch := omega)) rfl rfl (by simp (disch := omega)) (by simp (disch := omega)) (by first | omega | simp) (by simp (disch := omega) [List.set_set, app_set] <;> omega) (by simp (disch := omega) [List.set_set, app_set]) ?_
   refine gUnp AWP_ref (ty := 53) (sz := 3) (es := encL rMachine_oo r7.1.Harts) (o := (M2 + 6)) (ob := ⟨28, 5, [[.osl 53 3 (encL rMachine_oo r7.1.Harts), .osl 86 2 (encL rBox_o r7.1.Boxes), .int .i64 r7.1.Turn, .int .i64 r7.1.Idle, .osl 3 1 (encL rI r7.1.Out)]]⟩) (row := [.osl 53 3 (encL rMachine_oo r7.1.Harts), .osl 86 2 (encL rBox_o r7.1.Boxes), .int .i64 r7.1.Turn, .int .i64 r7.1.Idle, .osl 3 1 (encL rI r7.1.Out)]) (r := 0) (i := 0) [(N0 + 19, some ⟨28, 5, [[.fsl (encL rMachine r4.1.Harts), .fsl (encL rBox r4.1.Boxes), .int .i64 r4.1.Turn, .int .i64 r4.1.Idle, .fsl (encL rI r4.1.Out)]]⟩), (o1, some ⟨3, 1, encL rI r5⟩), (o2, some ⟨46, 1, encL rL_Instr_o r6⟩), (M2 + 6, some ⟨28, 5, [[.sl M3 0 r7.1.Harts.length, .osl 86 2 (encL rBox_o r7.1.Boxes), .int .i64 r7.1.Turn, .int .i64 r7.1.Idle, .osl 3 1 (encL rI r7.1.Out)]]⟩), (M3, some ⟨53, 3, encL rMachine_oo r7.1.Harts⟩)] (by simp (disch := omega)) rfl rfl (by simp (disch := omega) [List.set_set]) ?_
   refine gUnp AWP_ref (ty := 86) (sz := 2) (es := encL rBox_o r7.1.Boxes) (o := (M2 + 6)) (ob := ⟨28, 5, [[.sl M3 0 r7.1.Harts.length, .osl 86 2 (encL rBox_o r7.1.Boxes), .int .i64 r7.1.Turn, .int .i64 r7.1.Idle, .osl 3 1 (encL rI r7.1.Out)]]⟩) (row := [.sl M3 0 r7.1.Harts.length, .osl 86 2 (encL rBox_o r7.1.Boxes), .int .i64 r7.1.Turn, .int .i64 r7.1.Idle, .osl 3 1 (encL rI r7.1.Out)]) (r := 0) (i := 1) [(N0 + 19, some ⟨28, 5, [[.fsl (encL rMachine r4.1.Harts), .fsl (encL rBox r4.1.Boxes), .int .i64 r4.1.Turn, .int .i64 r4.1.Idle, .fsl (encL rI r4.1.Out)]]⟩), (o1, some ⟨3, 1, encL rI r5⟩), (o2, some ⟨46, 1, encL rL_Instr_o r6⟩), (M2 + 6, some ⟨28, 5, [[.sl M3 0 r7.1.Harts.length, .sl (M3 + 1) 0 r7.1.Boxes.length, .int .i64 r7.1.Turn, .int .i64 r7.1.Idle, .osl 3 1 (encL rI r7.1.Out)]]⟩), (M3, some ⟨53, 3, encL rMachine_oo r7.1.Harts⟩), (M3 + 1, some ⟨86, 2, encL rBox_o r7.1.Boxes⟩)] (by simp (disch := omega)) rfl rfl (by simp (disch := omega) [List.set_set]) ?_
   refine gUnp AWP_ref (ty := 3) (sz := 1) (es := encL rI r7.1.Out) (o := (M2 + 6)) (ob := ⟨28, 5, [[.sl M3 0 r7.1.Harts.length, .sl (M3 + 1) 0 r7.1.Boxes.length, .int .i64 r7.1.Turn, .int .i64 r7.1.Idle, .osl 3 1 (encL rI r7.1.Out)]]⟩) (row := [.sl M3 0 r7.1.Harts.length, .sl (M3 + 1) 0 r7.1.Boxes.length, .int .i64 r7.1.Turn, .int .i64 r7.1.Idle, .osl 3 1 (encL rI r7.1.Out)]) (r := 0) (i := 4) [(N0 + 19, some ⟨28, 5, [[.fsl (encL rMachine r4.1.Harts), .fsl (encL rBox r4.1.Boxes), .int .i64 r4.1.Turn, .int .i64 r4.1.Idle, .fsl (encL rI r4.1.Out)]]⟩), (o1, some ⟨3, 1, encL rI r5⟩), (o2, some ⟨46, 1, encL rL_Instr_o r6⟩), (M2 + 6, some ⟨28, 5, [[.sl M3 0 r7.1.Harts.length, .sl (M3 + 1) 0 r7.1.Boxes.length, .int .i64 r7.1.Turn, .int .i64 r7.1.Idle, .sl (M3 + 2) 0 r7.1.Out.length]]⟩), (M3, some ⟨53, 3, encL rMachine_oo r7.1.Harts⟩), (M3 + 1, some ⟨86, 2, encL rBox_o r7.1.Boxes⟩), (M3 + 2, some ⟨3, 1, encL rI r7.1.Out⟩)] (by simp (disch := omega)) rfl rfl (by simp (disch := omega) [List.set_set]) ?_
   obtain ⟨r8, hr8, H⟩ := bindE H
   obtain ⟨g9, hg9, H⟩ := bindE H
   refine AWP_sr tok [] [0, 1, 6, 7, 8, 9, 10, 11, 51] (fun a σ => a = [(0, .fsl (encL rI p0)), (1, .fsl (encL rL_Instr p1)), (6, .ptr (N0 + 19) 0 0), (7, .bool r4.2), (8, .sl o1 0 r5.length), (9, .sl o2 0 r6.length), (10, .ptr (M2 + 6) 0 0), (11, .bool r7.2), (51, .bool g9)] ∧ σ = hp E0 [(N0 + 19, some ⟨28, 5, [[.fsl (encL rMachine r4.1.Harts), .fsl (encL rBox r4.1.Boxes), .int .i64 r4.1.Turn, .int .i64 r4.1.Idle, .fsl (encL rI r4.1.Out)]]⟩), (o1, some ⟨3, 1, encL rI r5⟩), (o2, some ⟨46, 1, encL rL_Instr_o r6⟩), (M2 + 6, some ⟨28, 5, [[.sl M3 0 r7.1.Harts.length, .sl (M3 + 1) 0 r7.1.Boxes.length, .int .i64 r7.1.Turn, .int .i64 r7.1.Idle, .sl (M3 + 2) 0 r7.1.Out.length]]⟩), (M3, some ⟨53, 3, encL rMachine_oo r7.1.Harts⟩), (M3 + 1, some ⟨86, 2, encL rBox_o r7.1.Boxes⟩), (M3 + 2, some ⟨3, 1, encL rI r7.1.Out⟩)] (M3 + 12)) (fun K hK => ?_) ?_
   ·
    have e0 := nq (a := N0 + 19) (b := o1) (by omega)
    have e1 := nq (a := N0 + 19) (b := o2) (by omega)
    have e2 := nq (a := N0 + 19) (b := M2 + 6) (by omega)
    have e3 := nq (a := N0 + 13) (b := M2) (by omega)
    have e4 := nq (a := N0 + 19) (b := M3) (by omega)
    have e5 := nq (a := N0 + 19) (b := M3 + 1) (by omega)
    have e6 := nq (a := N0 + 18) (b := M3) (by omega)
    have e7 := nq (a := N0 + 19) (b := M3 + 2) (by omega)
    have e8 := nq (a := N0 + 17) (b := M3) (by omega)
    have e9 := nq (a := o1) (b := o2) (by omega)
    have e10 := nq (a := o1) (b := M2 + 6) (by omega)
    have e11 := nq (a := o1) (b := M3) (by omega)
    have e12 := nq (a := o1) (b := M3 + 1) (by omega)
    have e13 := nq (a := o1) (b := M3 + 2) (by omega)
    have e14 := nq (a := o2) (b := M2 + 6) (by omega)
    have e15 := nq (a := o2) (b := M3) (by omega)
    have e16 := nq (a := o2) (b := M3 + 1) (by omega)
    have e17 := nq (a := o2) (b := M3 + 2) (by omega)
    have e18 := nq (a := M2 + 6) (b := M3) (by omega)
    have e19 := nq (a := M2 + 6) (b := M3 + 1) (by omega)
    have e20 := nq (a := M2 + 5) (b := M3) (by omega)
    have e21 := nq (a := M2 + 6) (b := M3 + 2) (by omega)
    have e22 := nq (a := M2 + 4) (b := M3) (by omega)
    simp -dsimp -implicitDefEqProofs (maxDischargeDepth := 6) [e0, e1, e2, e3, e4, e5, e6, e7, e8, e9, e10, e11, e12, e13, e14, e15, e16, e17, e18, e19, e20, e21, e22]
    refine (borrow 8 (c10 hr8) (by simp [e0, e1, e2, e3, e4, e5, e6, e7, e8, e9, e10, e11, e12, e13, e14, e15, e16, e17, e18, e19, e20, e21, e22]) rfl).mono ?_; rintro _ _ ⟨rfl, rfl⟩; try simp -dsimp -implicitDefEqProofs (maxDischargeDepth := 6) [e0, e1, e2, e3, e4, e5, e6, e7, e8, e9, e10, e11, e12, e13, e14, e15, e16, e17, e18, e19, e20, e21, e22]
    cases hbg9 : bnot r8
    ·
     replace hg9 := ifF hbg9 hg9
     replace hg9 := Option.some.inj hg9; subst hg9
     try simp -dsimp -implicitDefEqProofs (maxDischargeDepth := 6) [e0, e1, e2, e3, e4, e5, e6, e7, e8, e9, e10, e11, e12, e13, e14, e15, e16, e17, e18, e19, e20, e21, e22, hbg9]
     exact hK _ _ ⟨rfl, rfl⟩
    ·
     replace hg9 := ifT hbg9 hg9
     replace hg9 := Option.some.inj hg9; subst hg9
     try simp -dsimp -implicitDefEqProofs (maxDischargeDepth := 6) [e0, e1, e2, e3, e4, e5, e6, e7, e8, e9, e10, e11, e12, e13, e14, e15, e16, e17, e18, e19, e20, e21, e22, hbg9]
     exact hK _ _ ⟨rfl, rfl⟩
   rintro a σ ⟨rfl, rfl⟩
   refine AWP_cond g9 rfl (fun C3 => ?_) (fun C3 => ?_)
   ·
    replace H := ifT C3 H
    refine AWP_sr tok [] [4] (fun a σ => a = [(4, .bool false)] ∧ σ = hp E0 [(N0 + 19, some ⟨28, 5, [[.fsl (encL rMachine r4.1.Harts), .fsl (encL rBox r4.1.Boxes), .int .i64 r4.1.Turn, .int .i64 r4.1.Idle, .fsl (encL rI r4.1.Out)]]⟩), (o1, some ⟨3, 1, encL rI r5⟩), (o2, some ⟨46, 1, encL rL_Instr_o r6⟩), (M2 + 6, some ⟨28, 5, [[.sl M3 0 r7.1.Harts.length, .sl (M3 + 1) 0 r7.1.Boxes.length, .int .i64 r7.1.Turn, .int .i64 r7.1.Idle, .sl (M3 + 2) 0 r7.1.Out.length]]⟩), (M3, some ⟨53, 3, encL rMachine_oo r7.1.Harts⟩), (M3 + 1, some ⟨86, 2, encL rBox_o r7.1.Boxes⟩), (M3 + 2, some ⟨3, 1, encL rI r7.1.Out⟩)] (M3 + 13)) (fun K hK => ?_) ?_
    ·
     have e0 := nq (a := N0 + 19) (b := o1) (by omega)
     have e1 := nq (a := N0 + 19) (b := o2) (by omega)
     have e2 := nq (a := N0 + 19) (b := M2 + 6) (by omega)
     have e3 := nq (a := N0 + 13) (b := M2) (by omega)
     have e4 := nq (a := N0 + 19) (b := M3) (by omega)
     have e5 := nq (a := N0 + 19) (b := M3 + 1) (by omega)
     have e6 := nq (a := N0 + 18) (b := M3) (by omega)
     have e7 := nq (a := N0 + 19) (b := M3 + 2) (by omega)
     have e8 := nq (a := N0 + 17) (b := M3) (by omega)
     have e9 := nq (a := o1) (b := o2) (by omega)
     have e10 := nq (a := o1) (b := M2 + 6) (by omega)
     have e11 := nq (a := o1) (b := M3) (by omega)
     have e12 := nq (a := o1) (b := M3 + 1) (by omega)
     have e13 := nq (a := o1) (b := M3 + 2) (by omega)
     have e14 := nq (a := o2) (b := M2 + 6) (by omega)
     have e15 := nq (a := o2) (b := M3) (by omega)
     have e16 := nq (a := o2) (b := M3 + 1) (by omega)
     have e17 := nq (a := o2) (b := M3 + 2) (by omega)
     have e18 := nq (a := M2 + 6) (b := M3) (by omega)
     have e19 := nq (a := M2 + 6) (b := M3 + 1) (by omega)
     have e20 := nq (a := M2 + 5) (b := M3) (by omega)
     have e21 := nq (a := M2 + 6) (b := M3 + 2) (by omega)
     have e22 := nq (a := M2 + 4) (b := M3) (by omega)
     simp -dsimp -implicitDefEqProofs (maxDischargeDepth := 6) [e0, e1, e2, e3, e4, e5, e6, e7, e8, e9, e10, e11, e12, e13, e14, e15, e16, e17, e18, e19, e20, e21, e22]
     exact hK _ _ ⟨rfl, rfl⟩
    rintro a σ ⟨rfl, rfl⟩
    replace H := Option.some.inj H; subst H
    refine AWP_kp [4] [(4, .bool false)] rfl ?_
    have z0 := nq (a := N0 + 19) (b := o1) (by omega)
    have z1 := nq (a := N0 + 19) (b := o2) (by omega)
    have z2 := nq (a := N0 + 19) (b := M2 + 6) (by omega)
    have z3 := nq (a := N0 + 13) (b := M2) (by omega)
    have z4 := nq (a := N0 + 19) (b := M3) (by omega)
    have z5 := nq (a := N0 + 19) (b := M3 + 1) (by omega)
    have z6 := nq (a := N0 + 18) (b := M3) (by omega)
    have z7 := nq (a := N0 + 19) (b := M3 + 2) (by omega)
    have z8 := nq (a := N0 + 17) (b := M3) (by omega)
    have z9 := nq (a := o1) (b := o2) (by omega)
    have z10 := nq (a := o1) (b := M2 + 6) (by omega)
    have z11 := nq (a := o1) (b := M3) (by omega)
    have z12 := nq (a := o1) (b := M3 + 1) (by omega)
    have z13 := nq (a := o1) (b := M3 + 2) (by omega)
    have z14 := nq (a := o2) (b := M2 + 6) (by omega)
    have z15 := nq (a := o2) (b := M3) (by omega)
    have z16 := nq (a := o2) (b := M3 + 1) (by omega)
    have z17 := nq (a := o2) (b := M3 + 2) (by omega)
    have z18 := nq (a := M2 + 6) (b := M3) (by omega)
    have z19 := nq (a := M2 + 6) (b := M3 + 1) (by omega)
    have z20 := nq (a := M2 + 5) (b := M3) (by omega)
    have z21 := nq (a := M2 + 6) (b := M3 + 2) (by omega)
    have z22 := nq (a := M2 + 4) (b := M3) (by omega)
    refine AWP_ret ?_
    exact ⟨[.bool false], by simp [z0, z1, z2, z3, z4, z5, z6, z7, z8, z9, z10, z11, z12, z13, z14, z15, z16, z17, z18, z19, z20, z21, z22], 4, by simp [encL_nil, z0, z1, z2, z3, z4, z5, z6, z7, z8, z9, z10, z11, z12, z13, z14, z15, z16, z17, z18, z19, z20, z21, z22]⟩
   ·
    replace H := ifF C3 H
    refine AWP_skip ?_
    show K3 _ _
    refine keepE (l := [0, 1, 6, 7, 8, 9, 10, 11]) (x := [(0, .fsl (encL rI p0)), (1, .fsl (encL rL_Instr p1)), (6, .ptr (N0 + 19) 0 0), (7, .bool r4.2), (8, .sl o1 0 r5.length), (9, .sl o2 0 r6.length), (10, .ptr (M2 + 6) 0 0), (11, .bool r7.2)]) rfl fun a' ha => ?_
    refine hK3 _ _ ?_; rw [ha]
    refine Rc.mk ?_
    refine AWP_sq [0, 1, 6, 7, 8, 9, 10, 11] fun K4 hK4 => ?_
    refine gPk AWP_ref (k := r7.1.Harts.length) (o := (M2 + 6)) (ob := ⟨28, 5, [[.sl M3 0 r7.1.Harts.length, .sl (M3 + 1) 0 r7.1.Boxes.length, .int .i64 r7.1.Turn, .int .i64 r7.1.Idle, .sl (M3 + 2) 0 r7.1.Out.length]]⟩) (row := [.sl M3 0 r7.1.Harts.length, .sl (M3 + 1) 0 r7.1.Boxes.length, .int .i64 r7.1.Turn, .int .i64 r7.1.Idle, .sl (M3 + 2) 0 r7.1.Out.length]) (d := M3) (obd := ⟨53, 3, encL rMachine_oo r7.1.Harts⟩) (r := 0) (i := 0) [(N0 + 19, some ⟨28, 5, [[.fsl (encL rMachine r4.1.Harts), .fsl (encL rBox r4.1.Boxes), .int .i64 r4.1.Turn, .int .i64 r4.1.Idle, .fsl (encL rI r4.1.Out)]]⟩), (o1, some ⟨3, 1, encL rI r5⟩), (o2, some ⟨46, 1, encL rL_Instr_o r6⟩), (M2 + 6, some ⟨28, 5, [[.osl 53 3 (encL rMachine_oo r7.1.Harts), .sl (M3 + 1) 0 r7.1.Boxes.length, .int .i64 r7.1.Turn, .int .i64 r7.1.Idle, .sl (M3 + 2) 0 r7.1.Out.length]]⟩), (M3 + 1, some ⟨86, 2, encL rBox_o r7.1.Boxes⟩), (M3 + 2, some ⟨3, 1, encL rI r7.1.Out⟩)] (by simp (disch := omega)) rfl rfl (by simp (disch := omega)) (by simp (disch := omega)) (by first | omega | simp) (by simp (disch := omega) [List.set_set, app_set] <;> omega) (by simp (disch := omega) [List.set_set, app_set]) ?_
    refine gPk AWP_ref (k := r7.1.Boxes.length) (o := (M2 + 6)) (ob := ⟨28, 5, [[.osl 53 3 (encL rMachine_oo r7.1.Harts), .sl (M3 + 1) 0 r7.1.Boxes.length, .int .i64 r7.1.Turn, .int .i64 r7.1.Idle, .sl (M3 + 2) 0 r7.1.Out.length]]⟩) (row := [.osl 53 3 (encL rMachine_oo r7.1.Harts), .sl (M3 + 1) 0 r7.1.Boxes.length, .int .i64 r7.1.Turn, .int .i64 r7.1.Idle, .sl (M3 + 2) 0 r7.1.Out.length]) (d := (M3 + 1)) (obd := ⟨86, 2, encL rBox_o r7.1.Boxes⟩) (r := 0) (i := 1) [(N0 + 19, some ⟨28, 5, [[.fsl (encL rMachine r4.1.Harts), .fsl (encL rBox r4.1.Boxes), .int .i64 r4.1.Turn, .int .i64 r4.1.Idle, .fsl (encL rI r4.1.Out)]]⟩), (o1, some ⟨3, 1, encL rI r5⟩), (o2, some ⟨46, 1, encL rL_Instr_o r6⟩), (M2 + 6, some ⟨28, 5, [[.osl 53 3 (encL rMachine_oo r7.1.Harts), .osl 86 2 (encL rBox_o r7.1.Boxes), .int .i64 r7.1.Turn, .int .i64 r7.1.Idle, .sl (M3 + 2) 0 r7.1.Out.length]]⟩), (M3 + 2, some ⟨3, 1, encL rI r7.1.Out⟩)] (by simp (disch := omega)) rfl rfl (by simp (disch := omega)) (by simp (disch := omega)) (by first | omega | simp) (by simp (disch := omega) [List.set_set, app_set] <;> omega) (by simp (disch := omega) [List.set_set, app_set]) ?_
    refine gPk AWP_ref (k := r7.1.Out.length) (o := (M2 + 6)) (ob := ⟨28, 5, [[.osl 53 3 (encL rMachine_oo r7.1.Harts), .osl 86 2 (encL rBox_o r7.1.Boxes), .int .i64 r7.1.Turn, .int .i64 r7.1.Idle, .sl (M3 + 2) 0 r7.1.Out.length]]⟩) (row := [.osl 53 3 (encL rMachine_oo r7.1.Harts), .osl 86 2 (encL rBox_o r7.1.Boxes), .int .i64 r7.1.Turn, .int .i64 r7.1.Idle, .sl (M3 + 2) 0 r7.1.Out.length]) (d := (M3 + 2)) (obd := ⟨3, 1, encL rI r7.1.Out⟩) (r := 0) (i := 4) [(N0 + 19, some ⟨28, 5, [[.fsl (encL rMachine r4.1.Harts), .fsl (encL rBox r4.1.Boxes), .int .i64 r4.1.Turn, .int .i64 r4.1.Idle, .fsl (encL rI r4.1.Out)]]⟩), (o1, some ⟨3, 1, encL rI r5⟩), (o2, some ⟨46, 1, encL rL_Instr_o r6⟩), (M2 + 6, some ⟨28, 5, [[.osl 53 3 (encL rMachine_oo r7.1.Harts), .osl 86 2 (encL rBox_o r7.1.Boxes), .int .i64 r7.1.Turn, .int .i64 r7.1.Idle, .osl 3 1 (encL rI r7.1.Out)]]⟩)] (by simp (disch := omega)) rfl rfl (by simp (disch := omega)) (by simp (disch := omega)) (by first | omega | simp) (by simp (disch := omega) [List.set_set, app_set] <;> omega) (by simp (disch := omega) [List.set_set, app_set]) ?_
    obtain ⟨r10, hr10, H⟩ := bindE H
    refine AWP_sr tok [] [0, 1, 6, 7, 8, 9, 10, 11, 56] (fun a σ => a = [(0, .fsl (encL rI p0)), (1, .fsl (encL rL_Instr p1)), (6, .ptr (N0 + 19) 0 0), (7, .bool r4.2), (8, .sl o1 0 r5.length), (9, .sl o2 0 r6.length), (10, .ptr (M2 + 6) 0 0), (11, .bool r7.2), (56, .bool (bnot r10))] ∧ σ = hp E0 [(N0 + 19, some ⟨28, 5, [[.fsl (encL rMachine r4.1.Harts), .fsl (encL rBox r4.1.Boxes), .int .i64 r4.1.Turn, .int .i64 r4.1.Idle, .fsl (encL rI r4.1.Out)]]⟩), (o1, some ⟨3, 1, encL rI r5⟩), (o2, some ⟨46, 1, encL rL_Instr_o r6⟩), (M2 + 6, some ⟨28, 5, [[.osl 53 3 (encL rMachine_oo r7.1.Harts), .osl 86 2 (encL rBox_o r7.1.Boxes), .int .i64 r7.1.Turn, .int .i64 r7.1.Idle, .osl 3 1 (encL rI r7.1.Out)]]⟩)] (M3 + 17)) (fun K hK => ?_) ?_
    ·
     have e0 := nq (a := N0 + 19) (b := o1) (by omega)
     have e1 := nq (a := N0 + 19) (b := o2) (by omega)
     have e2 := nq (a := N0 + 19) (b := M2 + 6) (by omega)
     have e3 := nq (a := N0 + 13) (b := M2) (by omega)
     have e4 := nq (a := o1) (b := o2) (by omega)
     have e5 := nq (a := o1) (b := M2 + 6) (by omega)
     have e6 := nq (a := o2) (b := M2 + 6) (by omega)
     simp -dsimp -implicitDefEqProofs (maxDischargeDepth := 6) [e0, e1, e2, e3, e4, e5, e6]
     refine (c7 hr2).app ?_; try simp -dsimp -implicitDefEqProofs (maxDischargeDepth := 6) [e0, e1, e2, e3, e4, e5, e6]
     refine (borrow 8 (c11 hr10) (by simp [e0, e1, e2, e3, e4, e5, e6]) rfl).mono ?_; rintro _ _ ⟨rfl, rfl⟩; try simp -dsimp -implicitDefEqProofs (maxDischargeDepth := 6) [e0, e1, e2, e3, e4, e5, e6]
     exact hK _ _ ⟨rfl, rfl⟩
    rintro a σ ⟨rfl, rfl⟩
    refine AWP_cond (bnot r10) rfl (fun C4 => ?_) (fun C4 => ?_)
    ·
     replace H := ifT C4 H
     refine AWP_sr tok [] [4] (fun a σ => a = [(4, .bool false)] ∧ σ = hp E0 [(N0 + 19, some ⟨28, 5, [[.fsl (encL rMachine r4.1.Harts), .fsl (encL rBox r4.1.Boxes), .int .i64 r4.1.Turn, .int .i64 r4.1.Idle, .fsl (encL rI r4.1.Out)]]⟩), (o1, some ⟨3, 1, encL rI r5⟩), (o2, some ⟨46, 1, encL rL_Instr_o r6⟩), (M2 + 6, some ⟨28, 5, [[.osl 53 3 (encL rMachine_oo r7.1.Harts), .osl 86 2 (encL rBox_o r7.1.Boxes), .int .i64 r7.1.Turn, .int .i64 r7.1.Idle, .osl 3 1 (encL rI r7.1.Out)]]⟩)] (M3 + 18)) (fun K hK => ?_) ?_
     ·
      have e0 := nq (a := N0 + 19) (b := o1) (by omega)
      have e1 := nq (a := N0 + 19) (b := o2) (by omega)
      have e2 := nq (a := N0 + 19) (b := M2 + 6) (by omega)
      have e3 := nq (a := N0 + 13) (b := M2) (by omega)
      have e4 := nq (a := o1) (b := o2) (by omega)
      have e5 := nq (a := o1) (b := M2 + 6) (by omega)
      have e6 := nq (a := o2) (b := M2 + 6) (by omega)
      simp -dsimp -implicitDefEqProofs (maxDischargeDepth := 6) [e0, e1, e2, e3, e4, e5, e6]
      exact hK _ _ ⟨rfl, rfl⟩
     rintro a σ ⟨rfl, rfl⟩
     replace H := Option.some.inj H; subst H
     refine AWP_kp [4] [(4, .bool false)] rfl ?_
     have z23 := nq (a := N0 + 19) (b := o1) (by omega)
     have z24 := nq (a := N0 + 19) (b := o2) (by omega)
     have z25 := nq (a := N0 + 19) (b := M2 + 6) (by omega)
     have z26 := nq (a := N0 + 13) (b := M2) (by omega)
     have z27 := nq (a := o1) (b := o2) (by omega)
     have z28 := nq (a := o1) (b := M2 + 6) (by omega)
     have z29 := nq (a := o2) (b := M2 + 6) (by omega)
     refine AWP_ret ?_
     exact ⟨[.bool false], by simp [z23, z24, z25, z26, z27, z28, z29], 4, by simp [encL_nil, z23, z24, z25, z26, z27, z28, z29]⟩
    ·
     replace H := ifF C4 H
     refine AWP_skip ?_
     show K4 _ _
     refine keepE (l := [0, 1, 6, 7, 8, 9, 10, 11]) (x := [(0, .fsl (encL rI p0)), (1, .fsl (encL rL_Instr p1)), (6, .ptr (N0 + 19) 0 0), (7, .bool r4.2), (8, .sl o1 0 r5.length), (9, .sl o2 0 r6.length), (10, .ptr (M2 + 6) 0 0), (11, .bool r7.2)]) rfl fun a' ha => ?_
     refine hK4 _ _ ?_; rw [ha]
     refine Rc.mk ?_
     refine AWP_sq [0, 1, 6, 7, 8, 9, 10, 11] fun K5 hK5 => ?_
     obtain ⟨r11, hr11, H⟩ := bindE H
     refine AWP_sr tok [] [0, 1, 6, 7, 8, 9, 10, 11, 61] (fun a σ => a = [(0, .fsl (encL rI p0)), (1, .fsl (encL rL_Instr p1)), (6, .ptr (N0 + 19) 0 0), (7, .bool r4.2), (8, .sl o1 0 r5.length), (9, .sl o2 0 r6.length), (10, .ptr (M2 + 6) 0 0), (11, .bool r7.2), (61, .bool (bnot r11))] ∧ σ = hp E0 [(N0 + 19, some ⟨28, 5, [[.fsl (encL rMachine r4.1.Harts), .fsl (encL rBox r4.1.Boxes), .int .i64 r4.1.Turn, .int .i64 r4.1.Idle, .fsl (encL rI r4.1.Out)]]⟩), (o1, some ⟨3, 1, encL rI r5⟩), (o2, some ⟨46, 1, encL rL_Instr_o r6⟩), (M2 + 6, some ⟨28, 5, [[.osl 53 3 (encL rMachine_oo r7.1.Harts), .osl 86 2 (encL rBox_o r7.1.Boxes), .int .i64 r7.1.Turn, .int .i64 r7.1.Idle, .osl 3 1 (encL rI r7.1.Out)]]⟩)] (M3 + 22)) (fun K hK => ?_) ?_
     ·
      have e0 := nq (a := N0 + 19) (b := o1) (by omega)
      have e1 := nq (a := N0 + 19) (b := o2) (by omega)
      have e2 := nq (a := N0 + 19) (b := M2 + 6) (by omega)
      have e3 := nq (a := N0 + 13) (b := M2) (by omega)
      have e4 := nq (a := o1) (b := o2) (by omega)
      have e5 := nq (a := o1) (b := M2 + 6) (by omega)
      have e6 := nq (a := o2) (b := M2 + 6) (by omega)
      simp -dsimp -implicitDefEqProofs (maxDischargeDepth := 6) [e0, e1, e2, e3, e4, e5, e6]
      refine (c8 hr3).app ?_; try simp -dsimp -implicitDefEqProofs (maxDischargeDepth := 6) [e0, e1, e2, e3, e4, e5, e6]
      refine (borrow 8 (c12 hr11) (by simp [e0, e1, e2, e3, e4, e5, e6]) rfl).mono ?_; rintro _ _ ⟨rfl, rfl⟩; try simp -dsimp -implicitDefEqProofs (maxDischargeDepth := 6) [e0, e1, e2, e3, e4, e5, e6]
      exact hK _ _ ⟨rfl, rfl⟩
     rintro a σ ⟨rfl, rfl⟩
     refine AWP_cond (bnot r11) rfl (fun C5 => ?_) (fun C5 => ?_)
     ·
      replace H := ifT C5 H
      refine AWP_sr tok [] [4] (fun a σ => a = [(4, .bool false)] ∧ σ = hp E0 [(N0 + 19, some ⟨28, 5, [[.fsl (encL rMachine r4.1.Harts), .fsl (encL rBox r4.1.Boxes), .int .i64 r4.1.Turn, .int .i64 r4.1.Idle, .fsl (encL rI r4.1.Out)]]⟩), (o1, some ⟨3, 1, encL rI r5⟩), (o2, some ⟨46, 1, encL rL_Instr_o r6⟩), (M2 + 6, some ⟨28, 5, [[.osl 53 3 (encL rMachine_oo r7.1.Harts), .osl 86 2 (encL rBox_o r7.1.Boxes), .int .i64 r7.1.Turn, .int .i64 r7.1.Idle, .osl 3 1 (encL rI r7.1.Out)]]⟩)] (M3 + 23)) (fun K hK => ?_) ?_
      ·
       have e0 := nq (a := N0 + 19) (b := o1) (by omega)
       have e1 := nq (a := N0 + 19) (b := o2) (by omega)
       have e2 := nq (a := N0 + 19) (b := M2 + 6) (by omega)
       have e3 := nq (a := N0 + 13) (b := M2) (by omega)
       have e4 := nq (a := o1) (b := o2) (by omega)
       have e5 := nq (a := o1) (b := M2 + 6) (by omega)
       have e6 := nq (a := o2) (b := M2 + 6) (by omega)
       simp -dsimp -implicitDefEqProofs (maxDischargeDepth := 6) [e0, e1, e2, e3, e4, e5, e6]
       exact hK _ _ ⟨rfl, rfl⟩
      rintro a σ ⟨rfl, rfl⟩
      replace H := Option.some.inj H; subst H
      refine AWP_kp [4] [(4, .bool false)] rfl ?_
      have z30 := nq (a := N0 + 19) (b := o1) (by omega)
      have z31 := nq (a := N0 + 19) (b := o2) (by omega)
      have z32 := nq (a := N0 + 19) (b := M2 + 6) (by omega)
      have z33 := nq (a := N0 + 13) (b := M2) (by omega)
      have z34 := nq (a := o1) (b := o2) (by omega)
      have z35 := nq (a := o1) (b := M2 + 6) (by omega)
      have z36 := nq (a := o2) (b := M2 + 6) (by omega)
      refine AWP_ret ?_
      exact ⟨[.bool false], by simp [z30, z31, z32, z33, z34, z35, z36], 4, by simp [encL_nil, z30, z31, z32, z33, z34, z35, z36]⟩
     ·
      replace H := ifF C5 H
      refine AWP_skip ?_
      show K5 _ _
      refine keepE (l := [0, 1, 6, 7, 8, 9, 10, 11]) (x := [(0, .fsl (encL rI p0)), (1, .fsl (encL rL_Instr p1)), (6, .ptr (N0 + 19) 0 0), (7, .bool r4.2), (8, .sl o1 0 r5.length), (9, .sl o2 0 r6.length), (10, .ptr (M2 + 6) 0 0), (11, .bool r7.2)]) rfl fun a' ha => ?_
      refine hK5 _ _ ?_; rw [ha]
      refine Rc.mk ?_
      refine AWP_sr tok [] [0, 1, 6, 7, 8, 9, 10, 11, 12] (fun a σ => a = [(0, .fsl (encL rI p0)), (1, .fsl (encL rL_Instr p1)), (6, .ptr (N0 + 19) 0 0), (7, .bool r4.2), (8, .sl o1 0 r5.length), (9, .sl o2 0 r6.length), (10, .ptr (M2 + 6) 0 0), (11, .bool r7.2), (12, .int .i64 1)] ∧ σ = hp E0 [(N0 + 19, some ⟨28, 5, [[.fsl (encL rMachine r4.1.Harts), .fsl (encL rBox r4.1.Boxes), .int .i64 r4.1.Turn, .int .i64 r4.1.Idle, .fsl (encL rI r4.1.Out)]]⟩), (o1, some ⟨3, 1, encL rI r5⟩), (o2, some ⟨46, 1, encL rL_Instr_o r6⟩), (M2 + 6, some ⟨28, 5, [[.osl 53 3 (encL rMachine_oo r7.1.Harts), .osl 86 2 (encL rBox_o r7.1.Boxes), .int .i64 r7.1.Turn, .int .i64 r7.1.Idle, .osl 3 1 (encL rI r7.1.Out)]]⟩)] (M3 + 23)) (fun K hK => ?_) ?_
      ·
       have e0 := nq (a := N0 + 19) (b := o1) (by omega)
       have e1 := nq (a := N0 + 19) (b := o2) (by omega)
       have e2 := nq (a := N0 + 19) (b := M2 + 6) (by omega)
       have e3 := nq (a := N0 + 13) (b := M2) (by omega)
       have e4 := nq (a := o1) (b := o2) (by omega)
       have e5 := nq (a := o1) (b := M2 + 6) (by omega)
       have e6 := nq (a := o2) (b := M2 + 6) (by omega)
       simp -dsimp -implicitDefEqProofs (maxDischargeDepth := 6) [e0, e1, e2, e3, e4, e5, e6]
       exact hK _ _ ⟨rfl, rfl⟩
      rintro a σ ⟨rfl, rfl⟩
      obtain ⟨r12, hr12, H⟩ := bindE H
      refine AWP_sr tok [] [0, 1, 6, 7, 9, 10, 11, 12] (fun a σ => ∃ M4 : Nat, M3 + 27 ≤ M4 ∧ r12.2.length = r5.length ∧ a = [(0, .fsl (encL rI p0)), (1, .fsl (encL rL_Instr p1)), (6, .ptr (N0 + 19) 0 0), (7, .bool r4.2), (9, .sl o2 0 r6.length), (10, .ptr (M2 + 6) 0 0), (11, .bool r7.2), (12, .int .i64 r12.1)] ∧ σ = hp E0 [(N0 + 19, some ⟨28, 5, [[.fsl (encL rMachine r4.1.Harts), .fsl (encL rBox r4.1.Boxes), .int .i64 r4.1.Turn, .int .i64 r4.1.Idle, .fsl (encL rI r4.1.Out)]]⟩), (o1, some ⟨3, 1, encL rI r12.2⟩), (o2, some ⟨46, 1, encL rL_Instr_o r6⟩), (M2 + 6, some ⟨28, 5, [[.osl 53 3 (encL rMachine_oo r7.1.Harts), .osl 86 2 (encL rBox_o r7.1.Boxes), .int .i64 r7.1.Turn, .int .i64 r7.1.Idle, .osl 3 1 (encL rI r7.1.Out)]]⟩)] M4) (fun K hK => ?_) ?_
      ·
       have e0 := nq (a := N0 + 19) (b := o1) (by omega)
       have e1 := nq (a := N0 + 19) (b := o2) (by omega)
       have e2 := nq (a := N0 + 19) (b := M2 + 6) (by omega)
       have e3 := nq (a := N0 + 13) (b := M2) (by omega)
       have e4 := nq (a := o1) (b := o2) (by omega)
       have e5 := nq (a := o1) (b := M2 + 6) (by omega)
       have e6 := nq (a := o2) (b := M2 + 6) (by omega)
       simp -dsimp -implicitDefEqProofs (maxDischargeDepth := 6) [e0, e1, e2, e3, e4, e5, e6]
       refine (c13 (H := hr12) (by simp [e0, e1, e2, e3, e4, e5, e6])).mono ?_; rintro _ _ ⟨M4, fM4_0, fM4_1, rfl, rfl⟩; simp only [hp_next] at fM4_0
       try simp -dsimp -implicitDefEqProofs (maxDischargeDepth := 6) [e0, e1, e2, e3, e4, e5, e6, hp_over_some, hp_over_none]
       exact hK _ _ ⟨M4, (by omega), fM4_1, rfl, rfl⟩
      rintro a σ ⟨M4, fM4_0, fM4_1, rfl, rfl⟩
      try rw [← fM4_1]
      obtain ⟨r13, hr13, H⟩ := bindE H
      refine AWP_sr tok [] [0, 1, 6, 7, 10, 11, 12] (fun a σ => ∃ M5 : Nat, M4 + 4 ≤ M5 ∧ r13.2.length = r6.length ∧ a = [(0, .fsl (encL rI p0)), (1, .fsl (encL rL_Instr p1)), (6, .ptr (N0 + 19) 0 0), (7, .bool r4.2), (10, .ptr (M2 + 6) 0 0), (11, .bool r7.2), (12, .int .i64 r13.1)] ∧ σ = hp E0 [(N0 + 19, some ⟨28, 5, [[.fsl (encL rMachine r4.1.Harts), .fsl (encL rBox r4.1.Boxes), .int .i64 r4.1.Turn, .int .i64 r4.1.Idle, .fsl (encL rI r4.1.Out)]]⟩), (o1, some ⟨3, 1, encL rI r12.2⟩), (o2, some ⟨46, 1, encL rL_Instr_o r13.2⟩), (M2 + 6, some ⟨28, 5, [[.osl 53 3 (encL rMachine_oo r7.1.Harts), .osl 86 2 (encL rBox_o r7.1.Boxes), .int .i64 r7.1.Turn, .int .i64 r7.1.Idle, .osl 3 1 (encL rI r7.1.Out)]]⟩)] M5) (fun K hK => ?_) ?_
      ·
       have e0 := nq (a := N0 + 19) (b := o1) (by omega)
       have e1 := nq (a := N0 + 19) (b := o2) (by omega)
       have e2 := nq (a := N0 + 19) (b := M2 + 6) (by omega)
       have e3 := nq (a := N0 + 13) (b := M2) (by omega)
       have e4 := nq (a := o1) (b := o2) (by omega)
       have e5 := nq (a := o1) (b := M2 + 6) (by omega)
       have e6 := nq (a := o2) (b := M2 + 6) (by omega)
       simp -dsimp -implicitDefEqProofs (maxDischargeDepth := 6) [e0, e1, e2, e3, e4, e5, e6]
       refine (c14 (H := hr13) (by simp [e0, e1, e2, e3, e4, e5, e6])).mono ?_; rintro _ _ ⟨M5, fM5_0, fM5_1, rfl, rfl⟩; simp only [hp_next] at fM5_0
       try simp -dsimp -implicitDefEqProofs (maxDischargeDepth := 6) [e0, e1, e2, e3, e4, e5, e6, hp_over_some, hp_over_none]
       exact hK _ _ ⟨M5, (by omega), fM5_1, rfl, rfl⟩
      rintro a σ ⟨M5, fM5_0, fM5_1, rfl, rfl⟩
      try rw [← fM5_1]
      refine AWP_sq [0, 1, 6, 7, 10] fun K6 hK6 => ?_
      refine gUnp AWP_ref (ty := 53) (sz := 3) (es := encL rMachine_oo r7.1.Harts) (o := (M2 + 6)) (ob := ⟨28, 5, [[.osl 53 3 (encL rMachine_oo r7.1.Harts), .osl 86 2 (encL rBox_o r7.1.Boxes), .int .i64 r7.1.Turn, .int .i64 r7.1.Idle, .osl 3 1 (encL rI r7.1.Out)]]⟩) (row := [.osl 53 3 (encL rMachine_oo r7.1.Harts), .osl 86 2 (encL rBox_o r7.1.Boxes), .int .i64 r7.1.Turn, .int .i64 r7.1.Idle, .osl 3 1 (encL rI r7.1.Out)]) (r := 0) (i := 0) [(N0 + 19, some ⟨28, 5, [[.fsl (encL rMachine r4.1.Harts), .fsl (encL rBox r4.1.Boxes), .int .i64 r4.1.Turn, .int .i64 r4.1.Idle, .fsl (encL rI r4.1.Out)]]⟩), (o1, some ⟨3, 1, encL rI r12.2⟩), (o2, some ⟨46, 1, encL rL_Instr_o r13.2⟩), (M2 + 6, some ⟨28, 5, [[.sl M5 0 r7.1.Harts.length, .osl 86 2 (encL rBox_o r7.1.Boxes), .int .i64 r7.1.Turn, .int .i64 r7.1.Idle, .osl 3 1 (encL rI r7.1.Out)]]⟩), (M5, some ⟨53, 3, encL rMachine_oo r7.1.Harts⟩)] (by simp (disch := omega)) rfl rfl (by simp (disch := omega) [List.set_set]) ?_
      refine gUnp AWP_ref (ty := 86) (sz := 2) (es := encL rBox_o r7.1.Boxes) (o := (M2 + 6)) (ob := ⟨28, 5, [[.sl M5 0 r7.1.Harts.length, .osl 86 2 (encL rBox_o r7.1.Boxes), .int .i64 r7.1.Turn, .int .i64 r7.1.Idle, .osl 3 1 (encL rI r7.1.Out)]]⟩) (row := [.sl M5 0 r7.1.Harts.length, .osl 86 2 (encL rBox_o r7.1.Boxes), .int .i64 r7.1.Turn, .int .i64 r7.1.Idle, .osl 3 1 (encL rI r7.1.Out)]) (r := 0) (i := 1) [(N0 + 19, some ⟨28, 5, [[.fsl (encL rMachine r4.1.Harts), .fsl (encL rBox r4.1.Boxes), .int .i64 r4.1.Turn, .int .i64 r4.1.Idle, .fsl (encL rI r4.1.Out)]]⟩), (o1, some ⟨3, 1, encL rI r12.2⟩), (o2, some ⟨46, 1, encL rL_Instr_o r13.2⟩), (M2 + 6, some ⟨28, 5, [[.sl M5 0 r7.1.Harts.length, .sl (M5 + 1) 0 r7.1.Boxes.length, .int .i64 r7.1.Turn, .int .i64 r7.1.Idle, .osl 3 1 (encL rI r7.1.Out)]]⟩), (M5, some ⟨53, 3, encL rMachine_oo r7.1.Harts⟩), (M5 + 1, some ⟨86, 2, encL rBox_o r7.1.Boxes⟩)] (by simp (disch := omega)) rfl rfl (by simp (disch := omega) [List.set_set]) ?_
      refine gUnp AWP_ref (ty := 3) (sz := 1) (es := encL rI r7.1.Out) (o := (M2 + 6)) (ob := ⟨28, 5, [[.sl M5 0 r7.1.Harts.length, .sl (M5 + 1) 0 r7.1.Boxes.length, .int .i64 r7.1.Turn, .int .i64 r7.1.Idle, .osl 3 1 (encL rI r7.1.Out)]]⟩) (row := [.sl M5 0 r7.1.Harts.length, .sl (M5 + 1) 0 r7.1.Boxes.length, .int .i64 r7.1.Turn, .int .i64 r7.1.Idle, .osl 3 1 (encL rI r7.1.Out)]) (r := 0) (i := 4) [(N0 + 19, some ⟨28, 5, [[.fsl (encL rMachine r4.1.Harts), .fsl (encL rBox r4.1.Boxes), .int .i64 r4.1.Turn, .int .i64 r4.1.Idle, .fsl (encL rI r4.1.Out)]]⟩), (o1, some ⟨3, 1, encL rI r12.2⟩), (o2, some ⟨46, 1, encL rL_Instr_o r13.2⟩), (M2 + 6, some ⟨28, 5, [[.sl M5 0 r7.1.Harts.length, .sl (M5 + 1) 0 r7.1.Boxes.length, .int .i64 r7.1.Turn, .int .i64 r7.1.Idle, .sl (M5 + 2) 0 r7.1.Out.length]]⟩), (M5, some ⟨53, 3, encL rMachine_oo r7.1.Harts⟩), (M5 + 1, some ⟨86, 2, encL rBox_o r7.1.Boxes⟩), (M5 + 2, some ⟨3, 1, encL rI r7.1.Out⟩)] (by simp (disch := omega)) rfl rfl (by simp (disch := omega) [List.set_set]) ?_
      obtain ⟨g14, hg14, H⟩ := bindE H
      obtain ⟨g15, hg15, H⟩ := bindE H
      refine AWP_sr tok [] [0, 1, 6, 7, 10, 80] (fun a σ => a = [(0, .fsl (encL rI p0)), (1, .fsl (encL rL_Instr p1)), (6, .ptr (N0 + 19) 0 0), (7, .bool r4.2), (10, .ptr (M2 + 6) 0 0), (80, .bool g15)] ∧ σ = hp E0 [(N0 + 19, some ⟨28, 5, [[.fsl (encL rMachine r4.1.Harts), .fsl (encL rBox r4.1.Boxes), .int .i64 r4.1.Turn, .int .i64 r4.1.Idle, .fsl (encL rI r4.1.Out)]]⟩), (o1, some ⟨3, 1, encL rI r12.2⟩), (o2, some ⟨46, 1, encL rL_Instr_o r13.2⟩), (M2 + 6, some ⟨28, 5, [[.sl M5 0 r7.1.Harts.length, .sl (M5 + 1) 0 r7.1.Boxes.length, .int .i64 r7.1.Turn, .int .i64 r7.1.Idle, .sl (M5 + 2) 0 r7.1.Out.length]]⟩), (M5, some ⟨53, 3, encL rMachine_oo r7.1.Harts⟩), (M5 + 1, some ⟨86, 2, encL rBox_o r7.1.Boxes⟩), (M5 + 2, some ⟨3, 1, encL rI r7.1.Out⟩)] (M5 + 16)) (fun K hK => ?_) ?_
      ·
       have e0 := nq (a := N0 + 19) (b := o1) (by omega)
       have e1 := nq (a := N0 + 19) (b := o2) (by omega)
       have e2 := nq (a := N0 + 19) (b := M2 + 6) (by omega)
       have e3 := nq (a := N0 + 13) (b := M2) (by omega)
       have e4 := nq (a := N0 + 19) (b := M5) (by omega)
       have e5 := nq (a := N0 + 19) (b := M5 + 1) (by omega)
       have e6 := nq (a := N0 + 18) (b := M5) (by omega)
       have e7 := nq (a := N0 + 19) (b := M5 + 2) (by omega)
       have e8 := nq (a := N0 + 17) (b := M5) (by omega)
       have e9 := nq (a := o1) (b := o2) (by omega)
       have e10 := nq (a := o1) (b := M2 + 6) (by omega)
       have e11 := nq (a := o1) (b := M5) (by omega)
       have e12 := nq (a := o1) (b := M5 + 1) (by omega)
       have e13 := nq (a := o1) (b := M5 + 2) (by omega)
       have e14 := nq (a := o2) (b := M2 + 6) (by omega)
       have e15 := nq (a := o2) (b := M5) (by omega)
       have e16 := nq (a := o2) (b := M5 + 1) (by omega)
       have e17 := nq (a := o2) (b := M5 + 2) (by omega)
       have e18 := nq (a := M2 + 6) (b := M5) (by omega)
       have e19 := nq (a := M2 + 6) (b := M5 + 1) (by omega)
       have e20 := nq (a := M2 + 5) (b := M5) (by omega)
       have e21 := nq (a := M2 + 6) (b := M5 + 2) (by omega)
       have e22 := nq (a := M2 + 4) (b := M5) (by omega)
       simp -dsimp -implicitDefEqProofs (maxDischargeDepth := 6) [e0, e1, e2, e3, e4, e5, e6, e7, e8, e9, e10, e11, e12, e13, e14, e15, e16, e17, e18, e19, e20, e21, e22]
       cases hbg14 : ilt r13.1 0
       ·
        replace hg14 := ifF hbg14 hg14
        replace hg14 := Option.some.inj hg14; subst hg14
        try simp -dsimp -implicitDefEqProofs (maxDischargeDepth := 6) [e0, e1, e2, e3, e4, e5, e6, e7, e8, e9, e10, e11, e12, e13, e14, e15, e16, e17, e18, e19, e20, e21, e22, hbg14]
        refine (borrow 8 (c10 hr8) (by simp [e0, e1, e2, e3, e4, e5, e6, e7, e8, e9, e10, e11, e12, e13, e14, e15, e16, e17, e18, e19, e20, e21, e22, hbg14]) rfl).mono ?_; rintro _ _ ⟨rfl, rfl⟩; try simp -dsimp -implicitDefEqProofs (maxDischargeDepth := 6) [e0, e1, e2, e3, e4, e5, e6, e7, e8, e9, e10, e11, e12, e13, e14, e15, e16, e17, e18, e19, e20, e21, e22, hbg14]
        cases hbg15 : (bnot r8)
        ·
         replace hg15 := ifF hbg15 hg15
         replace hg15 := Option.some.inj hg15; subst hg15
         try simp -dsimp -implicitDefEqProofs (maxDischargeDepth := 6) [e0, e1, e2, e3, e4, e5, e6, e7, e8, e9, e10, e11, e12, e13, e14, e15, e16, e17, e18, e19, e20, e21, e22, hbg14, hbg15]
         exact hK _ _ ⟨rfl, rfl⟩
        ·
         replace hg15 := ifT hbg15 hg15
         replace hg15 := Option.some.inj hg15; subst hg15
         try simp -dsimp -implicitDefEqProofs (maxDischargeDepth := 6) [e0, e1, e2, e3, e4, e5, e6, e7, e8, e9, e10, e11, e12, e13, e14, e15, e16, e17, e18, e19, e20, e21, e22, hbg14, hbg15]
         exact hK _ _ ⟨rfl, rfl⟩
       ·
        replace hg14 := ifT hbg14 hg14
        replace hg14 := Option.some.inj hg14; subst hg14
        try simp -dsimp -implicitDefEqProofs (maxDischargeDepth := 6) [e0, e1, e2, e3, e4, e5, e6, e7, e8, e9, e10, e11, e12, e13, e14, e15, e16, e17, e18, e19, e20, e21, e22, hbg14]
        replace hg15 := ifT rfl hg15
        replace hg15 := Option.some.inj hg15; subst hg15
        try simp -dsimp -implicitDefEqProofs (maxDischargeDepth := 6) [e0, e1, e2, e3, e4, e5, e6, e7, e8, e9, e10, e11, e12, e13, e14, e15, e16, e17, e18, e19, e20, e21, e22, hbg14]
        exact hK _ _ ⟨rfl, rfl⟩
      rintro a σ ⟨rfl, rfl⟩
      refine AWP_cond g15 rfl (fun C6 => ?_) (fun C6 => ?_)
      ·
       replace H := ifT C6 H
       refine AWP_sr tok [] [4] (fun a σ => a = [(4, .bool false)] ∧ σ = hp E0 [(N0 + 19, some ⟨28, 5, [[.fsl (encL rMachine r4.1.Harts), .fsl (encL rBox r4.1.Boxes), .int .i64 r4.1.Turn, .int .i64 r4.1.Idle, .fsl (encL rI r4.1.Out)]]⟩), (o1, some ⟨3, 1, encL rI r12.2⟩), (o2, some ⟨46, 1, encL rL_Instr_o r13.2⟩), (M2 + 6, some ⟨28, 5, [[.sl M5 0 r7.1.Harts.length, .sl (M5 + 1) 0 r7.1.Boxes.length, .int .i64 r7.1.Turn, .int .i64 r7.1.Idle, .sl (M5 + 2) 0 r7.1.Out.length]]⟩), (M5, some ⟨53, 3, encL rMachine_oo r7.1.Harts⟩), (M5 + 1, some ⟨86, 2, encL rBox_o r7.1.Boxes⟩), (M5 + 2, some ⟨3, 1, encL rI r7.1.Out⟩)] (M5 + 17)) (fun K hK => ?_) ?_
       ·
        have e0 := nq (a := N0 + 19) (b := o1) (by omega)
        have e1 := nq (a := N0 + 19) (b := o2) (by omega)
        have e2 := nq (a := N0 + 19) (b := M2 + 6) (by omega)
        have e3 := nq (a := N0 + 13) (b := M2) (by omega)
        have e4 := nq (a := N0 + 19) (b := M5) (by omega)
        have e5 := nq (a := N0 + 19) (b := M5 + 1) (by omega)
        have e6 := nq (a := N0 + 18) (b := M5) (by omega)
        have e7 := nq (a := N0 + 19) (b := M5 + 2) (by omega)
        have e8 := nq (a := N0 + 17) (b := M5) (by omega)
        have e9 := nq (a := o1) (b := o2) (by omega)
        have e10 := nq (a := o1) (b := M2 + 6) (by omega)
        have e11 := nq (a := o1) (b := M5) (by omega)
        have e12 := nq (a := o1) (b := M5 + 1) (by omega)
        have e13 := nq (a := o1) (b := M5 + 2) (by omega)
        have e14 := nq (a := o2) (b := M2 + 6) (by omega)
        have e15 := nq (a := o2) (b := M5) (by omega)
        have e16 := nq (a := o2) (b := M5 + 1) (by omega)
        have e17 := nq (a := o2) (b := M5 + 2) (by omega)
        have e18 := nq (a := M2 + 6) (b := M5) (by omega)
        have e19 := nq (a := M2 + 6) (b := M5 + 1) (by omega)
        have e20 := nq (a := M2 + 5) (b := M5) (by omega)
        have e21 := nq (a := M2 + 6) (b := M5 + 2) (by omega)
        have e22 := nq (a := M2 + 4) (b := M5) (by omega)
        simp -dsimp -implicitDefEqProofs (maxDischargeDepth := 6) [e0, e1, e2, e3, e4, e5, e6, e7, e8, e9, e10, e11, e12, e13, e14, e15, e16, e17, e18, e19, e20, e21, e22]
        exact hK _ _ ⟨rfl, rfl⟩
       rintro a σ ⟨rfl, rfl⟩
       replace H := Option.some.inj H; subst H
       refine AWP_kp [4] [(4, .bool false)] rfl ?_
       have z37 := nq (a := N0 + 19) (b := o1) (by omega)
       have z38 := nq (a := N0 + 19) (b := o2) (by omega)
       have z39 := nq (a := N0 + 19) (b := M2 + 6) (by omega)
       have z40 := nq (a := N0 + 13) (b := M2) (by omega)
       have z41 := nq (a := N0 + 19) (b := M5) (by omega)
       have z42 := nq (a := N0 + 19) (b := M5 + 1) (by omega)
       have z43 := nq (a := N0 + 18) (b := M5) (by omega)
       have z44 := nq (a := N0 + 19) (b := M5 + 2) (by omega)
       have z45 := nq (a := N0 + 17) (b := M5) (by omega)
       have z46 := nq (a := o1) (b := o2) (by omega)
       have z47 := nq (a := o1) (b := M2 + 6) (by omega)
       have z48 := nq (a := o1) (b := M5) (by omega)
       have z49 := nq (a := o1) (b := M5 + 1) (by omega)
       have z50 := nq (a := o1) (b := M5 + 2) (by omega)
       have z51 := nq (a := o2) (b := M2 + 6) (by omega)
       have z52 := nq (a := o2) (b := M5) (by omega)
       have z53 := nq (a := o2) (b := M5 + 1) (by omega)
       have z54 := nq (a := o2) (b := M5 + 2) (by omega)
       have z55 := nq (a := M2 + 6) (b := M5) (by omega)
       have z56 := nq (a := M2 + 6) (b := M5 + 1) (by omega)
       have z57 := nq (a := M2 + 5) (b := M5) (by omega)
       have z58 := nq (a := M2 + 6) (b := M5 + 2) (by omega)
       have z59 := nq (a := M2 + 4) (b := M5) (by omega)
       refine AWP_ret ?_
       exact ⟨[.bool false], by simp [z37, z38, z39, z40, z41, z42, z43, z44, z45, z46, z47, z48, z49, z50, z51, z52, z53, z54, z55, z56, z57, z58, z59], 4, by simp [encL_nil, z37, z38, z39, z40, z41, z42, z43, z44, z45, z46, z47, z48, z49, z50, z51, z52, z53, z54, z55, z56, z57, z58, z59]⟩
      ·
       replace H := ifF C6 H
       refine AWP_skip ?_
       show K6 _ _
       refine keepE (l := [0, 1, 6, 7, 10]) (x := [(0, .fsl (encL rI p0)), (1, .fsl (encL rL_Instr p1)), (6, .ptr (N0 + 19) 0 0), (7, .bool r4.2), (10, .ptr (M2 + 6) 0 0)]) rfl fun a' ha => ?_
       refine hK6 _ _ ?_; rw [ha]
       refine Rc.mk ?_
       refine AWP_sr tok [] [0, 1, 6, 7, 10, 13] (fun a σ => a = [(0, .fsl (encL rI p0)), (1, .fsl (encL rL_Instr p1)), (6, .ptr (N0 + 19) 0 0), (7, .bool r4.2), (10, .ptr (M2 + 6) 0 0), (13, .int .i64 1)] ∧ σ = hp E0 [(N0 + 19, some ⟨28, 5, [[.fsl (encL rMachine r4.1.Harts), .fsl (encL rBox r4.1.Boxes), .int .i64 r4.1.Turn, .int .i64 r4.1.Idle, .fsl (encL rI r4.1.Out)]]⟩), (o1, some ⟨3, 1, encL rI r12.2⟩), (o2, some ⟨46, 1, encL rL_Instr_o r13.2⟩), (M2 + 6, some ⟨28, 5, [[.sl M5 0 r7.1.Harts.length, .sl (M5 + 1) 0 r7.1.Boxes.length, .int .i64 r7.1.Turn, .int .i64 r7.1.Idle, .sl (M5 + 2) 0 r7.1.Out.length]]⟩), (M5, some ⟨53, 3, encL rMachine_oo r7.1.Harts⟩), (M5 + 1, some ⟨86, 2, encL rBox_o r7.1.Boxes⟩), (M5 + 2, some ⟨3, 1, encL rI r7.1.Out⟩)] (M5 + 17)) (fun K hK => ?_) ?_
       ·
        have e0 := nq (a := N0 + 19) (b := o1) (by omega)
        have e1 := nq (a := N0 + 19) (b := o2) (by omega)
        have e2 := nq (a := N0 + 19) (b := M2 + 6) (by omega)
        have e3 := nq (a := N0 + 13) (b := M2) (by omega)
        have e4 := nq (a := N0 + 19) (b := M5) (by omega)
        have e5 := nq (a := N0 + 19) (b := M5 + 1) (by omega)
        have e6 := nq (a := N0 + 18) (b := M5) (by omega)
        have e7 := nq (a := N0 + 19) (b := M5 + 2) (by omega)
        have e8 := nq (a := N0 + 17) (b := M5) (by omega)
        have e9 := nq (a := o1) (b := o2) (by omega)
        have e10 := nq (a := o1) (b := M2 + 6) (by omega)
        have e11 := nq (a := o1) (b := M5) (by omega)
        have e12 := nq (a := o1) (b := M5 + 1) (by omega)
        have e13 := nq (a := o1) (b := M5 + 2) (by omega)
        have e14 := nq (a := o2) (b := M2 + 6) (by omega)
        have e15 := nq (a := o2) (b := M5) (by omega)
        have e16 := nq (a := o2) (b := M5 + 1) (by omega)
        have e17 := nq (a := o2) (b := M5 + 2) (by omega)
        have e18 := nq (a := M2 + 6) (b := M5) (by omega)
        have e19 := nq (a := M2 + 6) (b := M5 + 1) (by omega)
        have e20 := nq (a := M2 + 5) (b := M5) (by omega)
        have e21 := nq (a := M2 + 6) (b := M5 + 2) (by omega)
        have e22 := nq (a := M2 + 4) (b := M5) (by omega)
        simp -dsimp -implicitDefEqProofs (maxDischargeDepth := 6) [e0, e1, e2, e3, e4, e5, e6, e7, e8, e9, e10, e11, e12, e13, e14, e15, e16, e17, e18, e19, e20, e21, e22]
        exact hK _ _ ⟨rfl, rfl⟩
       rintro a σ ⟨rfl, rfl⟩
       refine gPk AWP_ref (k := r7.1.Harts.length) (o := (M2 + 6)) (ob := ⟨28, 5, [[.sl M5 0 r7.1.Harts.length, .sl (M5 + 1) 0 r7.1.Boxes.length, .int .i64 r7.1.Turn, .int .i64 r7.1.Idle, .sl (M5 + 2) 0 r7.1.Out.length]]⟩) (row := [.sl M5 0 r7.1.Harts.length, .sl (M5 + 1) 0 r7.1.Boxes.length, .int .i64 r7.1.Turn, .int .i64 r7.1.Idle, .sl (M5 + 2) 0 r7.1.Out.length]) (d := M5) (obd := ⟨53, 3, encL rMachine_oo r7.1.Harts⟩) (r := 0) (i := 0) [(N0 + 19, some ⟨28, 5, [[.fsl (encL rMachine r4.1.Harts), .fsl (encL rBox r4.1.Boxes), .int .i64 r4.1.Turn, .int .i64 r4.1.Idle, .fsl (encL rI r4.1.Out)]]⟩), (o1, some ⟨3, 1, encL rI r12.2⟩), (o2, some ⟨46, 1, encL rL_Instr_o r13.2⟩), (M2 + 6, some ⟨28, 5, [[.osl 53 3 (encL rMachine_oo r7.1.Harts), .sl (M5 + 1) 0 r7.1.Boxes.length, .int .i64 r7.1.Turn, .int .i64 r7.1.Idle, .sl (M5 + 2) 0 r7.1.Out.length]]⟩), (M5 + 1, some ⟨86, 2, encL rBox_o r7.1.Boxes⟩), (M5 + 2, some ⟨3, 1, encL rI r7.1.Out⟩)] (by simp (disch := omega)) rfl rfl (by simp (disch := omega)) (by simp (disch := omega)) (by first | omega | simp) (by simp (disch := omega) [List.set_set, app_set] <;> omega) (by simp (disch := omega) [List.set_set, app_set]) ?_
       refine gPk AWP_ref (k := r7.1.Boxes.length) (o := (M2 + 6)) (ob := ⟨28, 5, [[.osl 53 3 (encL rMachine_oo r7.1.Harts), .sl (M5 + 1) 0 r7.1.Boxes.length, .int .i64 r7.1.Turn, .int .i64 r7.1.Idle, .sl (M5 + 2) 0 r7.1.Out.length]]⟩) (row := [.osl 53 3 (encL rMachine_oo r7.1.Harts), .sl (M5 + 1) 0 r7.1.Boxes.length, .int .i64 r7.1.Turn, .int .i64 r7.1.Idle, .sl (M5 + 2) 0 r7.1.Out.length]) (d := (M5 + 1)) (obd := ⟨86, 2, encL rBox_o r7.1.Boxes⟩) (r := 0) (i := 1) [(N0 + 19, some ⟨28, 5, [[.fsl (encL rMachine r4.1.Harts), .fsl (encL rBox r4.1.Boxes), .int .i64 r4.1.Turn, .int .i64 r4.1.Idle, .fsl (encL rI r4.1.Out)]]⟩), (o1, some ⟨3, 1, encL rI r12.2⟩), (o2, some ⟨46, 1, encL rL_Instr_o r13.2⟩), (M2 + 6, some ⟨28, 5, [[.osl 53 3 (encL rMachine_oo r7.1.Harts), .osl 86 2 (encL rBox_o r7.1.Boxes), .int .i64 r7.1.Turn, .int .i64 r7.1.Idle, .sl (M5 + 2) 0 r7.1.Out.length]]⟩), (M5 + 2, some ⟨3, 1, encL rI r7.1.Out⟩)] (by simp (disch := omega)) rfl rfl (by simp (disch := omega)) (by simp (disch := omega)) (by first | omega | simp) (by simp (disch := omega) [List.set_set, app_set] <;> omega) (by simp (disch := omega) [List.set_set, app_set]) ?_
       refine gPk AWP_ref (k := r7.1.Out.length) (o := (M2 + 6)) (ob := ⟨28, 5, [[.osl 53 3 (encL rMachine_oo r7.1.Harts), .osl 86 2 (encL rBox_o r7.1.Boxes), .int .i64 r7.1.Turn, .int .i64 r7.1.Idle, .sl (M5 + 2) 0 r7.1.Out.length]]⟩) (row := [.osl 53 3 (encL rMachine_oo r7.1.Harts), .osl 86 2 (encL rBox_o r7.1.Boxes), .int .i64 r7.1.Turn, .int .i64 r7.1.Idle, .sl (M5 + 2) 0 r7.1.Out.length]) (d := (M5 + 2)) (obd := ⟨3, 1, encL rI r7.1.Out⟩) (r := 0) (i := 4) [(N0 + 19, some ⟨28, 5, [[.fsl (encL rMachine r4.1.Harts), .fsl (encL rBox r4.1.Boxes), .int .i64 r4.1.Turn, .int .i64 r4.1.Idle, .fsl (encL rI r4.1.Out)]]⟩), (o1, some ⟨3, 1, encL rI r12.2⟩), (o2, some ⟨46, 1, encL rL_Instr_o r13.2⟩), (M2 + 6, some ⟨28, 5, [[.osl 53 3 (encL rMachine_oo r7.1.Harts), .osl 86 2 (encL rBox_o r7.1.Boxes), .int .i64 r7.1.Turn, .int .i64 r7.1.Idle, .osl 3 1 (encL rI r7.1.Out)]]⟩)] (by simp (disch := omega)) rfl rfl (by simp (disch := omega)) (by simp (disch := omega)) (by first | omega | simp) (by simp (disch := omega) [List.set_set, app_set] <;> omega) (by simp (disch := omega) [List.set_set, app_set]) ?_
       refine gUnp AWP_ref (ty := 53) (sz := 3) (es := encL rMachine_oo r7.1.Harts) (o := (M2 + 6)) (ob := ⟨28, 5, [[.osl 53 3 (encL rMachine_oo r7.1.Harts), .osl 86 2 (encL rBox_o r7.1.Boxes), .int .i64 r7.1.Turn, .int .i64 r7.1.Idle, .osl 3 1 (encL rI r7.1.Out)]]⟩) (row := [.osl 53 3 (encL rMachine_oo r7.1.Harts), .osl 86 2 (encL rBox_o r7.1.Boxes), .int .i64 r7.1.Turn, .int .i64 r7.1.Idle, .osl 3 1 (encL rI r7.1.Out)]) (r := 0) (i := 0) [(N0 + 19, some ⟨28, 5, [[.fsl (encL rMachine r4.1.Harts), .fsl (encL rBox r4.1.Boxes), .int .i64 r4.1.Turn, .int .i64 r4.1.Idle, .fsl (encL rI r4.1.Out)]]⟩), (o1, some ⟨3, 1, encL rI r12.2⟩), (o2, some ⟨46, 1, encL rL_Instr_o r13.2⟩), (M2 + 6, some ⟨28, 5, [[.sl (M5 + 17) 0 r7.1.Harts.length, .osl 86 2 (encL rBox_o r7.1.Boxes), .int .i64 r7.1.Turn, .int .i64 r7.1.Idle, .osl 3 1 (encL rI r7.1.Out)]]⟩), (M5 + 17, some ⟨53, 3, encL rMachine_oo r7.1.Harts⟩)] (by simp (disch := omega)) rfl rfl (by simp (disch := omega) [List.set_set]) ?_
       refine gUnp AWP_ref (ty := 86) (sz := 2) (es := encL rBox_o r7.1.Boxes) (o := (M2 + 6)) (ob := ⟨28, 5, [[.sl (M5 + 17) 0 r7.1.Harts.length, .osl 86 2 (encL rBox_o r7.1.Boxes), .int .i64 r7.1.Turn, .int .i64 r7.1.Idle, .osl 3 1 (encL rI r7.1.Out)]]⟩) (row := [.sl (M5 + 17) 0 r7.1.Harts.length, .osl 86 2 (encL rBox_o r7.1.Boxes), .int .i64 r7.1.Turn, .int .i64 r7.1.Idle, .osl 3 1 (encL rI r7.1.Out)]) (r := 0) (i := 1) [(N0 + 19, some ⟨28, 5, [[.fsl (encL rMachine r4.1.Harts), .fsl (encL rBox r4.1.Boxes), .int .i64 r4.1.Turn, .int .i64 r4.1.Idle, .fsl (encL rI r4.1.Out)]]⟩), (o1, some ⟨3, 1, encL rI r12.2⟩), (o2, some ⟨46, 1, encL rL_Instr_o r13.2⟩), (M2 + 6, some ⟨28, 5, [[.sl (M5 + 17) 0 r7.1.Harts.length, .sl (M5 + 18) 0 r7.1.Boxes.length, .int .i64 r7.1.Turn, .int .i64 r7.1.Idle, .osl 3 1 (encL rI r7.1.Out)]]⟩), (M5 + 17, some ⟨53, 3, encL rMachine_oo r7.1.Harts⟩), (M5 + 18, some ⟨86, 2, encL rBox_o r7.1.Boxes⟩)] (by simp (disch := omega)) rfl rfl (by simp (disch := omega) [List.set_set]) ?_
       refine gUnp AWP_ref (ty := 3) (sz := 1) (es := encL rI r7.1.Out) (o := (M2 + 6)) (ob := ⟨28, 5, [[.sl (M5 + 17) 0 r7.1.Harts.length, .sl (M5 + 18) 0 r7.1.Boxes.length, .int .i64 r7.1.Turn, .int .i64 r7.1.Idle, .osl 3 1 (encL rI r7.1.Out)]]⟩) (row := [.sl (M5 + 17) 0 r7.1.Harts.length, .sl (M5 + 18) 0 r7.1.Boxes.length, .int .i64 r7.1.Turn, .int .i64 r7.1.Idle, .osl 3 1 (encL rI r7.1.Out)]) (r := 0) (i := 4) [(N0 + 19, some ⟨28, 5, [[.fsl (encL rMachine r4.1.Harts), .fsl (encL rBox r4.1.Boxes), .int .i64 r4.1.Turn, .int .i64 r4.1.Idle, .fsl (encL rI r4.1.Out)]]⟩), (o1, some ⟨3, 1, encL rI r12.2⟩), (o2, some ⟨46, 1, encL rL_Instr_o r13.2⟩), (M2 + 6, some ⟨28, 5, [[.sl (M5 + 17) 0 r7.1.Harts.length, .sl (M5 + 18) 0 r7.1.Boxes.length, .int .i64 r7.1.Turn, .int .i64 r7.1.Idle, .sl (M5 + 19) 0 r7.1.Out.length]]⟩), (M5 + 17, some ⟨53, 3, encL rMachine_oo r7.1.Harts⟩), (M5 + 18, some ⟨86, 2, encL rBox_o r7.1.Boxes⟩), (M5 + 19, some ⟨3, 1, encL rI r7.1.Out⟩)] (by simp (disch := omega)) rfl rfl (by simp (disch := omega) [List.set_set]) ?_
       obtain ⟨r16, hr16, H⟩ := bindE H
       refine AWP_sr tok [] [0, 1, 6, 7, 10, 13] (fun a σ => ∃ M6 : Nat, M5 + 24 ≤ M6 ∧ r16.2.Harts.length = r7.1.Harts.length ∧ r16.2.Boxes.length = r7.1.Boxes.length ∧ r16.2.Out.length = r7.1.Out.length ∧ a = [(0, .fsl (encL rI p0)), (1, .fsl (encL rL_Instr p1)), (6, .ptr (N0 + 19) 0 0), (7, .bool r4.2), (10, .ptr (M2 + 6) 0 0), (13, .int .i64 r16.1)] ∧ σ = hp E0 [(N0 + 19, some ⟨28, 5, [[.fsl (encL rMachine r4.1.Harts), .fsl (encL rBox r4.1.Boxes), .int .i64 r4.1.Turn, .int .i64 r4.1.Idle, .fsl (encL rI r4.1.Out)]]⟩), (o1, some ⟨3, 1, encL rI r12.2⟩), (o2, some ⟨46, 1, encL rL_Instr_o r13.2⟩), (M2 + 6, some ⟨28, 5, [[.sl (M5 + 17) 0 r7.1.Harts.length, .sl (M5 + 18) 0 r7.1.Boxes.length, .int .i64 r7.1.Turn, .int .i64 r7.1.Idle, .sl (M5 + 19) 0 r7.1.Out.length]]⟩), (M5 + 17, some ⟨53, 3, encL rMachine_oo r16.2.Harts⟩), (M5 + 18, some ⟨86, 2, encL rBox_o r16.2.Boxes⟩), (M5 + 19, some ⟨3, 1, encL rI r16.2.Out⟩)] M6) (fun K hK => ?_) ?_
       ·
        have e0 := nq (a := N0 + 19) (b := o1) (by omega)
        have e1 := nq (a := N0 + 19) (b := o2) (by omega)
        have e2 := nq (a := N0 + 19) (b := M2 + 6) (by omega)
        have e3 := nq (a := N0 + 13) (b := M2) (by omega)
        have e4 := nq (a := N0 + 19) (b := M5 + 17) (by omega)
        have e5 := nq (a := N0 + 2) (b := M5) (by omega)
        have e6 := nq (a := N0 + 19) (b := M5 + 18) (by omega)
        have e7 := nq (a := N0 + 1) (b := M5) (by omega)
        have e8 := nq (a := N0 + 19) (b := M5 + 19) (by omega)
        have e9 := nq (a := N0) (b := M5) (by omega)
        have e10 := nq (a := o1) (b := o2) (by omega)
        have e11 := nq (a := o1) (b := M2 + 6) (by omega)
        have e12 := nq (a := o1) (b := M5 + 17) (by omega)
        have e13 := nq (a := o1) (b := M5 + 18) (by omega)
        have e14 := nq (a := o1) (b := M5 + 19) (by omega)
        have e15 := nq (a := o2) (b := M2 + 6) (by omega)
        have e16 := nq (a := o2) (b := M5 + 17) (by omega)
        have e17 := nq (a := o2) (b := M5 + 18) (by omega)
        have e18 := nq (a := o2) (b := M5 + 19) (by omega)
        have e19 := nq (a := M2 + 6) (b := M5 + 17) (by omega)
        have e20 := nq (a := M2) (b := M5 + 11) (by omega)
        have e21 := nq (a := M2 + 6) (b := M5 + 18) (by omega)
        have e22 := nq (a := M2) (b := M5 + 12) (by omega)
        have e23 := nq (a := M2 + 6) (b := M5 + 19) (by omega)
        have e24 := nq (a := M2) (b := M5 + 13) (by omega)
        simp -dsimp -implicitDefEqProofs (maxDischargeDepth := 6) [e0, e1, e2, e3, e4, e5, e6, e7, e8, e9, e10, e11, e12, e13, e14, e15, e16, e17, e18, e19, e20, e21, e22, e23, e24]
        refine (c15 (H := hr16) (by simp [e0, e1, e2, e3, e4, e5, e6, e7, e8, e9, e10, e11, e12, e13, e14, e15, e16, e17, e18, e19, e20, e21, e22, e23, e24]) (by simp [e0, e1, e2, e3, e4, e5, e6, e7, e8, e9, e10, e11, e12, e13, e14, e15, e16, e17, e18, e19, e20, e21, e22, e23, e24]) (by simp [e0, e1, e2, e3, e4, e5, e6, e7, e8, e9, e10, e11, e12, e13, e14, e15, e16, e17, e18, e19, e20, e21, e22, e23, e24]) (by simp [e0, e1, e2, e3, e4, e5, e6, e7, e8, e9, e10, e11, e12, e13, e14, e15, e16, e17, e18, e19, e20, e21, e22, e23, e24]) (by simp [e0, e1, e2, e3, e4, e5, e6, e7, e8, e9, e10, e11, e12, e13, e14, e15, e16, e17, e18, e19, e20, e21, e22, e23, e24]) (by simp [e0, e1, e2, e3, e4, e5, e6, e7, e8, e9, e10, e11, e12, e13, e14, e15, e16, e17, e18, e19, e20, e21, e22, e23, e24])).mono ?_; rintro _ _ ⟨M6, fM6_0, fM6_1, fM6_2, fM6_3, rfl, rfl⟩; simp only [hp_next] at fM6_0
        try simp -dsimp -implicitDefEqProofs (maxDischargeDepth := 6) [e0, e1, e2, e3, e4, e5, e6, e7, e8, e9, e10, e11, e12, e13, e14, e15, e16, e17, e18, e19, e20, e21, e22, e23, e24, hp_over_some, hp_over_none]
        exact hK _ _ ⟨M6, (by omega), fM6_1, fM6_2, fM6_3, rfl, rfl⟩
       rintro a σ ⟨M6, fM6_0, fM6_1, fM6_2, fM6_3, rfl, rfl⟩
       try rw [← fM6_1]
       try rw [← fM6_2]
       try rw [← fM6_3]
       refine AWP_sr tok [] [0, 1, 6, 7, 10, 13, 14] (fun a σ => a = [(0, .fsl (encL rI p0)), (1, .fsl (encL rL_Instr p1)), (6, .ptr (N0 + 19) 0 0), (7, .bool r4.2), (10, .ptr (M2 + 6) 0 0), (13, .int .i64 r16.1), (14, .int .i64 1)] ∧ σ = hp E0 [(N0 + 19, some ⟨28, 5, [[.fsl (encL rMachine r4.1.Harts), .fsl (encL rBox r4.1.Boxes), .int .i64 r4.1.Turn, .int .i64 r4.1.Idle, .fsl (encL rI r4.1.Out)]]⟩), (o1, some ⟨3, 1, encL rI r12.2⟩), (o2, some ⟨46, 1, encL rL_Instr_o r13.2⟩), (M2 + 6, some ⟨28, 5, [[.sl (M5 + 17) 0 r16.2.Harts.length, .sl (M5 + 18) 0 r16.2.Boxes.length, .int .i64 r7.1.Turn, .int .i64 r7.1.Idle, .sl (M5 + 19) 0 r16.2.Out.length]]⟩), (M5 + 17, some ⟨53, 3, encL rMachine_oo r16.2.Harts⟩), (M5 + 18, some ⟨86, 2, encL rBox_o r16.2.Boxes⟩), (M5 + 19, some ⟨3, 1, encL rI r16.2.Out⟩)] (M6 + 1)) (fun K hK => ?_) ?_
       ·
        have e0 := nq (a := N0 + 19) (b := o1) (by omega)
        have e1 := nq (a := N0 + 19) (b := o2) (by omega)
        have e2 := nq (a := N0 + 19) (b := M2 + 6) (by omega)
        have e3 := nq (a := N0 + 13) (b := M2) (by omega)
        have e4 := nq (a := N0 + 19) (b := M5 + 17) (by omega)
        have e5 := nq (a := N0 + 2) (b := M5) (by omega)
        have e6 := nq (a := N0 + 19) (b := M5 + 18) (by omega)
        have e7 := nq (a := N0 + 1) (b := M5) (by omega)
        have e8 := nq (a := N0 + 19) (b := M5 + 19) (by omega)
        have e9 := nq (a := N0) (b := M5) (by omega)
        have e10 := nq (a := o1) (b := o2) (by omega)
        have e11 := nq (a := o1) (b := M2 + 6) (by omega)
        have e12 := nq (a := o1) (b := M5 + 17) (by omega)
        have e13 := nq (a := o1) (b := M5 + 18) (by omega)
        have e14 := nq (a := o1) (b := M5 + 19) (by omega)
        have e15 := nq (a := o2) (b := M2 + 6) (by omega)
        have e16 := nq (a := o2) (b := M5 + 17) (by omega)
        have e17 := nq (a := o2) (b := M5 + 18) (by omega)
        have e18 := nq (a := o2) (b := M5 + 19) (by omega)
        have e19 := nq (a := M2 + 6) (b := M5 + 17) (by omega)
        have e20 := nq (a := M2) (b := M5 + 11) (by omega)
        have e21 := nq (a := M2 + 6) (b := M5 + 18) (by omega)
        have e22 := nq (a := M2) (b := M5 + 12) (by omega)
        have e23 := nq (a := M2 + 6) (b := M5 + 19) (by omega)
        have e24 := nq (a := M2) (b := M5 + 13) (by omega)
        simp -dsimp -implicitDefEqProofs (maxDischargeDepth := 6) [e0, e1, e2, e3, e4, e5, e6, e7, e8, e9, e10, e11, e12, e13, e14, e15, e16, e17, e18, e19, e20, e21, e22, e23, e24]
        exact hK _ _ ⟨rfl, rfl⟩
       rintro a σ ⟨rfl, rfl⟩
       refine gPk AWP_ref (k := r16.2.Harts.length) (o := (M2 + 6)) (ob := ⟨28, 5, [[.sl (M5 + 17) 0 r16.2.Harts.length, .sl (M5 + 18) 0 r16.2.Boxes.length, .int .i64 r7.1.Turn, .int .i64 r7.1.Idle, .sl (M5 + 19) 0 r16.2.Out.length]]⟩) (row := [.sl (M5 + 17) 0 r16.2.Harts.length, .sl (M5 + 18) 0 r16.2.Boxes.length, .int .i64 r7.1.Turn, .int .i64 r7.1.Idle, .sl (M5 + 19) 0 r16.2.Out.length]) (d := (M5 + 17)) (obd := ⟨53, 3, encL rMachine_oo r16.2.Harts⟩) (r := 0) (i := 0) [(N0 + 19, some ⟨28, 5, [[.fsl (encL rMachine r4.1.Harts), .fsl (encL rBox r4.1.Boxes), .int .i64 r4.1.Turn, .int .i64 r4.1.Idle, .fsl (encL rI r4.1.Out)]]⟩), (o1, some ⟨3, 1, encL rI r12.2⟩), (o2, some ⟨46, 1, encL rL_Instr_o r13.2⟩), (M2 + 6, some ⟨28, 5, [[.osl 53 3 (encL rMachine_oo r16.2.Harts), .sl (M5 + 18) 0 r16.2.Boxes.length, .int .i64 r7.1.Turn, .int .i64 r7.1.Idle, .sl (M5 + 19) 0 r16.2.Out.length]]⟩), (M5 + 18, some ⟨86, 2, encL rBox_o r16.2.Boxes⟩), (M5 + 19, some ⟨3, 1, encL rI r16.2.Out⟩)] (by simp (disch := omega)) rfl rfl (by simp (disch := omega)) (by simp (disch := omega)) (by first | omega | simp) (by simp (disch := omega) [List.set_set, app_set] <;> omega) (by simp (disch := omega) [List.set_set, app_set]) ?_
       refine gPk AWP_ref (k := r16.2.Boxes.length) (o := (M2 + 6)) (ob := ⟨28, 5, [[.osl 53 3 (encL rMachine_oo r16.2.Harts), .sl (M5 + 18) 0 r16.2.Boxes.length, .int .i64 r7.1.Turn, .int .i64 r7.1.Idle, .sl (M5 + 19) 0 r16.2.Out.length]]⟩) (row := [.osl 53 3 (encL rMachine_oo r16.2.Harts), .sl (M5 + 18) 0 r16.2.Boxes.length, .int .i64 r7.1.Turn, .int .i64 r7.1.Idle, .sl (M5 + 19) 0 r16.2.Out.length]) (d := (M5 + 18)) (obd := ⟨86, 2, encL rBox_o r16.2.Boxes⟩) (r := 0) (i := 1) [(N0 + 19, some ⟨28, 5, [[.fsl (encL rMachine r4.1.Harts), .fsl (encL rBox r4.1.Boxes), .int .i64 r4.1.Turn, .int .i64 r4.1.Idle, .fsl (encL rI r4.1.Out)]]⟩), (o1, some ⟨3, 1, encL rI r12.2⟩), (o2, some ⟨46, 1, encL rL_Instr_o r13.2⟩), (M2 + 6, some ⟨28, 5, [[.osl 53 3 (encL rMachine_oo r16.2.Harts), .osl 86 2 (encL rBox_o r16.2.Boxes), .int .i64 r7.1.Turn, .int .i64 r7.1.Idle, .sl (M5 + 19) 0 r16.2.Out.length]]⟩), (M5 + 19, some ⟨3, 1, encL rI r16.2.Out⟩)] (by simp (disch := omega)) rfl rfl (by simp (disch := omega)) (by simp (disch := omega)) (by first | omega | simp) (by simp (disch := omega) [List.set_set, app_set] <;> omega) (by simp (disch := omega) [List.set_set, app_set]) ?_
       refine gPk AWP_ref (k := r16.2.Out.length) (o := (M2 + 6)) (ob := ⟨28, 5, [[.osl 53 3 (encL rMachine_oo r16.2.Harts), .osl 86 2 (encL rBox_o r16.2.Boxes), .int .i64 r7.1.Turn, .int .i64 r7.1.Idle, .sl (M5 + 19) 0 r16.2.Out.length]]⟩) (row := [.osl 53 3 (encL rMachine_oo r16.2.Harts), .osl 86 2 (encL rBox_o r16.2.Boxes), .int .i64 r7.1.Turn, .int .i64 r7.1.Idle, .sl (M5 + 19) 0 r16.2.Out.length]) (d := (M5 + 19)) (obd := ⟨3, 1, encL rI r16.2.Out⟩) (r := 0) (i := 4) [(N0 + 19, some ⟨28, 5, [[.fsl (encL rMachine r4.1.Harts), .fsl (encL rBox r4.1.Boxes), .int .i64 r4.1.Turn, .int .i64 r4.1.Idle, .fsl (encL rI r4.1.Out)]]⟩), (o1, some ⟨3, 1, encL rI r12.2⟩), (o2, some ⟨46, 1, encL rL_Instr_o r13.2⟩), (M2 + 6, some ⟨28, 5, [[.osl 53 3 (encL rMachine_oo r16.2.Harts), .osl 86 2 (encL rBox_o r16.2.Boxes), .int .i64 r7.1.Turn, .int .i64 r7.1.Idle, .osl 3 1 (encL rI r16.2.Out)]]⟩)] (by simp (disch := omega)) rfl rfl (by simp (disch := omega)) (by simp (disch := omega)) (by first | omega | simp) (by simp (disch := omega) [List.set_set, app_set] <;> omega) (by simp (disch := omega) [List.set_set, app_set]) ?_
       refine gUnp AWP_ref (ty := 53) (sz := 3) (es := encL rMachine_oo r16.2.Harts) (o := (M2 + 6)) (ob := ⟨28, 5, [[.osl 53 3 (encL rMachine_oo r16.2.Harts), .osl 86 2 (encL rBox_o r16.2.Boxes), .int .i64 r7.1.Turn, .int .i64 r7.1.Idle, .osl 3 1 (encL rI r16.2.Out)]]⟩) (row := [.osl 53 3 (encL rMachine_oo r16.2.Harts), .osl 86 2 (encL rBox_o r16.2.Boxes), .int .i64 r7.1.Turn, .int .i64 r7.1.Idle, .osl 3 1 (encL rI r16.2.Out)]) (r := 0) (i := 0) [(N0 + 19, some ⟨28, 5, [[.fsl (encL rMachine r4.1.Harts), .fsl (encL rBox r4.1.Boxes), .int .i64 r4.1.Turn, .int .i64 r4.1.Idle, .fsl (encL rI r4.1.Out)]]⟩), (o1, some ⟨3, 1, encL rI r12.2⟩), (o2, some ⟨46, 1, encL rL_Instr_o r13.2⟩), (M2 + 6, some ⟨28, 5, [[.sl (M6 + 1) 0 r16.2.Harts.length, .osl 86 2 (encL rBox_o r16.2.Boxes), .int .i64 r7.1.Turn, .int .i64 r7.1.Idle, .osl 3 1 (encL rI r16.2.Out)]]⟩), (M6 + 1, some ⟨53, 3, encL rMachine_oo r16.2.Harts⟩)] (by simp (disch := omega)) rfl rfl (by simp (disch := omega) [List.set_set]) ?_
       refine gUnp AWP_ref (ty := 86) (sz := 2) (es := encL rBox_o r16.2.Boxes) (o := (M2 + 6)) (ob := ⟨28, 5, [[.sl (M6 + 1) 0 r16.2.Harts.length, .osl 86 2 (encL rBox_o r16.2.Boxes), .int .i64 r7.1.Turn, .int .i64 r7.1.Idle, .osl 3 1 (encL rI r16.2.Out)]]⟩) (row := [.sl (M6 + 1) 0 r16.2.Harts.length, .osl 86 2 (encL rBox_o r16.2.Boxes), .int .i64 r7.1.Turn, .int .i64 r7.1.Idle, .osl 3 1 (encL rI r16.2.Out)]) (r := 0) (i := 1) [(N0 + 19, some ⟨28, 5, [[.fsl (encL rMachine r4.1.Harts), .fsl (encL rBox r4.1.Boxes), .int .i64 r4.1.Turn, .int .i64 r4.1.Idle, .fsl (encL rI r4.1.Out)]]⟩), (o1, some ⟨3, 1, encL rI r12.2⟩), (o2, some ⟨46, 1, encL rL_Instr_o r13.2⟩), (M2 + 6, some ⟨28, 5, [[.sl (M6 + 1) 0 r16.2.Harts.length, .sl (M6 + 2) 0 r16.2.Boxes.length, .int .i64 r7.1.Turn, .int .i64 r7.1.Idle, .osl 3 1 (encL rI r16.2.Out)]]⟩), (M6 + 1, some ⟨53, 3, encL rMachine_oo r16.2.Harts⟩), (M6 + 2, some ⟨86, 2, encL rBox_o r16.2.Boxes⟩)] (by simp (disch := omega)) rfl rfl (by simp (disch := omega) [List.set_set]) ?_
       refine gUnp AWP_ref (ty := 3) (sz := 1) (es := encL rI r16.2.Out) (o := (M2 + 6)) (ob := ⟨28, 5, [[.sl (M6 + 1) 0 r16.2.Harts.length, .sl (M6 + 2) 0 r16.2.Boxes.length, .int .i64 r7.1.Turn, .int .i64 r7.1.Idle, .osl 3 1 (encL rI r16.2.Out)]]⟩) (row := [.sl (M6 + 1) 0 r16.2.Harts.length, .sl (M6 + 2) 0 r16.2.Boxes.length, .int .i64 r7.1.Turn, .int .i64 r7.1.Idle, .osl 3 1 (encL rI r16.2.Out)]) (r := 0) (i := 4) [(N0 + 19, some ⟨28, 5, [[.fsl (encL rMachine r4.1.Harts), .fsl (encL rBox r4.1.Boxes), .int .i64 r4.1.Turn, .int .i64 r4.1.Idle, .fsl (encL rI r4.1.Out)]]⟩), (o1, some ⟨3, 1, encL rI r12.2⟩), (o2, some ⟨46, 1, encL rL_Instr_o r13.2⟩), (M2 + 6, some ⟨28, 5, [[.sl (M6 + 1) 0 r16.2.Harts.length, .sl (M6 + 2) 0 r16.2.Boxes.length, .int .i64 r7.1.Turn, .int .i64 r7.1.Idle, .sl (M6 + 3) 0 r16.2.Out.length]]⟩), (M6 + 1, some ⟨53, 3, encL rMachine_oo r16.2.Harts⟩), (M6 + 2, some ⟨86, 2, encL rBox_o r16.2.Boxes⟩), (M6 + 3, some ⟨3, 1, encL rI r16.2.Out⟩)] (by simp (disch := omega)) rfl rfl (by simp (disch := omega) [List.set_set]) ?_
       obtain ⟨r17, hr17, H⟩ := bindE H
       refine AWP_sr tok [] [0, 1, 6, 7, 10, 13, 14] (fun a σ => a = [(0, .fsl (encL rI p0)), (1, .fsl (encL rL_Instr p1)), (6, .ptr (N0 + 19) 0 0), (7, .bool r4.2), (10, .ptr (M2 + 6) 0 0), (13, .int .i64 r16.1), (14, .int .i64 r17)] ∧ σ = hp E0 [(N0 + 19, some ⟨28, 5, [[.fsl (encL rMachine r4.1.Harts), .fsl (encL rBox r4.1.Boxes), .int .i64 r4.1.Turn, .int .i64 r4.1.Idle, .fsl (encL rI r4.1.Out)]]⟩), (o1, some ⟨3, 1, encL rI r12.2⟩), (o2, some ⟨46, 1, encL rL_Instr_o r13.2⟩), (M2 + 6, some ⟨28, 5, [[.sl (M6 + 1) 0 r16.2.Harts.length, .sl (M6 + 2) 0 r16.2.Boxes.length, .int .i64 r7.1.Turn, .int .i64 r7.1.Idle, .sl (M6 + 3) 0 r16.2.Out.length]]⟩), (M6 + 1, some ⟨53, 3, encL rMachine_oo r16.2.Harts⟩), (M6 + 2, some ⟨86, 2, encL rBox_o r16.2.Boxes⟩), (M6 + 3, some ⟨3, 1, encL rI r16.2.Out⟩)] (M6 + 8)) (fun K hK => ?_) ?_
       ·
        have e0 := nq (a := N0 + 19) (b := o1) (by omega)
        have e1 := nq (a := N0 + 19) (b := o2) (by omega)
        have e2 := nq (a := N0 + 19) (b := M2 + 6) (by omega)
        have e3 := nq (a := N0 + 13) (b := M2) (by omega)
        have e4 := nq (a := N0 + 19) (b := M6 + 1) (by omega)
        have e5 := nq (a := N0 + 18) (b := M6) (by omega)
        have e6 := nq (a := N0 + 19) (b := M6 + 2) (by omega)
        have e7 := nq (a := N0 + 17) (b := M6) (by omega)
        have e8 := nq (a := N0 + 19) (b := M6 + 3) (by omega)
        have e9 := nq (a := N0 + 16) (b := M6) (by omega)
        have e10 := nq (a := o1) (b := o2) (by omega)
        have e11 := nq (a := o1) (b := M2 + 6) (by omega)
        have e12 := nq (a := o1) (b := M6 + 1) (by omega)
        have e13 := nq (a := o1) (b := M6 + 2) (by omega)
        have e14 := nq (a := o1) (b := M6 + 3) (by omega)
        have e15 := nq (a := o2) (b := M2 + 6) (by omega)
        have e16 := nq (a := o2) (b := M6 + 1) (by omega)
        have e17 := nq (a := o2) (b := M6 + 2) (by omega)
        have e18 := nq (a := o2) (b := M6 + 3) (by omega)
        have e19 := nq (a := M2 + 6) (b := M6 + 1) (by omega)
        have e20 := nq (a := M2 + 5) (b := M6) (by omega)
        have e21 := nq (a := M2 + 6) (b := M6 + 2) (by omega)
        have e22 := nq (a := M2 + 4) (b := M6) (by omega)
        have e23 := nq (a := M2 + 6) (b := M6 + 3) (by omega)
        have e24 := nq (a := M2 + 3) (b := M6) (by omega)
        simp -dsimp -implicitDefEqProofs (maxDischargeDepth := 6) [e0, e1, e2, e3, e4, e5, e6, e7, e8, e9, e10, e11, e12, e13, e14, e15, e16, e17, e18, e19, e20, e21, e22, e23, e24]
        refine (borrow 8 (c16 hr17) (by simp [e0, e1, e2, e3, e4, e5, e6, e7, e8, e9, e10, e11, e12, e13, e14, e15, e16, e17, e18, e19, e20, e21, e22, e23, e24]) rfl).mono ?_; rintro _ _ ⟨rfl, rfl⟩; try simp -dsimp -implicitDefEqProofs (maxDischargeDepth := 6) [e0, e1, e2, e3, e4, e5, e6, e7, e8, e9, e10, e11, e12, e13, e14, e15, e16, e17, e18, e19, e20, e21, e22, e23, e24]
        exact hK _ _ ⟨rfl, rfl⟩
       rintro a σ ⟨rfl, rfl⟩
       refine AWP_sq [0, 1, 6, 7, 10, 13, 14] fun K7 hK7 => ?_
       refine AWP_sr tok [] [0, 1, 6, 7, 10, 13, 14, 88] (fun a σ => a = [(0, .fsl (encL rI p0)), (1, .fsl (encL rL_Instr p1)), (6, .ptr (N0 + 19) 0 0), (7, .bool r4.2), (10, .ptr (M2 + 6) 0 0), (13, .int .i64 r16.1), (14, .int .i64 r17), (88, .bool (ilt r17 0))] ∧ σ = hp E0 [(N0 + 19, some ⟨28, 5, [[.fsl (encL rMachine r4.1.Harts), .fsl (encL rBox r4.1.Boxes), .int .i64 r4.1.Turn, .int .i64 r4.1.Idle, .fsl (encL rI r4.1.Out)]]⟩), (o1, some ⟨3, 1, encL rI r12.2⟩), (o2, some ⟨46, 1, encL rL_Instr_o r13.2⟩), (M2 + 6, some ⟨28, 5, [[.sl (M6 + 1) 0 r16.2.Harts.length, .sl (M6 + 2) 0 r16.2.Boxes.length, .int .i64 r7.1.Turn, .int .i64 r7.1.Idle, .sl (M6 + 3) 0 r16.2.Out.length]]⟩), (M6 + 1, some ⟨53, 3, encL rMachine_oo r16.2.Harts⟩), (M6 + 2, some ⟨86, 2, encL rBox_o r16.2.Boxes⟩), (M6 + 3, some ⟨3, 1, encL rI r16.2.Out⟩)] (M6 + 10)) (fun K hK => ?_) ?_
       ·
        have e0 := nq (a := N0 + 19) (b := o1) (by omega)
        have e1 := nq (a := N0 + 19) (b := o2) (by omega)
        have e2 := nq (a := N0 + 19) (b := M2 + 6) (by omega)
        have e3 := nq (a := N0 + 13) (b := M2) (by omega)
        have e4 := nq (a := N0 + 19) (b := M6 + 1) (by omega)
        have e5 := nq (a := N0 + 18) (b := M6) (by omega)
        have e6 := nq (a := N0 + 19) (b := M6 + 2) (by omega)
        have e7 := nq (a := N0 + 17) (b := M6) (by omega)
        have e8 := nq (a := N0 + 19) (b := M6 + 3) (by omega)
        have e9 := nq (a := N0 + 16) (b := M6) (by omega)
        have e10 := nq (a := o1) (b := o2) (by omega)
        have e11 := nq (a := o1) (b := M2 + 6) (by omega)
        have e12 := nq (a := o1) (b := M6 + 1) (by omega)
        have e13 := nq (a := o1) (b := M6 + 2) (by omega)
        have e14 := nq (a := o1) (b := M6 + 3) (by omega)
        have e15 := nq (a := o2) (b := M2 + 6) (by omega)
        have e16 := nq (a := o2) (b := M6 + 1) (by omega)
        have e17 := nq (a := o2) (b := M6 + 2) (by omega)
        have e18 := nq (a := o2) (b := M6 + 3) (by omega)
        have e19 := nq (a := M2 + 6) (b := M6 + 1) (by omega)
        have e20 := nq (a := M2 + 5) (b := M6) (by omega)
        have e21 := nq (a := M2 + 6) (b := M6 + 2) (by omega)
        have e22 := nq (a := M2 + 4) (b := M6) (by omega)
        have e23 := nq (a := M2 + 6) (b := M6 + 3) (by omega)
        have e24 := nq (a := M2 + 3) (b := M6) (by omega)
        simp -dsimp -implicitDefEqProofs (maxDischargeDepth := 6) [e0, e1, e2, e3, e4, e5, e6, e7, e8, e9, e10, e11, e12, e13, e14, e15, e16, e17, e18, e19, e20, e21, e22, e23, e24]
        exact hK _ _ ⟨rfl, rfl⟩
       rintro a σ ⟨rfl, rfl⟩
       refine AWP_cond (ilt r17 0) rfl (fun C7 => ?_) (fun C7 => ?_)
       ·
        replace H := ifT C7 H
        refine AWP_sr tok [] [4] (fun a σ => a = [(4, .bool false)] ∧ σ = hp E0 [(N0 + 19, some ⟨28, 5, [[.fsl (encL rMachine r4.1.Harts), .fsl (encL rBox r4.1.Boxes), .int .i64 r4.1.Turn, .int .i64 r4.1.Idle, .fsl (encL rI r4.1.Out)]]⟩), (o1, some ⟨3, 1, encL rI r12.2⟩), (o2, some ⟨46, 1, encL rL_Instr_o r13.2⟩), (M2 + 6, some ⟨28, 5, [[.sl (M6 + 1) 0 r16.2.Harts.length, .sl (M6 + 2) 0 r16.2.Boxes.length, .int .i64 r7.1.Turn, .int .i64 r7.1.Idle, .sl (M6 + 3) 0 r16.2.Out.length]]⟩), (M6 + 1, some ⟨53, 3, encL rMachine_oo r16.2.Harts⟩), (M6 + 2, some ⟨86, 2, encL rBox_o r16.2.Boxes⟩), (M6 + 3, some ⟨3, 1, encL rI r16.2.Out⟩)] (M6 + 11)) (fun K hK => ?_) ?_
        ·
         have e0 := nq (a := N0 + 19) (b := o1) (by omega)
         have e1 := nq (a := N0 + 19) (b := o2) (by omega)
         have e2 := nq (a := N0 + 19) (b := M2 + 6) (by omega)
         have e3 := nq (a := N0 + 13) (b := M2) (by omega)
         have e4 := nq (a := N0 + 19) (b := M6 + 1) (by omega)
         have e5 := nq (a := N0 + 18) (b := M6) (by omega)
         have e6 := nq (a := N0 + 19) (b := M6 + 2) (by omega)
         have e7 := nq (a := N0 + 17) (b := M6) (by omega)
         have e8 := nq (a := N0 + 19) (b := M6 + 3) (by omega)
         have e9 := nq (a := N0 + 16) (b := M6) (by omega)
         have e10 := nq (a := o1) (b := o2) (by omega)
         have e11 := nq (a := o1) (b := M2 + 6) (by omega)
         have e12 := nq (a := o1) (b := M6 + 1) (by omega)
         have e13 := nq (a := o1) (b := M6 + 2) (by omega)
         have e14 := nq (a := o1) (b := M6 + 3) (by omega)
         have e15 := nq (a := o2) (b := M2 + 6) (by omega)
         have e16 := nq (a := o2) (b := M6 + 1) (by omega)
         have e17 := nq (a := o2) (b := M6 + 2) (by omega)
         have e18 := nq (a := o2) (b := M6 + 3) (by omega)
         have e19 := nq (a := M2 + 6) (b := M6 + 1) (by omega)
         have e20 := nq (a := M2 + 5) (b := M6) (by omega)
         have e21 := nq (a := M2 + 6) (b := M6 + 2) (by omega)
         have e22 := nq (a := M2 + 4) (b := M6) (by omega)
         have e23 := nq (a := M2 + 6) (b := M6 + 3) (by omega)
         have e24 := nq (a := M2 + 3) (b := M6) (by omega)
         simp -dsimp -implicitDefEqProofs (maxDischargeDepth := 6) [e0, e1, e2, e3, e4, e5, e6, e7, e8, e9, e10, e11, e12, e13, e14, e15, e16, e17, e18, e19, e20, e21, e22, e23, e24]
         exact hK _ _ ⟨rfl, rfl⟩
        rintro a σ ⟨rfl, rfl⟩
        replace H := Option.some.inj H; subst H
        refine AWP_kp [4] [(4, .bool false)] rfl ?_
        have z60 := nq (a := N0 + 19) (b := o1) (by omega)
        have z61 := nq (a := N0 + 19) (b := o2) (by omega)
        have z62 := nq (a := N0 + 19) (b := M2 + 6) (by omega)
        have z63 := nq (a := N0 + 13) (b := M2) (by omega)
        have z64 := nq (a := N0 + 19) (b := M6 + 1) (by omega)
        have z65 := nq (a := N0 + 18) (b := M6) (by omega)
        have z66 := nq (a := N0 + 19) (b := M6 + 2) (by omega)
        have z67 := nq (a := N0 + 17) (b := M6) (by omega)
        have z68 := nq (a := N0 + 19) (b := M6 + 3) (by omega)
        have z69 := nq (a := N0 + 16) (b := M6) (by omega)
        have z70 := nq (a := o1) (b := o2) (by omega)
        have z71 := nq (a := o1) (b := M2 + 6) (by omega)
        have z72 := nq (a := o1) (b := M6 + 1) (by omega)
        have z73 := nq (a := o1) (b := M6 + 2) (by omega)
        have z74 := nq (a := o1) (b := M6 + 3) (by omega)
        have z75 := nq (a := o2) (b := M2 + 6) (by omega)
        have z76 := nq (a := o2) (b := M6 + 1) (by omega)
        have z77 := nq (a := o2) (b := M6 + 2) (by omega)
        have z78 := nq (a := o2) (b := M6 + 3) (by omega)
        have z79 := nq (a := M2 + 6) (b := M6 + 1) (by omega)
        have z80 := nq (a := M2 + 5) (b := M6) (by omega)
        have z81 := nq (a := M2 + 6) (b := M6 + 2) (by omega)
        have z82 := nq (a := M2 + 4) (b := M6) (by omega)
        have z83 := nq (a := M2 + 6) (b := M6 + 3) (by omega)
        have z84 := nq (a := M2 + 3) (b := M6) (by omega)
        refine AWP_ret ?_
        exact ⟨[.bool false], by simp [z60, z61, z62, z63, z64, z65, z66, z67, z68, z69, z70, z71, z72, z73, z74, z75, z76, z77, z78, z79, z80, z81, z82, z83, z84], 4, by simp [encL_nil, z60, z61, z62, z63, z64, z65, z66, z67, z68, z69, z70, z71, z72, z73, z74, z75, z76, z77, z78, z79, z80, z81, z82, z83, z84]⟩
       ·
        replace H := ifF C7 H
        refine AWP_skip ?_
        show K7 _ _
        refine keepE (l := [0, 1, 6, 7, 10, 13, 14]) (x := [(0, .fsl (encL rI p0)), (1, .fsl (encL rL_Instr p1)), (6, .ptr (N0 + 19) 0 0), (7, .bool r4.2), (10, .ptr (M2 + 6) 0 0), (13, .int .i64 r16.1), (14, .int .i64 r17)]) rfl fun a' ha => ?_
        refine hK7 _ _ ?_; rw [ha]
        refine Rc.mk ?_
        refine AWP_sq [0, 1, 6, 7, 10, 13] fun K8 hK8 => ?_
        refine AWP_sr tok [] [0, 1, 6, 7, 10, 13, 91] (fun a σ => a = [(0, .fsl (encL rI p0)), (1, .fsl (encL rL_Instr p1)), (6, .ptr (N0 + 19) 0 0), (7, .bool r4.2), (10, .ptr (M2 + 6) 0 0), (13, .int .i64 r16.1), (91, .bool (ine r17 r16.1))] ∧ σ = hp E0 [(N0 + 19, some ⟨28, 5, [[.fsl (encL rMachine r4.1.Harts), .fsl (encL rBox r4.1.Boxes), .int .i64 r4.1.Turn, .int .i64 r4.1.Idle, .fsl (encL rI r4.1.Out)]]⟩), (o1, some ⟨3, 1, encL rI r12.2⟩), (o2, some ⟨46, 1, encL rL_Instr_o r13.2⟩), (M2 + 6, some ⟨28, 5, [[.sl (M6 + 1) 0 r16.2.Harts.length, .sl (M6 + 2) 0 r16.2.Boxes.length, .int .i64 r7.1.Turn, .int .i64 r7.1.Idle, .sl (M6 + 3) 0 r16.2.Out.length]]⟩), (M6 + 1, some ⟨53, 3, encL rMachine_oo r16.2.Harts⟩), (M6 + 2, some ⟨86, 2, encL rBox_o r16.2.Boxes⟩), (M6 + 3, some ⟨3, 1, encL rI r16.2.Out⟩)] (M6 + 13)) (fun K hK => ?_) ?_
        ·
         have e0 := nq (a := N0 + 19) (b := o1) (by omega)
         have e1 := nq (a := N0 + 19) (b := o2) (by omega)
         have e2 := nq (a := N0 + 19) (b := M2 + 6) (by omega)
         have e3 := nq (a := N0 + 13) (b := M2) (by omega)
         have e4 := nq (a := N0 + 19) (b := M6 + 1) (by omega)
         have e5 := nq (a := N0 + 18) (b := M6) (by omega)
         have e6 := nq (a := N0 + 19) (b := M6 + 2) (by omega)
         have e7 := nq (a := N0 + 17) (b := M6) (by omega)
         have e8 := nq (a := N0 + 19) (b := M6 + 3) (by omega)
         have e9 := nq (a := N0 + 16) (b := M6) (by omega)
         have e10 := nq (a := o1) (b := o2) (by omega)
         have e11 := nq (a := o1) (b := M2 + 6) (by omega)
         have e12 := nq (a := o1) (b := M6 + 1) (by omega)
         have e13 := nq (a := o1) (b := M6 + 2) (by omega)
         have e14 := nq (a := o1) (b := M6 + 3) (by omega)
         have e15 := nq (a := o2) (b := M2 + 6) (by omega)
         have e16 := nq (a := o2) (b := M6 + 1) (by omega)
         have e17 := nq (a := o2) (b := M6 + 2) (by omega)
         have e18 := nq (a := o2) (b := M6 + 3) (by omega)
         have e19 := nq (a := M2 + 6) (b := M6 + 1) (by omega)
         have e20 := nq (a := M2 + 5) (b := M6) (by omega)
         have e21 := nq (a := M2 + 6) (b := M6 + 2) (by omega)
         have e22 := nq (a := M2 + 4) (b := M6) (by omega)
         have e23 := nq (a := M2 + 6) (b := M6 + 3) (by omega)
         have e24 := nq (a := M2 + 3) (b := M6) (by omega)
         simp -dsimp -implicitDefEqProofs (maxDischargeDepth := 6) [e0, e1, e2, e3, e4, e5, e6, e7, e8, e9, e10, e11, e12, e13, e14, e15, e16, e17, e18, e19, e20, e21, e22, e23, e24]
         exact hK _ _ ⟨rfl, rfl⟩
        rintro a σ ⟨rfl, rfl⟩
        refine AWP_cond (ine r17 r16.1) rfl (fun C8 => ?_) (fun C8 => ?_)
        ·
         replace H := ifT C8 H
         refine AWP_sr tok [] [4] (fun a σ => a = [(4, .bool false)] ∧ σ = hp E0 [(N0 + 19, some ⟨28, 5, [[.fsl (encL rMachine r4.1.Harts), .fsl (encL rBox r4.1.Boxes), .int .i64 r4.1.Turn, .int .i64 r4.1.Idle, .fsl (encL rI r4.1.Out)]]⟩), (o1, some ⟨3, 1, encL rI r12.2⟩), (o2, some ⟨46, 1, encL rL_Instr_o r13.2⟩), (M2 + 6, some ⟨28, 5, [[.sl (M6 + 1) 0 r16.2.Harts.length, .sl (M6 + 2) 0 r16.2.Boxes.length, .int .i64 r7.1.Turn, .int .i64 r7.1.Idle, .sl (M6 + 3) 0 r16.2.Out.length]]⟩), (M6 + 1, some ⟨53, 3, encL rMachine_oo r16.2.Harts⟩), (M6 + 2, some ⟨86, 2, encL rBox_o r16.2.Boxes⟩), (M6 + 3, some ⟨3, 1, encL rI r16.2.Out⟩)] (M6 + 14)) (fun K hK => ?_) ?_
         ·
          have e0 := nq (a := N0 + 19) (b := o1) (by omega)
          have e1 := nq (a := N0 + 19) (b := o2) (by omega)
          have e2 := nq (a := N0 + 19) (b := M2 + 6) (by omega)
          have e3 := nq (a := N0 + 13) (b := M2) (by omega)
          have e4 := nq (a := N0 + 19) (b := M6 + 1) (by omega)
          have e5 := nq (a := N0 + 18) (b := M6) (by omega)
          have e6 := nq (a := N0 + 19) (b := M6 + 2) (by omega)
          have e7 := nq (a := N0 + 17) (b := M6) (by omega)
          have e8 := nq (a := N0 + 19) (b := M6 + 3) (by omega)
          have e9 := nq (a := N0 + 16) (b := M6) (by omega)
          have e10 := nq (a := o1) (b := o2) (by omega)
          have e11 := nq (a := o1) (b := M2 + 6) (by omega)
          have e12 := nq (a := o1) (b := M6 + 1) (by omega)
          have e13 := nq (a := o1) (b := M6 + 2) (by omega)
          have e14 := nq (a := o1) (b := M6 + 3) (by omega)
          have e15 := nq (a := o2) (b := M2 + 6) (by omega)
          have e16 := nq (a := o2) (b := M6 + 1) (by omega)
          have e17 := nq (a := o2) (b := M6 + 2) (by omega)
          have e18 := nq (a := o2) (b := M6 + 3) (by omega)
          have e19 := nq (a := M2 + 6) (b := M6 + 1) (by omega)
          have e20 := nq (a := M2 + 5) (b := M6) (by omega)
          have e21 := nq (a := M2 + 6) (b := M6 + 2) (by omega)
          have e22 := nq (a := M2 + 4) (b := M6) (by omega)
          have e23 := nq (a := M2 + 6) (b := M6 + 3) (by omega)
          have e24 := nq (a := M2 + 3) (b := M6) (by omega)
          simp -dsimp -implicitDefEqProofs (maxDischargeDepth := 6) [e0, e1, e2, e3, e4, e5, e6, e7, e8, e9, e10, e11, e12, e13, e14, e15, e16, e17, e18, e19, e20, e21, e22, e23, e24]
          exact hK _ _ ⟨rfl, rfl⟩
         rintro a σ ⟨rfl, rfl⟩
         replace H := Option.some.inj H; subst H
         refine AWP_kp [4] [(4, .bool false)] rfl ?_
         have z85 := nq (a := N0 + 19) (b := o1) (by omega)
         have z86 := nq (a := N0 + 19) (b := o2) (by omega)
         have z87 := nq (a := N0 + 19) (b := M2 + 6) (by omega)
         have z88 := nq (a := N0 + 13) (b := M2) (by omega)
         have z89 := nq (a := N0 + 19) (b := M6 + 1) (by omega)
         have z90 := nq (a := N0 + 18) (b := M6) (by omega)
         have z91 := nq (a := N0 + 19) (b := M6 + 2) (by omega)
         have z92 := nq (a := N0 + 17) (b := M6) (by omega)
         have z93 := nq (a := N0 + 19) (b := M6 + 3) (by omega)
         have z94 := nq (a := N0 + 16) (b := M6) (by omega)
         have z95 := nq (a := o1) (b := o2) (by omega)
         have z96 := nq (a := o1) (b := M2 + 6) (by omega)
         have z97 := nq (a := o1) (b := M6 + 1) (by omega)
         have z98 := nq (a := o1) (b := M6 + 2) (by omega)
         have z99 := nq (a := o1) (b := M6 + 3) (by omega)
         have z100 := nq (a := o2) (b := M2 + 6) (by omega)
         have z101 := nq (a := o2) (b := M6 + 1) (by omega)
         have z102 := nq (a := o2) (b := M6 + 2) (by omega)
         have z103 := nq (a := o2) (b := M6 + 3) (by omega)
         have z104 := nq (a := M2 + 6) (b := M6 + 1) (by omega)
         have z105 := nq (a := M2 + 5) (b := M6) (by omega)
         have z106 := nq (a := M2 + 6) (b := M6 + 2) (by omega)
         have z107 := nq (a := M2 + 4) (b := M6) (by omega)
         have z108 := nq (a := M2 + 6) (b := M6 + 3) (by omega)
         have z109 := nq (a := M2 + 3) (b := M6) (by omega)
         refine AWP_ret ?_
         exact ⟨[.bool false], by simp [z85, z86, z87, z88, z89, z90, z91, z92, z93, z94, z95, z96, z97, z98, z99, z100, z101, z102, z103, z104, z105, z106, z107, z108, z109], 4, by simp [encL_nil, z85, z86, z87, z88, z89, z90, z91, z92, z93, z94, z95, z96, z97, z98, z99, z100, z101, z102, z103, z104, z105, z106, z107, z108, z109]⟩
        ·
         replace H := ifF C8 H
         refine AWP_skip ?_
         show K8 _ _
         refine keepE (l := [0, 1, 6, 7, 10, 13]) (x := [(0, .fsl (encL rI p0)), (1, .fsl (encL rL_Instr p1)), (6, .ptr (N0 + 19) 0 0), (7, .bool r4.2), (10, .ptr (M2 + 6) 0 0), (13, .int .i64 r16.1)]) rfl fun a' ha => ?_
         refine hK8 _ _ ?_; rw [ha]
         refine Rc.mk ?_
         refine gPk AWP_ref (k := r16.2.Harts.length) (o := (M2 + 6)) (ob := ⟨28, 5, [[.sl (M6 + 1) 0 r16.2.Harts.length, .sl (M6 + 2) 0 r16.2.Boxes.length, .int .i64 r7.1.Turn, .int .i64 r7.1.Idle, .sl (M6 + 3) 0 r16.2.Out.length]]⟩) (row := [.sl (M6 + 1) 0 r16.2.Harts.length, .sl (M6 + 2) 0 r16.2.Boxes.length, .int .i64 r7.1.Turn, .int .i64 r7.1.Idle, .sl (M6 + 3) 0 r16.2.Out.length]) (d := (M6 + 1)) (obd := ⟨53, 3, encL rMachine_oo r16.2.Harts⟩) (r := 0) (i := 0) [(N0 + 19, some ⟨28, 5, [[.fsl (encL rMachine r4.1.Harts), .fsl (encL rBox r4.1.Boxes), .int .i64 r4.1.Turn, .int .i64 r4.1.Idle, .fsl (encL rI r4.1.Out)]]⟩), (o1, some ⟨3, 1, encL rI r12.2⟩), (o2, some ⟨46, 1, encL rL_Instr_o r13.2⟩), (M2 + 6, some ⟨28, 5, [[.osl 53 3 (encL rMachine_oo r16.2.Harts), .sl (M6 + 2) 0 r16.2.Boxes.length, .int .i64 r7.1.Turn, .int .i64 r7.1.Idle, .sl (M6 + 3) 0 r16.2.Out.length]]⟩), (M6 + 2, some ⟨86, 2, encL rBox_o r16.2.Boxes⟩), (M6 + 3, some ⟨3, 1, encL rI r16.2.Out⟩)] (by simp (disch := omega)) rfl rfl (by simp (disch := omega)) (by simp (disch := omega)) (by first | omega | simp) (by simp (disch := omega) [List.set_set, app_set] <;> omega) (by simp (disch := omega) [List.set_set, app_set]) ?_
         refine gPk AWP_ref (k := r16.2.Boxes.length) (o := (M2 + 6)) (ob := ⟨28, 5, [[.osl 53 3 (encL rMachine_oo r16.2.Harts), .sl (M6 + 2) 0 r16.2.Boxes.length, .int .i64 r7.1.Turn, .int .i64 r7.1.Idle, .sl (M6 + 3) 0 r16.2.Out.length]]⟩) (row := [.osl 53 3 (encL rMachine_oo r16.2.Harts), .sl (M6 + 2) 0 r16.2.Boxes.length, .int .i64 r7.1.Turn, .int .i64 r7.1.Idle, .sl (M6 + 3) 0 r16.2.Out.length]) (d := (M6 + 2)) (obd := ⟨86, 2, encL rBox_o r16.2.Boxes⟩) (r := 0) (i := 1) [(N0 + 19, some ⟨28, 5, [[.fsl (encL rMachine r4.1.Harts), .fsl (encL rBox r4.1.Boxes), .int .i64 r4.1.Turn, .int .i64 r4.1.Idle, .fsl (encL rI r4.1.Out)]]⟩), (o1, some ⟨3, 1, encL rI r12.2⟩), (o2, some ⟨46, 1, encL rL_Instr_o r13.2⟩), (M2 + 6, some ⟨28, 5, [[.osl 53 3 (encL rMachine_oo r16.2.Harts), .osl 86 2 (encL rBox_o r16.2.Boxes), .int .i64 r7.1.Turn, .int .i64 r7.1.Idle, .sl (M6 + 3) 0 r16.2.Out.length]]⟩), (M6 + 3, some ⟨3, 1, encL rI r16.2.Out⟩)] (by simp (disch := omega)) rfl rfl (by simp (disch := omega)) (by simp (disch := omega)) (by first | omega | simp) (by simp (disch := omega) [List.set_set, app_set] <;> omega) (by simp (disch := omega) [List.set_set, app_set]) ?_
         refine gPk AWP_ref (k := r16.2.Out.length) (o := (M2 + 6)) (ob := ⟨28, 5, [[.osl 53 3 (encL rMachine_oo r16.2.Harts), .osl 86 2 (encL rBox_o r16.2.Boxes), .int .i64 r7.1.Turn, .int .i64 r7.1.Idle, .sl (M6 + 3) 0 r16.2.Out.length]]⟩) (row := [.osl 53 3 (encL rMachine_oo r16.2.Harts), .osl 86 2 (encL rBox_o r16.2.Boxes), .int .i64 r7.1.Turn, .int .i64 r7.1.Idle, .sl (M6 + 3) 0 r16.2.Out.length]) (d := (M6 + 3)) (obd := ⟨3, 1, encL rI r16.2.Out⟩) (r := 0) (i := 4) [(N0 + 19, some ⟨28, 5, [[.fsl (encL rMachine r4.1.Harts), .fsl (encL rBox r4.1.Boxes), .int .i64 r4.1.Turn, .int .i64 r4.1.Idle, .fsl (encL rI r4.1.Out)]]⟩), (o1, some ⟨3, 1, encL rI r12.2⟩), (o2, some ⟨46, 1, encL rL_Instr_o r13.2⟩), (M2 + 6, some ⟨28, 5, [[.osl 53 3 (encL rMachine_oo r16.2.Harts), .osl 86 2 (encL rBox_o r16.2.Boxes), .int .i64 r7.1.Turn, .int .i64 r7.1.Idle, .osl 3 1 (encL rI r16.2.Out)]]⟩)] (by simp (disch := omega)) rfl rfl (by simp (disch := omega)) (by simp (disch := omega)) (by first | omega | simp) (by simp (disch := omega) [List.set_set, app_set] <;> omega) (by simp (disch := omega) [List.set_set, app_set]) ?_
         obtain ⟨r18, hr18, H⟩ := bindE H
         refine AWP_sr tok [] [6, 7, 10, 13, 15, 16] (fun a σ => a = [(6, .ptr (N0 + 19) 0 0), (7, .bool r4.2), (10, .ptr (M2 + 6) 0 0), (13, .int .i64 r16.1), (15, .ptr (M6 + 21) 0 0), (16, .bool r18.2)] ∧ σ = hp E0 [(N0 + 19, some ⟨28, 5, [[.fsl (encL rMachine r4.1.Harts), .fsl (encL rBox r4.1.Boxes), .int .i64 r4.1.Turn, .int .i64 r4.1.Idle, .fsl (encL rI r4.1.Out)]]⟩), (o1, some ⟨3, 1, encL rI r12.2⟩), (o2, some ⟨46, 1, encL rL_Instr_o r13.2⟩), (M2 + 6, some ⟨28, 5, [[.osl 53 3 (encL rMachine_oo r16.2.Harts), .osl 86 2 (encL rBox_o r16.2.Boxes), .int .i64 r7.1.Turn, .int .i64 r7.1.Idle, .osl 3 1 (encL rI r16.2.Out)]]⟩), (M6 + 21, some ⟨28, 5, [[.fsl (encL rMachine r18.1.Harts), .fsl (encL rBox r18.1.Boxes), .int .i64 r18.1.Turn, .int .i64 r18.1.Idle, .fsl (encL rI r18.1.Out)]]⟩)] (M6 + 24)) (fun K hK => ?_) ?_
         ·
          have e0 := nq (a := N0 + 19) (b := o1) (by omega)
          have e1 := nq (a := N0 + 19) (b := o2) (by omega)
          have e2 := nq (a := N0 + 19) (b := M2 + 6) (by omega)
          have e3 := nq (a := N0 + 13) (b := M2) (by omega)
          have e4 := nq (a := N0 + 19) (b := M6 + 21) (by omega)
          have e5 := nq (a := N0) (b := M6 + 2) (by omega)
          have e6 := nq (a := o1) (b := o2) (by omega)
          have e7 := nq (a := o1) (b := M2 + 6) (by omega)
          have e8 := nq (a := o1) (b := M6 + 21) (by omega)
          have e9 := nq (a := o2) (b := M2 + 6) (by omega)
          have e10 := nq (a := o2) (b := M6 + 21) (by omega)
          have e11 := nq (a := M2 + 6) (b := M6 + 21) (by omega)
          have e12 := nq (a := M2) (b := M6 + 15) (by omega)
          simp -dsimp -implicitDefEqProofs (maxDischargeDepth := 6) [e0, e1, e2, e3, e4, e5, e6, e7, e8, e9, e10, e11, e12]
          refine (c7 hr2).app ?_; try simp -dsimp -implicitDefEqProofs (maxDischargeDepth := 6) [e0, e1, e2, e3, e4, e5, e6, e7, e8, e9, e10, e11, e12]
          refine (c8 hr3).app ?_; try simp -dsimp -implicitDefEqProofs (maxDischargeDepth := 6) [e0, e1, e2, e3, e4, e5, e6, e7, e8, e9, e10, e11, e12]
          refine (c9 hr18).app ?_; try simp -dsimp -implicitDefEqProofs (maxDischargeDepth := 6) [e0, e1, e2, e3, e4, e5, e6, e7, e8, e9, e10, e11, e12]
          exact hK _ _ ⟨rfl, rfl⟩
         rintro a σ ⟨rfl, rfl⟩
         refine AWP_sq [10, 13] fun K9 hK9 => ?_
         obtain ⟨r19, hr19, H⟩ := bindE H
         obtain ⟨g20, hg20, H⟩ := bindE H
         refine AWP_sr tok [] [10, 13, 108] (fun a σ => a = [(10, .ptr (M2 + 6) 0 0), (13, .int .i64 r16.1), (108, .bool g20)] ∧ σ = hp E0 [(N0 + 19, some ⟨28, 5, [[.fsl (encL rMachine r4.1.Harts), .fsl (encL rBox r4.1.Boxes), .int .i64 r4.1.Turn, .int .i64 r4.1.Idle, .fsl (encL rI r4.1.Out)]]⟩), (o1, some ⟨3, 1, encL rI r12.2⟩), (o2, some ⟨46, 1, encL rL_Instr_o r13.2⟩), (M2 + 6, some ⟨28, 5, [[.osl 53 3 (encL rMachine_oo r16.2.Harts), .osl 86 2 (encL rBox_o r16.2.Boxes), .int .i64 r7.1.Turn, .int .i64 r7.1.Idle, .osl 3 1 (encL rI r16.2.Out)]]⟩), (M6 + 21, some ⟨28, 5, [[.fsl (encL rMachine r18.1.Harts), .fsl (encL rBox r18.1.Boxes), .int .i64 r18.1.Turn, .int .i64 r18.1.Idle, .fsl (encL rI r18.1.Out)]]⟩)] (M6 + 33)) (fun K hK => ?_) ?_
         ·
          have e0 := nq (a := N0 + 19) (b := o1) (by omega)
          have e1 := nq (a := N0 + 19) (b := o2) (by omega)
          have e2 := nq (a := N0 + 19) (b := M2 + 6) (by omega)
          have e3 := nq (a := N0 + 13) (b := M2) (by omega)
          have e4 := nq (a := N0 + 19) (b := M6 + 21) (by omega)
          have e5 := nq (a := N0) (b := M6 + 2) (by omega)
          have e6 := nq (a := o1) (b := o2) (by omega)
          have e7 := nq (a := o1) (b := M2 + 6) (by omega)
          have e8 := nq (a := o1) (b := M6 + 21) (by omega)
          have e9 := nq (a := o2) (b := M2 + 6) (by omega)
          have e10 := nq (a := o2) (b := M6 + 21) (by omega)
          have e11 := nq (a := M2 + 6) (b := M6 + 21) (by omega)
          have e12 := nq (a := M2) (b := M6 + 15) (by omega)
          simp -dsimp -implicitDefEqProofs (maxDischargeDepth := 6) [e0, e1, e2, e3, e4, e5, e6, e7, e8, e9, e10, e11, e12]
          refine (c10 hr19).app ?_; try simp -dsimp -implicitDefEqProofs (maxDischargeDepth := 6) [e0, e1, e2, e3, e4, e5, e6, e7, e8, e9, e10, e11, e12]
          cases hbg20 : bnot r19
          ·
           replace hg20 := ifF hbg20 hg20
           replace hg20 := Option.some.inj hg20; subst hg20
           try simp -dsimp -implicitDefEqProofs (maxDischargeDepth := 6) [e0, e1, e2, e3, e4, e5, e6, e7, e8, e9, e10, e11, e12, hbg20]
           exact hK _ _ ⟨rfl, rfl⟩
          ·
           replace hg20 := ifT hbg20 hg20
           replace hg20 := Option.some.inj hg20; subst hg20
           try simp -dsimp -implicitDefEqProofs (maxDischargeDepth := 6) [e0, e1, e2, e3, e4, e5, e6, e7, e8, e9, e10, e11, e12, hbg20]
           exact hK _ _ ⟨rfl, rfl⟩
         rintro a σ ⟨rfl, rfl⟩
         refine AWP_cond g20 rfl (fun C9 => ?_) (fun C9 => ?_)
         ·
          replace H := ifT C9 H
          refine AWP_sr tok [] [4] (fun a σ => a = [(4, .bool false)] ∧ σ = hp E0 [(N0 + 19, some ⟨28, 5, [[.fsl (encL rMachine r4.1.Harts), .fsl (encL rBox r4.1.Boxes), .int .i64 r4.1.Turn, .int .i64 r4.1.Idle, .fsl (encL rI r4.1.Out)]]⟩), (o1, some ⟨3, 1, encL rI r12.2⟩), (o2, some ⟨46, 1, encL rL_Instr_o r13.2⟩), (M2 + 6, some ⟨28, 5, [[.osl 53 3 (encL rMachine_oo r16.2.Harts), .osl 86 2 (encL rBox_o r16.2.Boxes), .int .i64 r7.1.Turn, .int .i64 r7.1.Idle, .osl 3 1 (encL rI r16.2.Out)]]⟩), (M6 + 21, some ⟨28, 5, [[.fsl (encL rMachine r18.1.Harts), .fsl (encL rBox r18.1.Boxes), .int .i64 r18.1.Turn, .int .i64 r18.1.Idle, .fsl (encL rI r18.1.Out)]]⟩)] (M6 + 34)) (fun K hK => ?_) ?_
          ·
           have e0 := nq (a := N0 + 19) (b := o1) (by omega)
           have e1 := nq (a := N0 + 19) (b := o2) (by omega)
           have e2 := nq (a := N0 + 19) (b := M2 + 6) (by omega)
           have e3 := nq (a := N0 + 13) (b := M2) (by omega)
           have e4 := nq (a := N0 + 19) (b := M6 + 21) (by omega)
           have e5 := nq (a := N0) (b := M6 + 2) (by omega)
           have e6 := nq (a := o1) (b := o2) (by omega)
           have e7 := nq (a := o1) (b := M2 + 6) (by omega)
           have e8 := nq (a := o1) (b := M6 + 21) (by omega)
           have e9 := nq (a := o2) (b := M2 + 6) (by omega)
           have e10 := nq (a := o2) (b := M6 + 21) (by omega)
           have e11 := nq (a := M2 + 6) (b := M6 + 21) (by omega)
           have e12 := nq (a := M2) (b := M6 + 15) (by omega)
           simp -dsimp -implicitDefEqProofs (maxDischargeDepth := 6) [e0, e1, e2, e3, e4, e5, e6, e7, e8, e9, e10, e11, e12]
           exact hK _ _ ⟨rfl, rfl⟩
          rintro a σ ⟨rfl, rfl⟩
          replace H := Option.some.inj H; subst H
          refine AWP_kp [4] [(4, .bool false)] rfl ?_
          have z110 := nq (a := N0 + 19) (b := o1) (by omega)
          have z111 := nq (a := N0 + 19) (b := o2) (by omega)
          have z112 := nq (a := N0 + 19) (b := M2 + 6) (by omega)
          have z113 := nq (a := N0 + 13) (b := M2) (by omega)
          have z114 := nq (a := N0 + 19) (b := M6 + 21) (by omega)
          have z115 := nq (a := N0) (b := M6 + 2) (by omega)
          have z116 := nq (a := o1) (b := o2) (by omega)
          have z117 := nq (a := o1) (b := M2 + 6) (by omega)
          have z118 := nq (a := o1) (b := M6 + 21) (by omega)
          have z119 := nq (a := o2) (b := M2 + 6) (by omega)
          have z120 := nq (a := o2) (b := M6 + 21) (by omega)
          have z121 := nq (a := M2 + 6) (b := M6 + 21) (by omega)
          have z122 := nq (a := M2) (b := M6 + 15) (by omega)
          refine AWP_ret ?_
          exact ⟨[.bool false], by simp [z110, z111, z112, z113, z114, z115, z116, z117, z118, z119, z120, z121, z122], 4, by simp [encL_nil, z110, z111, z112, z113, z114, z115, z116, z117, z118, z119, z120, z121, z122]⟩
         ·
          replace H := ifF C9 H
          refine AWP_skip ?_
          show K9 _ _
          refine keepE (l := [10, 13]) (x := [(10, .ptr (M2 + 6) 0 0), (13, .int .i64 r16.1)]) rfl fun a' ha => ?_
          refine hK9 _ _ ?_; rw [ha]
          refine Rc.mk ?_
          refine AWP_sr tok [] [10, 13, 14] (fun a σ => a = [(10, .ptr (M2 + 6) 0 0), (13, .int .i64 r16.1), (14, .int .i64 1)] ∧ σ = hp E0 [(N0 + 19, some ⟨28, 5, [[.fsl (encL rMachine r4.1.Harts), .fsl (encL rBox r4.1.Boxes), .int .i64 r4.1.Turn, .int .i64 r4.1.Idle, .fsl (encL rI r4.1.Out)]]⟩), (o1, some ⟨3, 1, encL rI r12.2⟩), (o2, some ⟨46, 1, encL rL_Instr_o r13.2⟩), (M2 + 6, some ⟨28, 5, [[.osl 53 3 (encL rMachine_oo r16.2.Harts), .osl 86 2 (encL rBox_o r16.2.Boxes), .int .i64 r7.1.Turn, .int .i64 r7.1.Idle, .osl 3 1 (encL rI r16.2.Out)]]⟩), (M6 + 21, some ⟨28, 5, [[.fsl (encL rMachine r18.1.Harts), .fsl (encL rBox r18.1.Boxes), .int .i64 r18.1.Turn, .int .i64 r18.1.Idle, .fsl (encL rI r18.1.Out)]]⟩)] (M6 + 34)) (fun K hK => ?_) ?_
          ·
           have e0 := nq (a := N0 + 19) (b := o1) (by omega)
           have e1 := nq (a := N0 + 19) (b := o2) (by omega)
           have e2 := nq (a := N0 + 19) (b := M2 + 6) (by omega)
           have e3 := nq (a := N0 + 13) (b := M2) (by omega)
           have e4 := nq (a := N0 + 19) (b := M6 + 21) (by omega)
           have e5 := nq (a := N0) (b := M6 + 2) (by omega)
           have e6 := nq (a := o1) (b := o2) (by omega)
           have e7 := nq (a := o1) (b := M2 + 6) (by omega)
           have e8 := nq (a := o1) (b := M6 + 21) (by omega)
           have e9 := nq (a := o2) (b := M2 + 6) (by omega)
           have e10 := nq (a := o2) (b := M6 + 21) (by omega)
           have e11 := nq (a := M2 + 6) (b := M6 + 21) (by omega)
           have e12 := nq (a := M2) (b := M6 + 15) (by omega)
           simp -dsimp -implicitDefEqProofs (maxDischargeDepth := 6) [e0, e1, e2, e3, e4, e5, e6, e7, e8, e9, e10, e11, e12]
           exact hK _ _ ⟨rfl, rfl⟩
          rintro a σ ⟨rfl, rfl⟩
          refine gUnp AWP_ref (ty := 53) (sz := 3) (es := encL rMachine_oo r16.2.Harts) (o := (M2 + 6)) (ob := ⟨28, 5, [[.osl 53 3 (encL rMachine_oo r16.2.Harts), .osl 86 2 (encL rBox_o r16.2.Boxes), .int .i64 r7.1.Turn, .int .i64 r7.1.Idle, .osl 3 1 (encL rI r16.2.Out)]]⟩) (row := [.osl 53 3 (encL rMachine_oo r16.2.Harts), .osl 86 2 (encL rBox_o r16.2.Boxes), .int .i64 r7.1.Turn, .int .i64 r7.1.Idle, .osl 3 1 (encL rI r16.2.Out)]) (r := 0) (i := 0) [(N0 + 19, some ⟨28, 5, [[.fsl (encL rMachine r4.1.Harts), .fsl (encL rBox r4.1.Boxes), .int .i64 r4.1.Turn, .int .i64 r4.1.Idle, .fsl (encL rI r4.1.Out)]]⟩), (o1, some ⟨3, 1, encL rI r12.2⟩), (o2, some ⟨46, 1, encL rL_Instr_o r13.2⟩), (M2 + 6, some ⟨28, 5, [[.sl (M6 + 34) 0 r16.2.Harts.length, .osl 86 2 (encL rBox_o r16.2.Boxes), .int .i64 r7.1.Turn, .int .i64 r7.1.Idle, .osl 3 1 (encL rI r16.2.Out)]]⟩), (M6 + 21, some ⟨28, 5, [[.fsl (encL rMachine r18.1.Harts), .fsl (encL rBox r18.1.Boxes), .int .i64 r18.1.Turn, .int .i64 r18.1.Idle, .fsl (encL rI r18.1.Out)]]⟩), (M6 + 34, some ⟨53, 3, encL rMachine_oo r16.2.Harts⟩)] (by simp (disch := omega)) rfl rfl (by simp (disch := omega) [List.set_set]) ?_
          refine gUnp AWP_ref (ty := 86) (sz := 2) (es := encL rBox_o r16.2.Boxes) (o := (M2 + 6)) (ob := ⟨28, 5, [[.sl (M6 + 34) 0 r16.2.Harts.length, .osl 86 2 (encL rBox_o r16.2.Boxes), .int .i64 r7.1.Turn, .int .i64 r7.1.Idle, .osl 3 1 (encL rI r16.2.Out)]]⟩) (row := [.sl (M6 + 34) 0 r16.2.Harts.length, .osl 86 2 (encL rBox_o r16.2.Boxes), .int .i64 r7.1.Turn, .int .i64 r7.1.Idle, .osl 3 1 (encL rI r16.2.Out)]) (r := 0) (i := 1) [(N0 + 19, some ⟨28, 5, [[.fsl (encL rMachine r4.1.Harts), .fsl (encL rBox r4.1.Boxes), .int .i64 r4.1.Turn, .int .i64 r4.1.Idle, .fsl (encL rI r4.1.Out)]]⟩), (o1, some ⟨3, 1, encL rI r12.2⟩), (o2, some ⟨46, 1, encL rL_Instr_o r13.2⟩), (M2 + 6, some ⟨28, 5, [[.sl (M6 + 34) 0 r16.2.Harts.length, .sl (M6 + 35) 0 r16.2.Boxes.length, .int .i64 r7.1.Turn, .int .i64 r7.1.Idle, .osl 3 1 (encL rI r16.2.Out)]]⟩), (M6 + 21, some ⟨28, 5, [[.fsl (encL rMachine r18.1.Harts), .fsl (encL rBox r18.1.Boxes), .int .i64 r18.1.Turn, .int .i64 r18.1.Idle, .fsl (encL rI r18.1.Out)]]⟩), (M6 + 34, some ⟨53, 3, encL rMachine_oo r16.2.Harts⟩), (M6 + 35, some ⟨86, 2, encL rBox_o r16.2.Boxes⟩)] (by simp (disch := omega)) rfl rfl (by simp (disch := omega) [List.set_set]) ?_
          refine gUnp AWP_ref (ty := 3) (sz := 1) (es := encL rI r16.2.Out) (o := (M2 + 6)) (ob := ⟨28, 5, [[.sl (M6 + 34) 0 r16.2.Harts.length, .sl (M6 + 35) 0 r16.2.Boxes.length, .int .i64 r7.1.Turn, .int .i64 r7.1.Idle, .osl 3 1 (encL rI r16.2.Out)]]⟩) (row := [.sl (M6 + 34) 0 r16.2.Harts.length, .sl (M6 + 35) 0 r16.2.Boxes.length, .int .i64 r7.1.Turn, .int .i64 r7.1.Idle, .osl 3 1 (encL rI r16.2.Out)]) (r := 0) (i := 4) [(N0 + 19, some ⟨28, 5, [[.fsl (encL rMachine r4.1.Harts), .fsl (encL rBox r4.1.Boxes), .int .i64 r4.1.Turn, .int .i64 r4.1.Idle, .fsl (encL rI r4.1.Out)]]⟩), (o1, some ⟨3, 1, encL rI r12.2⟩), (o2, some ⟨46, 1, encL rL_Instr_o r13.2⟩), (M2 + 6, some ⟨28, 5, [[.sl (M6 + 34) 0 r16.2.Harts.length, .sl (M6 + 35) 0 r16.2.Boxes.length, .int .i64 r7.1.Turn, .int .i64 r7.1.Idle, .sl (M6 + 36) 0 r16.2.Out.length]]⟩), (M6 + 21, some ⟨28, 5, [[.fsl (encL rMachine r18.1.Harts), .fsl (encL rBox r18.1.Boxes), .int .i64 r18.1.Turn, .int .i64 r18.1.Idle, .fsl (encL rI r18.1.Out)]]⟩), (M6 + 34, some ⟨53, 3, encL rMachine_oo r16.2.Harts⟩), (M6 + 35, some ⟨86, 2, encL rBox_o r16.2.Boxes⟩), (M6 + 36, some ⟨3, 1, encL rI r16.2.Out⟩)] (by simp (disch := omega)) rfl rfl (by simp (disch := omega) [List.set_set]) ?_
          refine AWP_sr tok [] [13, 14] (fun a σ => a = [(13, .int .i64 r16.1), (14, .int .i64 r17)] ∧ σ = hp E0 [(N0 + 19, some ⟨28, 5, [[.fsl (encL rMachine r4.1.Harts), .fsl (encL rBox r4.1.Boxes), .int .i64 r4.1.Turn, .int .i64 r4.1.Idle, .fsl (encL rI r4.1.Out)]]⟩), (o1, some ⟨3, 1, encL rI r12.2⟩), (o2, some ⟨46, 1, encL rL_Instr_o r13.2⟩), (M2 + 6, some ⟨28, 5, [[.sl (M6 + 34) 0 r16.2.Harts.length, .sl (M6 + 35) 0 r16.2.Boxes.length, .int .i64 r7.1.Turn, .int .i64 r7.1.Idle, .sl (M6 + 36) 0 r16.2.Out.length]]⟩), (M6 + 21, some ⟨28, 5, [[.fsl (encL rMachine r18.1.Harts), .fsl (encL rBox r18.1.Boxes), .int .i64 r18.1.Turn, .int .i64 r18.1.Idle, .fsl (encL rI r18.1.Out)]]⟩), (M6 + 34, some ⟨53, 3, encL rMachine_oo r16.2.Harts⟩), (M6 + 35, some ⟨86, 2, encL rBox_o r16.2.Boxes⟩), (M6 + 36, some ⟨3, 1, encL rI r16.2.Out⟩)] (M6 + 41)) (fun K hK => ?_) ?_
          ·
           have e0 := nq (a := N0 + 19) (b := o1) (by omega)
           have e1 := nq (a := N0 + 19) (b := o2) (by omega)
           have e2 := nq (a := N0 + 19) (b := M2 + 6) (by omega)
           have e3 := nq (a := N0 + 13) (b := M2) (by omega)
           have e4 := nq (a := N0 + 19) (b := M6 + 21) (by omega)
           have e5 := nq (a := N0) (b := M6 + 2) (by omega)
           have e6 := nq (a := N0 + 19) (b := M6 + 34) (by omega)
           have e7 := nq (a := N0) (b := M6 + 15) (by omega)
           have e8 := nq (a := N0 + 19) (b := M6 + 35) (by omega)
           have e9 := nq (a := N0) (b := M6 + 16) (by omega)
           have e10 := nq (a := N0 + 19) (b := M6 + 36) (by omega)
           have e11 := nq (a := N0) (b := M6 + 17) (by omega)
           have e12 := nq (a := o1) (b := o2) (by omega)
           have e13 := nq (a := o1) (b := M2 + 6) (by omega)
           have e14 := nq (a := o1) (b := M6 + 21) (by omega)
           have e15 := nq (a := o1) (b := M6 + 34) (by omega)
           have e16 := nq (a := o1) (b := M6 + 35) (by omega)
           have e17 := nq (a := o1) (b := M6 + 36) (by omega)
           have e18 := nq (a := o2) (b := M2 + 6) (by omega)
           have e19 := nq (a := o2) (b := M6 + 21) (by omega)
           have e20 := nq (a := o2) (b := M6 + 34) (by omega)
           have e21 := nq (a := o2) (b := M6 + 35) (by omega)
           have e22 := nq (a := o2) (b := M6 + 36) (by omega)
           have e23 := nq (a := M2 + 6) (b := M6 + 21) (by omega)
           have e24 := nq (a := M2) (b := M6 + 15) (by omega)
           have e25 := nq (a := M2 + 6) (b := M6 + 34) (by omega)
           have e26 := nq (a := M2) (b := M6 + 28) (by omega)
           have e27 := nq (a := M2 + 6) (b := M6 + 35) (by omega)
           have e28 := nq (a := M2) (b := M6 + 29) (by omega)
           have e29 := nq (a := M2 + 6) (b := M6 + 36) (by omega)
           have e30 := nq (a := M2) (b := M6 + 30) (by omega)
           simp -dsimp -implicitDefEqProofs (maxDischargeDepth := 6) [e0, e1, e2, e3, e4, e5, e6, e7, e8, e9, e10, e11, e12, e13, e14, e15, e16, e17, e18, e19, e20, e21, e22, e23, e24, e25, e26, e27, e28, e29, e30]
           refine (borrow 8 (c16 hr17) (by simp [e0, e1, e2, e3, e4, e5, e6, e7, e8, e9, e10, e11, e12, e13, e14, e15, e16, e17, e18, e19, e20, e21, e22, e23, e24, e25, e26, e27, e28, e29, e30]) rfl).mono ?_; rintro _ _ ⟨rfl, rfl⟩; try simp -dsimp -implicitDefEqProofs (maxDischargeDepth := 6) [e0, e1, e2, e3, e4, e5, e6, e7, e8, e9, e10, e11, e12, e13, e14, e15, e16, e17, e18, e19, e20, e21, e22, e23, e24, e25, e26, e27, e28, e29, e30]
           exact hK _ _ ⟨rfl, rfl⟩
          rintro a σ ⟨rfl, rfl⟩
          refine AWP_sq [13, 14] fun K10 hK10 => ?_
          refine AWP_sr tok [] [13, 14, 113] (fun a σ => a = [(13, .int .i64 r16.1), (14, .int .i64 r17), (113, .bool (ilt r17 0))] ∧ σ = hp E0 [(N0 + 19, some ⟨28, 5, [[.fsl (encL rMachine r4.1.Harts), .fsl (encL rBox r4.1.Boxes), .int .i64 r4.1.Turn, .int .i64 r4.1.Idle, .fsl (encL rI r4.1.Out)]]⟩), (o1, some ⟨3, 1, encL rI r12.2⟩), (o2, some ⟨46, 1, encL rL_Instr_o r13.2⟩), (M2 + 6, some ⟨28, 5, [[.sl (M6 + 34) 0 r16.2.Harts.length, .sl (M6 + 35) 0 r16.2.Boxes.length, .int .i64 r7.1.Turn, .int .i64 r7.1.Idle, .sl (M6 + 36) 0 r16.2.Out.length]]⟩), (M6 + 21, some ⟨28, 5, [[.fsl (encL rMachine r18.1.Harts), .fsl (encL rBox r18.1.Boxes), .int .i64 r18.1.Turn, .int .i64 r18.1.Idle, .fsl (encL rI r18.1.Out)]]⟩), (M6 + 34, some ⟨53, 3, encL rMachine_oo r16.2.Harts⟩), (M6 + 35, some ⟨86, 2, encL rBox_o r16.2.Boxes⟩), (M6 + 36, some ⟨3, 1, encL rI r16.2.Out⟩)] (M6 + 43)) (fun K hK => ?_) ?_
          ·
           have e0 := nq (a := N0 + 19) (b := o1) (by omega)
           have e1 := nq (a := N0 + 19) (b := o2) (by omega)
           have e2 := nq (a := N0 + 19) (b := M2 + 6) (by omega)
           have e3 := nq (a := N0 + 13) (b := M2) (by omega)
           have e4 := nq (a := N0 + 19) (b := M6 + 21) (by omega)
           have e5 := nq (a := N0) (b := M6 + 2) (by omega)
           have e6 := nq (a := N0 + 19) (b := M6 + 34) (by omega)
           have e7 := nq (a := N0) (b := M6 + 15) (by omega)
           have e8 := nq (a := N0 + 19) (b := M6 + 35) (by omega)
           have e9 := nq (a := N0) (b := M6 + 16) (by omega)
           have e10 := nq (a := N0 + 19) (b := M6 + 36) (by omega)
           have e11 := nq (a := N0) (b := M6 + 17) (by omega)
           have e12 := nq (a := o1) (b := o2) (by omega)
           have e13 := nq (a := o1) (b := M2 + 6) (by omega)
           have e14 := nq (a := o1) (b := M6 + 21) (by omega)
           have e15 := nq (a := o1) (b := M6 + 34) (by omega)
           have e16 := nq (a := o1) (b := M6 + 35) (by omega)
           have e17 := nq (a := o1) (b := M6 + 36) (by omega)
           have e18 := nq (a := o2) (b := M2 + 6) (by omega)
           have e19 := nq (a := o2) (b := M6 + 21) (by omega)
           have e20 := nq (a := o2) (b := M6 + 34) (by omega)
           have e21 := nq (a := o2) (b := M6 + 35) (by omega)
           have e22 := nq (a := o2) (b := M6 + 36) (by omega)
           have e23 := nq (a := M2 + 6) (b := M6 + 21) (by omega)
           have e24 := nq (a := M2) (b := M6 + 15) (by omega)
           have e25 := nq (a := M2 + 6) (b := M6 + 34) (by omega)
           have e26 := nq (a := M2) (b := M6 + 28) (by omega)
           have e27 := nq (a := M2 + 6) (b := M6 + 35) (by omega)
           have e28 := nq (a := M2) (b := M6 + 29) (by omega)
           have e29 := nq (a := M2 + 6) (b := M6 + 36) (by omega)
           have e30 := nq (a := M2) (b := M6 + 30) (by omega)
           simp -dsimp -implicitDefEqProofs (maxDischargeDepth := 6) [e0, e1, e2, e3, e4, e5, e6, e7, e8, e9, e10, e11, e12, e13, e14, e15, e16, e17, e18, e19, e20, e21, e22, e23, e24, e25, e26, e27, e28, e29, e30]
           exact hK _ _ ⟨rfl, rfl⟩
          rintro a σ ⟨rfl, rfl⟩
          refine AWP_cond (ilt r17 0) rfl (fun C10 => ?_) (fun C10 => ?_)
          ·
           replace H := ifT C10 H
           refine AWP_sr tok [] [4] (fun a σ => a = [(4, .bool false)] ∧ σ = hp E0 [(N0 + 19, some ⟨28, 5, [[.fsl (encL rMachine r4.1.Harts), .fsl (encL rBox r4.1.Boxes), .int .i64 r4.1.Turn, .int .i64 r4.1.Idle, .fsl (encL rI r4.1.Out)]]⟩), (o1, some ⟨3, 1, encL rI r12.2⟩), (o2, some ⟨46, 1, encL rL_Instr_o r13.2⟩), (M2 + 6, some ⟨28, 5, [[.sl (M6 + 34) 0 r16.2.Harts.length, .sl (M6 + 35) 0 r16.2.Boxes.length, .int .i64 r7.1.Turn, .int .i64 r7.1.Idle, .sl (M6 + 36) 0 r16.2.Out.length]]⟩), (M6 + 21, some ⟨28, 5, [[.fsl (encL rMachine r18.1.Harts), .fsl (encL rBox r18.1.Boxes), .int .i64 r18.1.Turn, .int .i64 r18.1.Idle, .fsl (encL rI r18.1.Out)]]⟩), (M6 + 34, some ⟨53, 3, encL rMachine_oo r16.2.Harts⟩), (M6 + 35, some ⟨86, 2, encL rBox_o r16.2.Boxes⟩), (M6 + 36, some ⟨3, 1, encL rI r16.2.Out⟩)] (M6 + 44)) (fun K hK => ?_) ?_
           ·
            have e0 := nq (a := N0 + 19) (b := o1) (by omega)
            have e1 := nq (a := N0 + 19) (b := o2) (by omega)
            have e2 := nq (a := N0 + 19) (b := M2 + 6) (by omega)
            have e3 := nq (a := N0 + 13) (b := M2) (by omega)
            have e4 := nq (a := N0 + 19) (b := M6 + 21) (by omega)
            have e5 := nq (a := N0) (b := M6 + 2) (by omega)
            have e6 := nq (a := N0 + 19) (b := M6 + 34) (by omega)
            have e7 := nq (a := N0) (b := M6 + 15) (by omega)
            have e8 := nq (a := N0 + 19) (b := M6 + 35) (by omega)
            have e9 := nq (a := N0) (b := M6 + 16) (by omega)
            have e10 := nq (a := N0 + 19) (b := M6 + 36) (by omega)
            have e11 := nq (a := N0) (b := M6 + 17) (by omega)
            have e12 := nq (a := o1) (b := o2) (by omega)
            have e13 := nq (a := o1) (b := M2 + 6) (by omega)
            have e14 := nq (a := o1) (b := M6 + 21) (by omega)
            have e15 := nq (a := o1) (b := M6 + 34) (by omega)
            have e16 := nq (a := o1) (b := M6 + 35) (by omega)
            have e17 := nq (a := o1) (b := M6 + 36) (by omega)
            have e18 := nq (a := o2) (b := M2 + 6) (by omega)
            have e19 := nq (a := o2) (b := M6 + 21) (by omega)
            have e20 := nq (a := o2) (b := M6 + 34) (by omega)
            have e21 := nq (a := o2) (b := M6 + 35) (by omega)
            have e22 := nq (a := o2) (b := M6 + 36) (by omega)
            have e23 := nq (a := M2 + 6) (b := M6 + 21) (by omega)
            have e24 := nq (a := M2) (b := M6 + 15) (by omega)
            have e25 := nq (a := M2 + 6) (b := M6 + 34) (by omega)
            have e26 := nq (a := M2) (b := M6 + 28) (by omega)
            have e27 := nq (a := M2 + 6) (b := M6 + 35) (by omega)
            have e28 := nq (a := M2) (b := M6 + 29) (by omega)
            have e29 := nq (a := M2 + 6) (b := M6 + 36) (by omega)
            have e30 := nq (a := M2) (b := M6 + 30) (by omega)
            simp -dsimp -implicitDefEqProofs (maxDischargeDepth := 6) [e0, e1, e2, e3, e4, e5, e6, e7, e8, e9, e10, e11, e12, e13, e14, e15, e16, e17, e18, e19, e20, e21, e22, e23, e24, e25, e26, e27, e28, e29, e30]
            exact hK _ _ ⟨rfl, rfl⟩
           rintro a σ ⟨rfl, rfl⟩
           replace H := Option.some.inj H; subst H
           refine AWP_kp [4] [(4, .bool false)] rfl ?_
           have z123 := nq (a := N0 + 19) (b := o1) (by omega)
           have z124 := nq (a := N0 + 19) (b := o2) (by omega)
           have z125 := nq (a := N0 + 19) (b := M2 + 6) (by omega)
           have z126 := nq (a := N0 + 13) (b := M2) (by omega)
           have z127 := nq (a := N0 + 19) (b := M6 + 21) (by omega)
           have z128 := nq (a := N0) (b := M6 + 2) (by omega)
           have z129 := nq (a := N0 + 19) (b := M6 + 34) (by omega)
           have z130 := nq (a := N0) (b := M6 + 15) (by omega)
           have z131 := nq (a := N0 + 19) (b := M6 + 35) (by omega)
           have z132 := nq (a := N0) (b := M6 + 16) (by omega)
           have z133 := nq (a := N0 + 19) (b := M6 + 36) (by omega)
           have z134 := nq (a := N0) (b := M6 + 17) (by omega)
           have z135 := nq (a := o1) (b := o2) (by omega)
           have z136 := nq (a := o1) (b := M2 + 6) (by omega)
           have z137 := nq (a := o1) (b := M6 + 21) (by omega)
           have z138 := nq (a := o1) (b := M6 + 34) (by omega)
           have z139 := nq (a := o1) (b := M6 + 35) (by omega)
           have z140 := nq (a := o1) (b := M6 + 36) (by omega)
           have z141 := nq (a := o2) (b := M2 + 6) (by omega)
           have z142 := nq (a := o2) (b := M6 + 21) (by omega)
           have z143 := nq (a := o2) (b := M6 + 34) (by omega)
           have z144 := nq (a := o2) (b := M6 + 35) (by omega)
           have z145 := nq (a := o2) (b := M6 + 36) (by omega)
           have z146 := nq (a := M2 + 6) (b := M6 + 21) (by omega)
           have z147 := nq (a := M2) (b := M6 + 15) (by omega)
           have z148 := nq (a := M2 + 6) (b := M6 + 34) (by omega)
           have z149 := nq (a := M2) (b := M6 + 28) (by omega)
           have z150 := nq (a := M2 + 6) (b := M6 + 35) (by omega)
           have z151 := nq (a := M2) (b := M6 + 29) (by omega)
           have z152 := nq (a := M2 + 6) (b := M6 + 36) (by omega)
           have z153 := nq (a := M2) (b := M6 + 30) (by omega)
           refine AWP_ret ?_
           exact ⟨[.bool false], by simp [z123, z124, z125, z126, z127, z128, z129, z130, z131, z132, z133, z134, z135, z136, z137, z138, z139, z140, z141, z142, z143, z144, z145, z146, z147, z148, z149, z150, z151, z152, z153], 4, by simp [encL_nil, z123, z124, z125, z126, z127, z128, z129, z130, z131, z132, z133, z134, z135, z136, z137, z138, z139, z140, z141, z142, z143, z144, z145, z146, z147, z148, z149, z150, z151, z152, z153]⟩
          ·
           replace H := ifF C10 H
           refine AWP_skip ?_
           show K10 _ _
           refine keepE (l := [13, 14]) (x := [(13, .int .i64 r16.1), (14, .int .i64 r17)]) rfl fun a' ha => ?_
           refine hK10 _ _ ?_; rw [ha]
           refine Rc.mk ?_
           refine AWP_sq [] fun K11 hK11 => ?_
           refine AWP_sr tok [] [116] (fun a σ => a = [(116, .bool (ine r17 r16.1))] ∧ σ = hp E0 [(N0 + 19, some ⟨28, 5, [[.fsl (encL rMachine r4.1.Harts), .fsl (encL rBox r4.1.Boxes), .int .i64 r4.1.Turn, .int .i64 r4.1.Idle, .fsl (encL rI r4.1.Out)]]⟩), (o1, some ⟨3, 1, encL rI r12.2⟩), (o2, some ⟨46, 1, encL rL_Instr_o r13.2⟩), (M2 + 6, some ⟨28, 5, [[.sl (M6 + 34) 0 r16.2.Harts.length, .sl (M6 + 35) 0 r16.2.Boxes.length, .int .i64 r7.1.Turn, .int .i64 r7.1.Idle, .sl (M6 + 36) 0 r16.2.Out.length]]⟩), (M6 + 21, some ⟨28, 5, [[.fsl (encL rMachine r18.1.Harts), .fsl (encL rBox r18.1.Boxes), .int .i64 r18.1.Turn, .int .i64 r18.1.Idle, .fsl (encL rI r18.1.Out)]]⟩), (M6 + 34, some ⟨53, 3, encL rMachine_oo r16.2.Harts⟩), (M6 + 35, some ⟨86, 2, encL rBox_o r16.2.Boxes⟩), (M6 + 36, some ⟨3, 1, encL rI r16.2.Out⟩)] (M6 + 46)) (fun K hK => ?_) ?_
           ·
            have e0 := nq (a := N0 + 19) (b := o1) (by omega)
            have e1 := nq (a := N0 + 19) (b := o2) (by omega)
            have e2 := nq (a := N0 + 19) (b := M2 + 6) (by omega)
            have e3 := nq (a := N0 + 13) (b := M2) (by omega)
            have e4 := nq (a := N0 + 19) (b := M6 + 21) (by omega)
            have e5 := nq (a := N0) (b := M6 + 2) (by omega)
            have e6 := nq (a := N0 + 19) (b := M6 + 34) (by omega)
            have e7 := nq (a := N0) (b := M6 + 15) (by omega)
            have e8 := nq (a := N0 + 19) (b := M6 + 35) (by omega)
            have e9 := nq (a := N0) (b := M6 + 16) (by omega)
            have e10 := nq (a := N0 + 19) (b := M6 + 36) (by omega)
            have e11 := nq (a := N0) (b := M6 + 17) (by omega)
            have e12 := nq (a := o1) (b := o2) (by omega)
            have e13 := nq (a := o1) (b := M2 + 6) (by omega)
            have e14 := nq (a := o1) (b := M6 + 21) (by omega)
            have e15 := nq (a := o1) (b := M6 + 34) (by omega)
            have e16 := nq (a := o1) (b := M6 + 35) (by omega)
            have e17 := nq (a := o1) (b := M6 + 36) (by omega)
            have e18 := nq (a := o2) (b := M2 + 6) (by omega)
            have e19 := nq (a := o2) (b := M6 + 21) (by omega)
            have e20 := nq (a := o2) (b := M6 + 34) (by omega)
            have e21 := nq (a := o2) (b := M6 + 35) (by omega)
            have e22 := nq (a := o2) (b := M6 + 36) (by omega)
            have e23 := nq (a := M2 + 6) (b := M6 + 21) (by omega)
            have e24 := nq (a := M2) (b := M6 + 15) (by omega)
            have e25 := nq (a := M2 + 6) (b := M6 + 34) (by omega)
            have e26 := nq (a := M2) (b := M6 + 28) (by omega)
            have e27 := nq (a := M2 + 6) (b := M6 + 35) (by omega)
            have e28 := nq (a := M2) (b := M6 + 29) (by omega)
            have e29 := nq (a := M2 + 6) (b := M6 + 36) (by omega)
            have e30 := nq (a := M2) (b := M6 + 30) (by omega)
            simp -dsimp -implicitDefEqProofs (maxDischargeDepth := 6) [e0, e1, e2, e3, e4, e5, e6, e7, e8, e9, e10, e11, e12, e13, e14, e15, e16, e17, e18, e19, e20, e21, e22, e23, e24, e25, e26, e27, e28, e29, e30]
            exact hK _ _ ⟨rfl, rfl⟩
           rintro a σ ⟨rfl, rfl⟩
           refine AWP_cond (ine r17 r16.1) rfl (fun C11 => ?_) (fun C11 => ?_)
           ·
            replace H := ifT C11 H
            refine AWP_sr tok [] [4] (fun a σ => a = [(4, .bool false)] ∧ σ = hp E0 [(N0 + 19, some ⟨28, 5, [[.fsl (encL rMachine r4.1.Harts), .fsl (encL rBox r4.1.Boxes), .int .i64 r4.1.Turn, .int .i64 r4.1.Idle, .fsl (encL rI r4.1.Out)]]⟩), (o1, some ⟨3, 1, encL rI r12.2⟩), (o2, some ⟨46, 1, encL rL_Instr_o r13.2⟩), (M2 + 6, some ⟨28, 5, [[.sl (M6 + 34) 0 r16.2.Harts.length, .sl (M6 + 35) 0 r16.2.Boxes.length, .int .i64 r7.1.Turn, .int .i64 r7.1.Idle, .sl (M6 + 36) 0 r16.2.Out.length]]⟩), (M6 + 21, some ⟨28, 5, [[.fsl (encL rMachine r18.1.Harts), .fsl (encL rBox r18.1.Boxes), .int .i64 r18.1.Turn, .int .i64 r18.1.Idle, .fsl (encL rI r18.1.Out)]]⟩), (M6 + 34, some ⟨53, 3, encL rMachine_oo r16.2.Harts⟩), (M6 + 35, some ⟨86, 2, encL rBox_o r16.2.Boxes⟩), (M6 + 36, some ⟨3, 1, encL rI r16.2.Out⟩)] (M6 + 47)) (fun K hK => ?_) ?_
            ·
             have e0 := nq (a := N0 + 19) (b := o1) (by omega)
             have e1 := nq (a := N0 + 19) (b := o2) (by omega)
             have e2 := nq (a := N0 + 19) (b := M2 + 6) (by omega)
             have e3 := nq (a := N0 + 13) (b := M2) (by omega)
             have e4 := nq (a := N0 + 19) (b := M6 + 21) (by omega)
             have e5 := nq (a := N0) (b := M6 + 2) (by omega)
             have e6 := nq (a := N0 + 19) (b := M6 + 34) (by omega)
             have e7 := nq (a := N0) (b := M6 + 15) (by omega)
             have e8 := nq (a := N0 + 19) (b := M6 + 35) (by omega)
             have e9 := nq (a := N0) (b := M6 + 16) (by omega)
             have e10 := nq (a := N0 + 19) (b := M6 + 36) (by omega)
             have e11 := nq (a := N0) (b := M6 + 17) (by omega)
             have e12 := nq (a := o1) (b := o2) (by omega)
             have e13 := nq (a := o1) (b := M2 + 6) (by omega)
             have e14 := nq (a := o1) (b := M6 + 21) (by omega)
             have e15 := nq (a := o1) (b := M6 + 34) (by omega)
             have e16 := nq (a := o1) (b := M6 + 35) (by omega)
             have e17 := nq (a := o1) (b := M6 + 36) (by omega)
             have e18 := nq (a := o2) (b := M2 + 6) (by omega)
             have e19 := nq (a := o2) (b := M6 + 21) (by omega)
             have e20 := nq (a := o2) (b := M6 + 34) (by omega)
             have e21 := nq (a := o2) (b := M6 + 35) (by omega)
             have e22 := nq (a := o2) (b := M6 + 36) (by omega)
             have e23 := nq (a := M2 + 6) (b := M6 + 21) (by omega)
             have e24 := nq (a := M2) (b := M6 + 15) (by omega)
             have e25 := nq (a := M2 + 6) (b := M6 + 34) (by omega)
             have e26 := nq (a := M2) (b := M6 + 28) (by omega)
             have e27 := nq (a := M2 + 6) (b := M6 + 35) (by omega)
             have e28 := nq (a := M2) (b := M6 + 29) (by omega)
             have e29 := nq (a := M2 + 6) (b := M6 + 36) (by omega)
             have e30 := nq (a := M2) (b := M6 + 30) (by omega)
             simp -dsimp -implicitDefEqProofs (maxDischargeDepth := 6) [e0, e1, e2, e3, e4, e5, e6, e7, e8, e9, e10, e11, e12, e13, e14, e15, e16, e17, e18, e19, e20, e21, e22, e23, e24, e25, e26, e27, e28, e29, e30]
             exact hK _ _ ⟨rfl, rfl⟩
            rintro a σ ⟨rfl, rfl⟩
            replace H := Option.some.inj H; subst H
            refine AWP_kp [4] [(4, .bool false)] rfl ?_
            have z154 := nq (a := N0 + 19) (b := o1) (by omega)
            have z155 := nq (a := N0 + 19) (b := o2) (by omega)
            have z156 := nq (a := N0 + 19) (b := M2 + 6) (by omega)
            have z157 := nq (a := N0 + 13) (b := M2) (by omega)
            have z158 := nq (a := N0 + 19) (b := M6 + 21) (by omega)
            have z159 := nq (a := N0) (b := M6 + 2) (by omega)
            have z160 := nq (a := N0 + 19) (b := M6 + 34) (by omega)
            have z161 := nq (a := N0) (b := M6 + 15) (by omega)
            have z162 := nq (a := N0 + 19) (b := M6 + 35) (by omega)
            have z163 := nq (a := N0) (b := M6 + 16) (by omega)
            have z164 := nq (a := N0 + 19) (b := M6 + 36) (by omega)
            have z165 := nq (a := N0) (b := M6 + 17) (by omega)
            have z166 := nq (a := o1) (b := o2) (by omega)
            have z167 := nq (a := o1) (b := M2 + 6) (by omega)
            have z168 := nq (a := o1) (b := M6 + 21) (by omega)
            have z169 := nq (a := o1) (b := M6 + 34) (by omega)
            have z170 := nq (a := o1) (b := M6 + 35) (by omega)
            have z171 := nq (a := o1) (b := M6 + 36) (by omega)
            have z172 := nq (a := o2) (b := M2 + 6) (by omega)
            have z173 := nq (a := o2) (b := M6 + 21) (by omega)
            have z174 := nq (a := o2) (b := M6 + 34) (by omega)
            have z175 := nq (a := o2) (b := M6 + 35) (by omega)
            have z176 := nq (a := o2) (b := M6 + 36) (by omega)
            have z177 := nq (a := M2 + 6) (b := M6 + 21) (by omega)
            have z178 := nq (a := M2) (b := M6 + 15) (by omega)
            have z179 := nq (a := M2 + 6) (b := M6 + 34) (by omega)
            have z180 := nq (a := M2) (b := M6 + 28) (by omega)
            have z181 := nq (a := M2 + 6) (b := M6 + 35) (by omega)
            have z182 := nq (a := M2) (b := M6 + 29) (by omega)
            have z183 := nq (a := M2 + 6) (b := M6 + 36) (by omega)
            have z184 := nq (a := M2) (b := M6 + 30) (by omega)
            refine AWP_ret ?_
            exact ⟨[.bool false], by simp [z154, z155, z156, z157, z158, z159, z160, z161, z162, z163, z164, z165, z166, z167, z168, z169, z170, z171, z172, z173, z174, z175, z176, z177, z178, z179, z180, z181, z182, z183, z184], 4, by simp [encL_nil, z154, z155, z156, z157, z158, z159, z160, z161, z162, z163, z164, z165, z166, z167, z168, z169, z170, z171, z172, z173, z174, z175, z176, z177, z178, z179, z180, z181, z182, z183, z184]⟩
           ·
            replace H := ifF C11 H
            refine AWP_skip ?_
            show K11 _ _
            refine keepE (l := []) (x := []) rfl fun a' ha => ?_
            refine hK11 _ _ ?_; rw [ha]
            refine Rc.mk ?_
            refine AWP_sr tok [] [4] (fun a σ => a = [(4, .bool true)] ∧ σ = hp E0 [(N0 + 19, some ⟨28, 5, [[.fsl (encL rMachine r4.1.Harts), .fsl (encL rBox r4.1.Boxes), .int .i64 r4.1.Turn, .int .i64 r4.1.Idle, .fsl (encL rI r4.1.Out)]]⟩), (o1, some ⟨3, 1, encL rI r12.2⟩), (o2, some ⟨46, 1, encL rL_Instr_o r13.2⟩), (M2 + 6, some ⟨28, 5, [[.sl (M6 + 34) 0 r16.2.Harts.length, .sl (M6 + 35) 0 r16.2.Boxes.length, .int .i64 r7.1.Turn, .int .i64 r7.1.Idle, .sl (M6 + 36) 0 r16.2.Out.length]]⟩), (M6 + 21, some ⟨28, 5, [[.fsl (encL rMachine r18.1.Harts), .fsl (encL rBox r18.1.Boxes), .int .i64 r18.1.Turn, .int .i64 r18.1.Idle, .fsl (encL rI r18.1.Out)]]⟩), (M6 + 34, some ⟨53, 3, encL rMachine_oo r16.2.Harts⟩), (M6 + 35, some ⟨86, 2, encL rBox_o r16.2.Boxes⟩), (M6 + 36, some ⟨3, 1, encL rI r16.2.Out⟩)] (M6 + 47)) (fun K hK => ?_) ?_
            ·
             have e0 := nq (a := N0 + 19) (b := o1) (by omega)
             have e1 := nq (a := N0 + 19) (b := o2) (by omega)
             have e2 := nq (a := N0 + 19) (b := M2 + 6) (by omega)
             have e3 := nq (a := N0 + 13) (b := M2) (by omega)
             have e4 := nq (a := N0 + 19) (b := M6 + 21) (by omega)
             have e5 := nq (a := N0) (b := M6 + 2) (by omega)
             have e6 := nq (a := N0 + 19) (b := M6 + 34) (by omega)
             have e7 := nq (a := N0) (b := M6 + 15) (by omega)
             have e8 := nq (a := N0 + 19) (b := M6 + 35) (by omega)
             have e9 := nq (a := N0) (b := M6 + 16) (by omega)
             have e10 := nq (a := N0 + 19) (b := M6 + 36) (by omega)
             have e11 := nq (a := N0) (b := M6 + 17) (by omega)
             have e12 := nq (a := o1) (b := o2) (by omega)
             have e13 := nq (a := o1) (b := M2 + 6) (by omega)
             have e14 := nq (a := o1) (b := M6 + 21) (by omega)
             have e15 := nq (a := o1) (b := M6 + 34) (by omega)
             have e16 := nq (a := o1) (b := M6 + 35) (by omega)
             have e17 := nq (a := o1) (b := M6 + 36) (by omega)
             have e18 := nq (a := o2) (b := M2 + 6) (by omega)
             have e19 := nq (a := o2) (b := M6 + 21) (by omega)
             have e20 := nq (a := o2) (b := M6 + 34) (by omega)
             have e21 := nq (a := o2) (b := M6 + 35) (by omega)
             have e22 := nq (a := o2) (b := M6 + 36) (by omega)
             have e23 := nq (a := M2 + 6) (b := M6 + 21) (by omega)
             have e24 := nq (a := M2) (b := M6 + 15) (by omega)
             have e25 := nq (a := M2 + 6) (b := M6 + 34) (by omega)
             have e26 := nq (a := M2) (b := M6 + 28) (by omega)
             have e27 := nq (a := M2 + 6) (b := M6 + 35) (by omega)
             have e28 := nq (a := M2) (b := M6 + 29) (by omega)
             have e29 := nq (a := M2 + 6) (b := M6 + 36) (by omega)
             have e30 := nq (a := M2) (b := M6 + 30) (by omega)
             simp -dsimp -implicitDefEqProofs (maxDischargeDepth := 6) [e0, e1, e2, e3, e4, e5, e6, e7, e8, e9, e10, e11, e12, e13, e14, e15, e16, e17, e18, e19, e20, e21, e22, e23, e24, e25, e26, e27, e28, e29, e30]
             exact hK _ _ ⟨rfl, rfl⟩
            rintro a σ ⟨rfl, rfl⟩
            replace H := Option.some.inj H; subst H
            refine AWP_kp [4] [(4, .bool true)] rfl ?_
            have z185 := nq (a := N0 + 19) (b := o1) (by omega)
            have z186 := nq (a := N0 + 19) (b := o2) (by omega)
            have z187 := nq (a := N0 + 19) (b := M2 + 6) (by omega)
            have z188 := nq (a := N0 + 13) (b := M2) (by omega)
            have z189 := nq (a := N0 + 19) (b := M6 + 21) (by omega)
            have z190 := nq (a := N0) (b := M6 + 2) (by omega)
            have z191 := nq (a := N0 + 19) (b := M6 + 34) (by omega)
            have z192 := nq (a := N0) (b := M6 + 15) (by omega)
            have z193 := nq (a := N0 + 19) (b := M6 + 35) (by omega)
            have z194 := nq (a := N0) (b := M6 + 16) (by omega)
            have z195 := nq (a := N0 + 19) (b := M6 + 36) (by omega)
            have z196 := nq (a := N0) (b := M6 + 17) (by omega)
            have z197 := nq (a := o1) (b := o2) (by omega)
            have z198 := nq (a := o1) (b := M2 + 6) (by omega)
            have z199 := nq (a := o1) (b := M6 + 21) (by omega)
            have z200 := nq (a := o1) (b := M6 + 34) (by omega)
            have z201 := nq (a := o1) (b := M6 + 35) (by omega)
            have z202 := nq (a := o1) (b := M6 + 36) (by omega)
            have z203 := nq (a := o2) (b := M2 + 6) (by omega)
            have z204 := nq (a := o2) (b := M6 + 21) (by omega)
            have z205 := nq (a := o2) (b := M6 + 34) (by omega)
            have z206 := nq (a := o2) (b := M6 + 35) (by omega)
            have z207 := nq (a := o2) (b := M6 + 36) (by omega)
            have z208 := nq (a := M2 + 6) (b := M6 + 21) (by omega)
            have z209 := nq (a := M2) (b := M6 + 15) (by omega)
            have z210 := nq (a := M2 + 6) (b := M6 + 34) (by omega)
            have z211 := nq (a := M2) (b := M6 + 28) (by omega)
            have z212 := nq (a := M2 + 6) (b := M6 + 35) (by omega)
            have z213 := nq (a := M2) (b := M6 + 29) (by omega)
            have z214 := nq (a := M2 + 6) (b := M6 + 36) (by omega)
            have z215 := nq (a := M2) (b := M6 + 30) (by omega)
            refine AWP_ret ?_
            exact ⟨[.bool true], by simp [z185, z186, z187, z188, z189, z190, z191, z192, z193, z194, z195, z196, z197, z198, z199, z200, z201, z202, z203, z204, z205, z206, z207, z208, z209, z210, z211, z212, z213, z214, z215], 4, by simp [encL_nil, z185, z186, z187, z188, z189, z190, z191, z192, z193, z194, z195, z196, z197, z198, z199, z200, z201, z202, z203, z204, z205, z206, z207, z208, z209, z210, z211, z212, z213, z214, z215]⟩
end Go.Proofs.YtlcilhmkbmgkeaaDoor
