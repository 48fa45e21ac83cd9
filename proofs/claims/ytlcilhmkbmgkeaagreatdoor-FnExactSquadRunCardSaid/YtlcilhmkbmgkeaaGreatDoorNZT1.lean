/- The contracts of functions of the program, part 1: each computes what its mirror computes. No conditions. -/
import Derived.Test.YtlcilhmkbmgkeaaGreatDoorNZT0
set_option linter.unusedSimpArgs false
set_option linter.unusedVariables false
set_option maxRecDepth 20000
set_option maxHeartbeats 4000000
namespace Go.Proofs.YtlcilhmkbmgkeaaGreatDoor
open Go Go.Abs Go.RowKit

theorem c168 {p0 : Int} {p1 : Int} {r : Int} (H : s_l2Divide p0 p1 = some r) : APure Tryz.prog G 168 [.int .i64 p0, .int .i64 p1] (.int .i64 r) := by
 refine APure_fn (fun N0 => ?_) (by simp)
 refine fnK tok Tryz.func168 Tryz.ntmps168 Tryz.results168 ?_
 simp only [argsA, Nat.reduceAdd, hp_next]
 unfold s_l2Divide at H
 refine S0 tok [] [0, 1] ?_
 refine AWP_sq [0, 1] fun K1 hK1 => ?_
 refine S0 tok [] [0, 1, 6] ?_
 refine Cd (fun C1 => ?_) fun C1 => ?_
 ·replace H := ifT C1 H
  refine S0 tok [] [4] ?_
  obtain rfl := oi H; exact AWP_ret ⟨_, rfl, 4, by simp [encL_nil]⟩
 ·replace H := ifF C1 H
  refine AWP_skip (Jn hK1 ?_)
  obtain ⟨v1, hv1, H⟩ := bindE H
  obtain ⟨r2, hr2, H⟩ := bindE H
  refine Sx tok [] [4] (by intro K k; (repeat first | simp -dsimp -implicitDefEqProofs [hv1] | refine (c136 hr2).app ?_); exact k) ?_
  obtain rfl := oi H; exact AWP_ret ⟨_, rfl, 4, by simp [encL_nil]⟩
theorem c169 {p0 : Int} {p1 : Int} {r : Int} (H : s_l2Remain p0 p1 = some r) : APure Tryz.prog G 169 [.int .i64 p0, .int .i64 p1] (.int .i64 r) := by
 refine APure_fn (fun N0 => ?_) (by simp)
 refine fnK tok Tryz.func169 Tryz.ntmps169 Tryz.results169 ?_
 simp only [argsA, Nat.reduceAdd, hp_next]
 unfold s_l2Remain at H
 refine S0 tok [] [0, 1] ?_
 refine AWP_sq [0, 1] fun K1 hK1 => ?_
 refine S0 tok [] [0, 1, 6] ?_
 refine Cd (fun C1 => ?_) fun C1 => ?_
 ·replace H := ifT C1 H
  refine S0 tok [] [4] ?_
  obtain rfl := oi H; exact AWP_ret ⟨_, rfl, 4, by simp [encL_nil]⟩
 ·replace H := ifF C1 H
  refine AWP_skip (Jn hK1 ?_)
  obtain ⟨v1, hv1, H⟩ := bindE H
  refine Sx tok [] [4] (by intro K k; simp -dsimp -implicitDefEqProofs [hv1]; exact k) ?_
  obtain rfl := oi H; exact AWP_ret ⟨_, rfl, 4, by simp [encL_nil]⟩
theorem c158 {p0 : Int} {p1 : Int} {p2 : Int} {r : Int × Bool} (H : s_Apply p0 p1 p2 = some r) : APure Tryz.prog G 158 [.int .i64 p0, .int .i64 p1, .int .i64 p2] (.tup [.int .i64 r.1, .bool r.2]) := by
 refine APure_fn (fun N0 => ?_) (by simp)
 refine fnK tok Tryz.func158 Tryz.ntmps158 Tryz.results158 ?_
 simp only [argsA, Nat.reduceAdd, hp_next]
 unfold s_Apply at H
 refine S0 tok [] [0, 1, 2] ?_
 refine AWP_sq [0, 1, 2] fun K1 hK1 => ?_
 obtain ⟨r1, hr1, H⟩ := bindE H
 obtain ⟨g3, hg3, H⟩ := bindE H
 obtain ⟨g5, hg5, H⟩ := bindE H
 refine Sx tok [] [0, 1, 2, 20] (X := [(0, .int .i64 p0), (1, .int .i64 p1), (2, .int .i64 p2), (20, .bool g5)]) (Y := hp E0 [] (N0 + 15)) (by
  intro K k
  simp -dsimp -implicitDefEqProofs
  refine (c117 hr1).app ?_; try simp -dsimp -implicitDefEqProofs
  cases hbg3 : bnot r1
  ·replace hg3 := ifF hbg3 hg3
   obtain ⟨r2, hr2, hg3⟩ := bindE hg3
   replace hg3 := Option.some.inj hg3; subst hg3
   try simp -dsimp -implicitDefEqProofs [hbg3]
   refine (c100 hr2).app ?_; try simp -dsimp -implicitDefEqProofs [hbg3]
   cases hbg5 : (bnot r2)
   ·replace hg5 := ifF hbg5 hg5
    obtain ⟨r4, hr4, hg5⟩ := bindE hg5
    replace hg5 := Option.some.inj hg5; subst hg5
    try simp -dsimp -implicitDefEqProofs [hbg3, hbg5]
    refine (c100 hr4).app ?_; try simp -dsimp -implicitDefEqProofs [hbg3, hbg5]
    exact k
   ·replace hg5 := ifT hbg5 hg5
    replace hg5 := Option.some.inj hg5; subst hg5
    try simp -dsimp -implicitDefEqProofs [hbg3, hbg5]
    exact k
  ·replace hg3 := ifT hbg3 hg3
   replace hg3 := Option.some.inj hg3; subst hg3
   try simp -dsimp -implicitDefEqProofs [hbg3]
   replace hg5 := ifT rfl hg5
   replace hg5 := Option.some.inj hg5; subst hg5
   try simp -dsimp -implicitDefEqProofs [hbg3]
   exact k) ?_
 refine Cd (fun C1 => ?_) fun C1 => ?_
 ·replace H := ifT C1 H
  refine S0 tok [] [6, 7] ?_
  obtain rfl := oi H; exact AWP_ret ⟨_, rfl, 4, by simp [encL_nil]⟩
 ·replace H := ifF C1 H
  refine AWP_skip (Jn hK1 ?_)
  refine AWP_sq [1, 2] fun K2 hK2 => ?_
  refine S0 tok [] [1, 2, 21] ?_
  refine AWP_block (AWP_thenB ?_)
  refine S0 tok [] [1, 2, 21, 22] ?_
  refine Cd (fun C2 => ?_) fun C2 => ?_
  ·replace H := ifT C2 H
   refine S0 tok [] [6, 7] ?_
   obtain rfl := oi H; exact AWP_ret ⟨_, rfl, 4, by simp [encL_nil]⟩
  ·replace H := ifF C2 H
   refine S0 tok [] [1, 2, 21, 27] ?_
   refine Cd (fun C3 => ?_) fun C3 => ?_
   ·replace H := ifT C3 H
    refine S0 tok [] [6, 7] ?_
    obtain rfl := oi H; exact AWP_ret ⟨_, rfl, 4, by simp [encL_nil]⟩
   ·replace H := ifF C3 H
    refine S0 tok [] [1, 2, 21, 32] ?_
    refine Cd (fun C4 => ?_) fun C4 => ?_
    ·replace H := ifT C4 H
     refine S0 tok [] [6, 7] ?_
     obtain rfl := oi H; exact AWP_ret ⟨_, rfl, 4, by simp [encL_nil]⟩
    ·replace H := ifF C4 H
     refine S0 tok [] [1, 2, 21, 37] ?_
     refine Cd (fun C5 => ?_) fun C5 => ?_
     ·replace H := ifT C5 H
      obtain ⟨r6, hr6, H⟩ := bindE H
      refine Sx tok [] [6, 7] (by intro K k; (repeat first | simp -dsimp -implicitDefEqProofs | refine (c137 hr6).app ?_); exact k) ?_
      obtain rfl := oi H; exact AWP_ret ⟨_, rfl, 4, by simp [encL_nil]⟩
     ·replace H := ifF C5 H
      refine S0 tok [] [1, 2, 21, 43] ?_
      refine Cd (fun C6 => ?_) fun C6 => ?_
      ·replace H := ifT C6 H
       obtain ⟨r7, hr7, H⟩ := bindE H
       refine Sx tok [] [6, 7] (by intro K k; (repeat first | simp -dsimp -implicitDefEqProofs | refine (c137 hr7).app ?_); exact k) ?_
       obtain rfl := oi H; exact AWP_ret ⟨_, rfl, 4, by simp [encL_nil]⟩
      ·replace H := ifF C6 H
       refine S0 tok [] [1, 2, 21, 49] ?_
       refine Cd (fun C7 => ?_) fun C7 => ?_
       ·replace H := ifT C7 H
        obtain ⟨r8, hr8, H⟩ := bindE H
        refine Sx tok [] [6, 7] (by intro K k; (repeat first | simp -dsimp -implicitDefEqProofs | refine (c167 hr8).app ?_); exact k) ?_
        obtain rfl := oi H; exact AWP_ret ⟨_, rfl, 4, by simp [encL_nil]⟩
       ·replace H := ifF C7 H
        refine S0 tok [] [1, 2, 21, 54] ?_
        refine Cd (fun C8 => ?_) fun C8 => ?_
        ·replace H := ifT C8 H
         obtain ⟨r9, hr9, H⟩ := bindE H
         refine Sx tok [] [6, 7] (by intro K k; (repeat first | simp -dsimp -implicitDefEqProofs | refine (c167 hr9).app ?_); exact k) ?_
         obtain rfl := oi H; exact AWP_ret ⟨_, rfl, 4, by simp [encL_nil]⟩
        ·replace H := ifF C8 H
         refine S0 tok [] [1, 2, 21, 59] ?_
         refine Cd (fun C9 => ?_) fun C9 => ?_
         ·replace H := ifT C9 H
          obtain ⟨r10, hr10, H⟩ := bindE H
          refine Sx tok [] [6, 7] (by intro K k; (repeat first | simp -dsimp -implicitDefEqProofs | refine (c136 hr10).app ?_); exact k) ?_
          obtain rfl := oi H; exact AWP_ret ⟨_, rfl, 4, by simp [encL_nil]⟩
         ·replace H := ifF C9 H
          refine S0 tok [] [1, 2, 21, 65] ?_
          refine Cd (fun C10 => ?_) fun C10 => ?_
          ·replace H := ifT C10 H
           obtain ⟨r11, hr11, H⟩ := bindE H
           refine Sx tok [] [6, 7] (by intro K k; (repeat first | simp -dsimp -implicitDefEqProofs | refine (c136 hr11).app ?_); exact k) ?_
           obtain rfl := oi H; exact AWP_ret ⟨_, rfl, 4, by simp [encL_nil]⟩
          ·replace H := ifF C10 H
           refine S0 tok [] [1, 2, 21, 71] ?_
           refine Cd (fun C11 => ?_) fun C11 => ?_
           ·replace H := ifT C11 H
            obtain ⟨r12, hr12, H⟩ := bindE H
            refine Sx tok [] [6, 7] (by intro K k; (repeat first | simp -dsimp -implicitDefEqProofs | refine (c136 hr12).app ?_); exact k) ?_
            obtain rfl := oi H; exact AWP_ret ⟨_, rfl, 4, by simp [encL_nil]⟩
           ·replace H := ifF C11 H
            refine S0 tok [] [1, 2, 77] ?_
            refine Cd (fun C12 => ?_) fun C12 => ?_
            ·replace H := ifT C12 H
             obtain ⟨r13, hr13, H⟩ := bindE H
             refine Sx tok [] [6, 7] (by intro K k; (repeat first | simp -dsimp -implicitDefEqProofs | refine (c168 hr13).app ?_); exact k) ?_
             obtain rfl := oi H; exact AWP_ret ⟨_, rfl, 4, by simp [encL_nil]⟩
            ·replace H := ifF C12 H
             refine AWP_skip (Jn hK2 ?_)
             obtain ⟨r14, hr14, H⟩ := bindE H
             refine Sx tok [] [6, 7] (by intro K k; (repeat first | simp -dsimp -implicitDefEqProofs | refine (c169 hr14).app ?_); exact k) ?_
             obtain rfl := oi H; exact AWP_ret ⟨_, rfl, 4, by simp [encL_nil]⟩
theorem c138 {p0 : Int} {p1 : Int} {p2 : Int} {r : Int} (H : s_l44Alu p0 p1 p2 = some r) : APure Tryz.prog G 138 [.int .i64 p0, .int .i64 p1, .int .i64 p2] (.int .i64 r) := by
 refine APure_fn (fun N0 => ?_) (by simp)
 refine fnK tok Tryz.func138 Tryz.ntmps138 Tryz.results138 ?_
 simp only [argsA, Nat.reduceAdd, hp_next]
 unfold s_l44Alu at H
 refine S0 tok [] [0, 1, 2] ?_
 have q0 : ∀ σ i, buildSliceA T 24 true i 11 [(0, .int .i64 8), (1, .int .i64 9), (2, .int .i64 10), (3, .int .i64 11), (4, .int .i64 12), (5, .int .i64 3), (6, .int .i64 1), (7, .int .i64 2), (8, .int .i64 6), (9, .int .i64 7), (10, .int .i64 5)] σ = some (.fsl (encL rI ([8, 9, 10, 11, 12, 3, 1, 2, 6, 7, 5] : List Int)), σ) := fun _ _ => rfl
 refine Sx tok [0] [0, 1, 2, 7] (by intro K k; simp -dsimp -implicitDefEqProofs [q0]; exact k) ?_
 obtain ⟨v1, hv1, H⟩ := bindE H
 obtain ⟨r2, hr2, H⟩ := bindE H
 refine Sx tok [] [8] (by intro K k; (repeat first | simp -dsimp -implicitDefEqProofs [ix24 hv1] | refine (c158 hr2).app ?_); exact k) ?_
 refine S0 tok [] [6] ?_
 obtain rfl := oi H; exact AWP_ret ⟨_, rfl, 4, by simp [encL_nil]⟩
theorem c135_c0_0_moo {p0 : gMachine} {p1 : Int} {p2 : Int} {r : gMachine} (H : s_l44Set_c0_0_moo p0 p1 p2 = some r) {σ : AHeap} {w0 : Nat} {W0 : List (List AV)} {r0_ : Nat} {w0c0 : Nat} (q0 : σ.objs w0 = some ⟨63, 3, W0⟩) (g0 : W0[r0_]? = some [.sl w0c0 0 p0.Regs.length, .int .i64 p0.Pc, .osl 3 1 (encL rI p0.Mem)]) (q0c0 : σ.objs w0c0 = some ⟨3, 1, encL rI p0.Regs⟩) (d0_1 : ¬ w0 = w0c0) : ACalls Tryz.prog G 135 [.ptr w0 r0_ 0, .int .i64 p1, .int .i64 p2] σ (fun v σ' => ∃ M : Nat, σ.next ≤ M ∧ v = .tup [] ∧ σ' = hp σ.objs [(w0, some ⟨63, 3, W0.set r0_ [.osl 3 1 (encL rI r.Regs), .int .i64 r.Pc, .osl 3 1 (encL rI r.Mem)]⟩), (w0c0, none)] M) := by
 refine ACalls_fr (L := [(w0, some ⟨63, 3, W0⟩), (w0c0, some ⟨3, 1, encL rI p0.Regs⟩)]) (Q1 := fun v σ' => ∃ M : Nat, σ.next ≤ M ∧ v = .tup [] ∧ σ' = hp E0 [(w0, some ⟨63, 3, W0.set r0_ [.osl 3 1 (encL rI r.Regs), .int .i64 r.Pc, .osl 3 1 (encL rI r.Mem)]⟩), (w0c0, none)] M) (by simp [q0, q0c0]) (fun hlt => ?_) ?_ ⟨_, Tryz.func135, rfl, rfl⟩
 rotate_left
 ·rintro v σ1 ⟨M, h0, rfl, rfl⟩
  exact ⟨_, M, rfl, by simp, by simp; try omega, M, h0, rfl, rfl⟩
 generalize σ.next = N0 at hlt ⊢
 have lw0 : w0 < N0 := hlt _ (.head _) rfl
 have lw0c0 : w0c0 < N0 := hlt _ (.tail _ (.head _)) rfl
 have gs_W0 : ∀ x, (W0.set r0_ x)[r0_]? = some x := gsetW g0
 rw [← set_same g0]
 refine fnK tok Tryz.func135 Tryz.ntmps135 Tryz.results135 ?_
 simp only [argsA, Nat.reduceAdd, hp_next]
 unfold s_l44Set_c0_0_moo at H
 refine AWP_end [] fun KE hKE => ?_
 refine Sx tok [] [0, 1, 2, 7] (by
  intro K k
  have e0 := nQ w0 w0c0
  simp -dsimp -implicitDefEqProofs [e0, gs_W0, List.set_set]
  exact k) ?_
 refine Cd (fun C1 => ?_) fun C1 => ?_
 ·replace H := ifT C1 H
  obtain ⟨v1, hv1, H⟩ := bindE H
  obtain ⟨l2, hl2, H⟩ := bindE H
  refine Rt tok [] [] (by
   intro K k
   have e0 := nQ w0 w0c0
   simp -dsimp -implicitDefEqProofs [e0, gs_W0, List.set_set, ixo24 hv1, (idx_lt3 hv1).2.2, (setx_iff.1 hl2).2.symm]
   exact k) fun a ha => ?_
  (try rw [← setx_len hl2] at ha); (try rw [← setx_len hl2])
  obtain rfl := oi H
  refine hKE _ _ ?_; rw [ha]
  refine Rc.kp [] [] rfl ?_
  refine gP Rc_ref w0 r0_ 0 ?_ (hr := by exact gs_W0 _)
  refine Rc.mk ?_
  refine ⟨[], by simp [gs_W0], N0 + 10, by omega, ?_, ?_⟩
  ·simp [encL_nil]
  ·symm; first | exact hp_tail (L := [(w0, some ⟨63, 3, W0.set r0_ [.osl 3 1 (encL rI l2), .int .i64 p0.Pc, .osl 3 1 (encL rI p0.Mem)]⟩)]) | (simp only [List.set_set]; exact hp_tail (L := [(w0, some ⟨63, 3, W0.set r0_ [.osl 3 1 (encL rI l2), .int .i64 p0.Pc, .osl 3 1 (encL rI p0.Mem)]⟩)]))
 ·replace H := ifF C1 H
  refine AWP_skip ?_
  show KE _ _
  refine kE [] fun a' ha => ?_
  obtain rfl := oi H
  refine hKE _ _ ?_; rw [ha]
  refine Rc.kp [] [] rfl ?_
  refine gP Rc_ref w0 r0_ 0 ?_ (hr := by exact gs_W0 _)
  refine Rc.mk ?_
  refine ⟨[], by simp [gs_W0], N0 + 2, by omega, ?_, ?_⟩
  ·simp [encL_nil]
  ·symm; first | exact hp_tail (L := [(w0, some ⟨63, 3, W0.set r0_ [.osl 3 1 (encL rI p0.Regs), .int .i64 p0.Pc, .osl 3 1 (encL rI p0.Mem)]⟩)]) | (simp only [List.set_set]; exact hp_tail (L := [(w0, some ⟨63, 3, W0.set r0_ [.osl 3 1 (encL rI p0.Regs), .int .i64 p0.Pc, .osl 3 1 (encL rI p0.Mem)]⟩)]))
theorem c105 {p0 : gMachine} {p1 : gInstr} {r : Bool × gMachine} (H : s_l44Do p0 p1 = some r) {σ : AHeap} {w0 : Nat} {W0 : List (List AV)} {r0_ : Nat} (q0 : σ.objs w0 = some ⟨63, 3, W0⟩) (g0 : W0[r0_]? = some [.osl 3 1 (encL rI p0.Regs), .int .i64 p0.Pc, .osl 3 1 (encL rI p0.Mem)]) : ACalls Tryz.prog G 105 [.ptr w0 r0_ 0, .agg [.int .i64 p1.Op, .int .i64 p1.Rd, .int .i64 p1.Rs, .int .i64 p1.Rt, .int .i64 p1.Imm]] σ (fun v σ' => ∃ M : Nat, σ.next ≤ M ∧ v = .bool r.1 ∧ σ' = hp σ.objs [(w0, some ⟨63, 3, W0.set r0_ [.osl 3 1 (encL rI r.2.Regs), .int .i64 r.2.Pc, .osl 3 1 (encL rI r.2.Mem)]⟩)] M) := by
 refine ACalls_fr (L := [(w0, some ⟨63, 3, W0⟩)]) (Q1 := fun v σ' => ∃ M : Nat, σ.next ≤ M ∧ v = .bool r.1 ∧ σ' = hp E0 [(w0, some ⟨63, 3, W0.set r0_ [.osl 3 1 (encL rI r.2.Regs), .int .i64 r.2.Pc, .osl 3 1 (encL rI r.2.Mem)]⟩)] M) (by simp [q0]) (fun hlt => ?_) ?_ ⟨_, Tryz.func105, rfl, rfl⟩
 rotate_left
 ·rintro v σ1 ⟨M, h0, rfl, rfl⟩
  exact ⟨_, M, rfl, by simp, by simp; try omega, M, h0, rfl, rfl⟩
 generalize σ.next = N0 at hlt ⊢
 have lw0 : w0 < N0 := hlt _ (.head _) rfl
 have gs_W0 : ∀ x, (W0.set r0_ x)[r0_]? = some x := gsetW g0
 rw [← set_same g0]
 refine fnK tok Tryz.func105 Tryz.ntmps105 Tryz.results105 ?_
 simp only [argsA, Nat.reduceAdd, hp_next]
 unfold s_l44Do at H
 refine Sx tok [0] [0, 3] (by intro K k; simp -dsimp -implicitDefEqProofs [gs_W0, List.set_set]; exact k) ?_
 refine gU AWP_ref w0 r0_ 0 ?_ (hr := by exact gs_W0 _)
 obtain ⟨v1, hv1, H⟩ := bindE H
 refine Sd tok tokM [] [3, 6, 7] [0, 1, 2, 4, 5, 3, 6, 7, 8] [0, 3, 5] (by
  intro K k
  have e0 := nQ w0 (N0 + 2)
  simp only [pickL, nthO_succ, nthO_zero]
  simp -dsimp -implicitDefEqProofs [e0, gs_W0, List.set_set, ixo24 hv1, (idx_lt3 hv1).2.2]
  exact k) ?_
 obtain ⟨flj1, hflj1, H⟩ := bindE H
 refine AWP_seq (AWP_named fun K1 hK1 => ?_)
 have hJ1 : ∀ (j1 : gMachine) a σ, flj1 = .next j1 → Rc G 88 N0 (fun a σ => ∃ M1 : Nat, N0 ≤ M1 ∧ a = [(0, .ptr w0 r0_ 0)] ∧ σ = hp E0 [(w0, some ⟨63, 3, W0.set r0_ [.osl 3 1 (encL rI j1.Regs), .int .i64 j1.Pc, .osl 3 1 (encL rI j1.Mem)]⟩)] M1) (AAct.keep a [0]) σ → K1 a σ := by
  rintro j1 a σ hfl ⟨b, τ, hr, M1, fM1_0, rfl, rfl⟩
  subst hfl; dsimp only at H
  refine hK1 _ _ (AWP_keep [0] (AWP_ref hr ?_))
  refine Sx tok [] [] (by intro K k; simp -dsimp -implicitDefEqProofs [gs_W0, List.set_set]; exact k) ?_
  refine Sx tok [] [4] (by intro K k; simp -dsimp -implicitDefEqProofs [gs_W0, List.set_set]; exact k) ?_
  obtain rfl := oi H
  refine Kp [4] ?_
  refine AWP_ret ?_
  refine ⟨[.bool true], by simp [gs_W0], M1 + 10, by omega, ?_, ?_⟩
  ·simp [encL_nil]
  ·first | rfl | simp [List.set_set]
 have Gj1 := H; replace H := hflj1
 refine Sx tok [] [0, 3, 5, 15] (by
  intro K k
  have e0 := nQ w0 (N0 + 2)
  simp -dsimp -implicitDefEqProofs [e0, gs_W0, List.set_set]
  exact k) ?_
 refine AWP_block (AWP_thenB ?_)
 obtain ⟨j2, hj2, H⟩ := bindE H
 refine AWP_seq (AWP_named fun K3 hK3 => ?_)
 have hJ2 : ∀ a σ, Rc G 88 N0 (fun a σ => ∃ M2 : Nat, N0 ≤ M2 ∧ a = [(0, .ptr w0 r0_ 0), (3, .fptr [.int .i64 p1.Op, .int .i64 p1.Rd, .int .i64 p1.Rs, .int .i64 p1.Rt, .int .i64 p1.Imm] 0), (5, .int .i64 v1), (15, .int .i64 p1.Op), (32, .bool j2)] ∧ σ = hp E0 [(w0, some ⟨63, 3, W0.set r0_ [.osl 3 1 (encL rI p0.Regs), .int .i64 p0.Pc, .osl 3 1 (encL rI p0.Mem)]⟩)] M2) (a.keep [0, 3, 5, 15, 32]) σ → K3 a σ := by
  rintro a σ ⟨b, τ, hr, M2, fM2_0, rfl, rfl⟩
  refine hK3 _ _ (AWP_keep [0, 3, 5, 15, 32] (AWP_ref hr ?_))
  refine Cd (fun C1 => ?_) fun C1 => ?_
  ·replace H := ifT C1 H
   obtain ⟨r4, hr4, H⟩ := bindE H
   refine AWP_sr tok [] [4] (fun a σ => ∃ M3 : Nat, M2 + 4 ≤ M3 ∧ a = [(4, .bool r4.1)] ∧ σ = hp E0 [(w0, some ⟨63, 3, W0.set r0_ [.osl 3 1 (encL rI r4.2.Regs), .int .i64 r4.2.Pc, .osl 3 1 (encL rI r4.2.Mem)]⟩)] M3) (fun K hK => ?_) ?_
   ·skip
    simp -dsimp -implicitDefEqProofs [gs_W0, List.set_set]
    refine (c133 (W0 := W0.set r0_ [.osl 3 1 (encL rI p0.Regs), .int .i64 p0.Pc, .osl 3 1 (encL rI p0.Mem)]) (r0_ := r0_) (H := hr4) (by simp [gs_W0, List.set_set]) (by simp [gs_W0, List.set_set])).mono ?_; rintro _ _ ⟨M3, fM3_0, rfl, rfl⟩; simp only [hp_next] at fM3_0
    try simp -dsimp -implicitDefEqProofs [gs_W0, List.set_set, hp_over_some, hp_over_none]
    exact hK _ _ ⟨M3, (by omega), rfl, rfl⟩
   rintro a σ ⟨M3, fM3_0, rfl, rfl⟩
   obtain ⟨z, hz, H⟩ := bindE H
   obtain rfl := oi H; dsimp only at Gj1; obtain rfl := oi Gj1; have H := hz
   obtain rfl := oi H
   refine Kp [4] ?_
   refine AWP_ret ?_
   refine ⟨[.bool r4.1], by simp [gs_W0], M3, by omega, ?_, ?_⟩
   ·simp [encL_nil]
   ·first | rfl | simp [List.set_set]
  ·replace H := ifF C1 H
   obtain ⟨j3, hj3, H⟩ := bindE H
   refine AWP_seq (AWP_named fun K2 hK2 => ?_)
   have hJ3 : ∀ a σ, Rc G 88 N0 (fun a σ => ∃ M4 : Nat, N0 ≤ M4 ∧ a = [(0, .ptr w0 r0_ 0), (3, .fptr [.int .i64 p1.Op, .int .i64 p1.Rd, .int .i64 p1.Rs, .int .i64 p1.Rt, .int .i64 p1.Imm] 0), (5, .int .i64 v1), (15, .int .i64 p1.Op), (38, .bool j3)] ∧ σ = hp E0 [(w0, some ⟨63, 3, W0.set r0_ [.osl 3 1 (encL rI p0.Regs), .int .i64 p0.Pc, .osl 3 1 (encL rI p0.Mem)]⟩)] M4) (a.keep [0, 3, 5, 15, 38]) σ → K2 a σ := by
    rintro a σ ⟨b, τ, hr, M4, fM4_0, rfl, rfl⟩
    refine hK2 _ _ (AWP_keep [0, 3, 5, 15, 38] (AWP_ref hr ?_))
    refine Cd (fun C2 => ?_) fun C2 => ?_
    ·replace H := ifT C2 H
     obtain ⟨r6, hr6, H⟩ := bindE H
     refine AWP_sr tok [] [] (fun a σ => ∃ M5 : Nat, M4 + 3 ≤ M5 ∧ a = [] ∧ σ = hp E0 [(w0, some ⟨63, 3, W0.set r0_ [.osl 3 1 (encL rI r6.Regs), .int .i64 r6.Pc, .osl 3 1 (encL rI r6.Mem)]⟩)] M5) (fun K hK => ?_) ?_
     ·skip
      simp -dsimp -implicitDefEqProofs [gs_W0, List.set_set]
      refine (c134_moo (W0 := W0.set r0_ [.osl 3 1 (encL rI p0.Regs), .int .i64 p0.Pc, .osl 3 1 (encL rI p0.Mem)]) (r0_ := r0_) (H := hr6) (by simp [gs_W0, List.set_set]) (by simp [gs_W0, List.set_set])).mono ?_; rintro _ _ ⟨M5, fM5_0, rfl, rfl⟩; simp only [hp_next] at fM5_0
      try simp -dsimp -implicitDefEqProofs [gs_W0, List.set_set, hp_over_some, hp_over_none]
      exact hK _ _ ⟨M5, (by omega), rfl, rfl⟩
     rintro a σ ⟨M5, fM5_0, rfl, rfl⟩
     refine Sx tok [] [4] (by intro K k; simp -dsimp -implicitDefEqProofs [gs_W0, List.set_set]; exact k) ?_
     obtain ⟨z, hz, H⟩ := bindE H
     obtain rfl := oi H; dsimp only at Gj1; obtain rfl := oi Gj1; have H := hz
     obtain rfl := oi H
     refine Kp [4] ?_
     refine AWP_ret ?_
     refine ⟨[.bool true], by simp [gs_W0], M5 + 1, by omega, ?_, ?_⟩
     ·simp [encL_nil]
     ·first | rfl | simp [List.set_set]
    ·replace H := ifF C2 H
     refine Sx tok [] [0, 3, 5, 15, 46] (by intro K k; simp -dsimp -implicitDefEqProofs [gs_W0, List.set_set]; exact k) ?_
     refine Cd (fun C3 => ?_) fun C3 => ?_
     ·replace H := ifT C3 H
      obtain ⟨r7, hr7, H⟩ := bindE H
      obtain ⟨r8, hr8, H⟩ := bindE H
      refine AWP_rd tok tokM [] [8] [0, 1, 2, 3, 4, 5, 6, 7, 8] [0] (fun a σ => ∃ M6 : Nat, M4 + 11 ≤ M6 ∧ a = [(0, .ptr w0 r0_ 0)] ∧ σ = hp E0 [(w0, some ⟨63, 3, W0.set r0_ [.osl 3 1 (encL rI r8.Regs), .int .i64 r8.Pc, .osl 3 1 (encL rI r8.Mem)]⟩)] M6) (by decide) (fun K hK => ?_) ?_
      ·simp only [pickL, nthO_succ, nthO_zero]
       simp -dsimp -implicitDefEqProofs [gs_W0, List.set_set]
       refine Pc.mk (c136 hr7) ?_; try simp -dsimp -implicitDefEqProofs [gs_W0, List.set_set]
       refine (c135_moo (W0 := W0.set r0_ [.osl 3 1 (encL rI p0.Regs), .int .i64 p0.Pc, .osl 3 1 (encL rI p0.Mem)]) (r0_ := r0_) (H := hr8) (by simp [gs_W0, List.set_set]) (by simp [gs_W0, List.set_set])).mono ?_; rintro _ _ ⟨M6, fM6_0, rfl, rfl⟩; simp only [hp_next] at fM6_0
       try simp -dsimp -implicitDefEqProofs [gs_W0, List.set_set, hp_over_some, hp_over_none]
       exact hK _ _ ⟨M6, (by omega), rfl, rfl⟩
      rintro a σ ⟨M6, fM6_0, ha, rfl⟩
      replace H := oi H
      refine hJ1 _ _ _ H.symm ?_; rw [ha]
      exact Rf ⟨M6, (by omega), rfl, rfl⟩
     ·replace H := ifF C3 H
      refine Sx tok [] [0, 3, 5, 15, 57] (by intro K k; simp -dsimp -implicitDefEqProofs [gs_W0, List.set_set]; exact k) ?_
      refine Cd (fun C4 => ?_) fun C4 => ?_
      ·replace H := ifT C4 H
       obtain ⟨r9, hr9, H⟩ := bindE H
       obtain ⟨r10, hr10, H⟩ := bindE H
       obtain ⟨r11, hr11, H⟩ := bindE H
       obtain ⟨r12, hr12, H⟩ := bindE H
       refine AWP_rd tok tokM [] [10] [0, 1, 2, 3, 4, 5, 6, 7, 8, 9, 10] [0] (fun a σ => ∃ M7 : Nat, M4 + 15 ≤ M7 ∧ a = [(0, .ptr w0 r0_ 0)] ∧ σ = hp E0 [(w0, some ⟨63, 3, W0.set r0_ [.osl 3 1 (encL rI r12.Regs), .int .i64 r12.Pc, .osl 3 1 (encL rI r12.Mem)]⟩)] M7) (by decide) (fun K hK => ?_) ?_
       ·simp only [pickL, nthO_succ, nthO_zero]
        simp -dsimp -implicitDefEqProofs [gs_W0, List.set_set]
        refine Pc.mk (c104 hr9) ?_; try simp -dsimp -implicitDefEqProofs [gs_W0, List.set_set]
        refine Pc.mk (c104 hr10) ?_; try simp -dsimp -implicitDefEqProofs [gs_W0, List.set_set]
        refine Pc.mk (c137 hr11) ?_; try simp -dsimp -implicitDefEqProofs [gs_W0, List.set_set]
        refine (c135_moo (W0 := W0.set r0_ [.osl 3 1 (encL rI p0.Regs), .int .i64 p0.Pc, .osl 3 1 (encL rI p0.Mem)]) (r0_ := r0_) (H := hr12) (by simp [gs_W0, List.set_set]) (by simp [gs_W0, List.set_set])).mono ?_; rintro _ _ ⟨M7, fM7_0, rfl, rfl⟩; simp only [hp_next] at fM7_0
        try simp -dsimp -implicitDefEqProofs [gs_W0, List.set_set, hp_over_some, hp_over_none]
        exact hK _ _ ⟨M7, (by omega), rfl, rfl⟩
       rintro a σ ⟨M7, fM7_0, ha, rfl⟩
       replace H := oi H
       refine hJ1 _ _ _ H.symm ?_; rw [ha]
       exact Rf ⟨M7, (by omega), rfl, rfl⟩
      ·replace H := ifF C4 H
       refine Sx tok [] [0, 3, 5, 70] (by intro K k; simp -dsimp -implicitDefEqProofs [gs_W0, List.set_set]; exact k) ?_
       refine Cd (fun C5 => ?_) fun C5 => ?_
       ·replace H := ifT C5 H
        obtain ⟨r13, hr13, H⟩ := bindE H
        obtain ⟨r14, hr14, H⟩ := bindE H
        refine AWP_rd tok tokM [] [7] [0, 1, 2, 3, 4, 5, 6, 7] [0] (fun a σ => ∃ M8 : Nat, M4 + 14 ≤ M8 ∧ a = [(0, .ptr w0 r0_ 0)] ∧ σ = hp E0 [(w0, some ⟨63, 3, W0.set r0_ [.osl 3 1 (encL rI r14.Regs), .int .i64 r14.Pc, .osl 3 1 (encL rI r14.Mem)]⟩)] M8) (by decide) (fun K hK => ?_) ?_
        ·simp only [pickL, nthO_succ, nthO_zero]
         simp -dsimp -implicitDefEqProofs [gs_W0, List.set_set]
         refine Pc.mk (c136 hr13) ?_; try simp -dsimp -implicitDefEqProofs [gs_W0, List.set_set]
         refine (c135_moo (W0 := W0.set r0_ [.osl 3 1 (encL rI p0.Regs), .int .i64 p0.Pc, .osl 3 1 (encL rI p0.Mem)]) (r0_ := r0_) (H := hr14) (by simp [gs_W0, List.set_set]) (by simp [gs_W0, List.set_set])).mono ?_; rintro _ _ ⟨M8, fM8_0, rfl, rfl⟩; simp only [hp_next] at fM8_0
         try simp -dsimp -implicitDefEqProofs [gs_W0, List.set_set, hp_over_some, hp_over_none]
         exact hK _ _ ⟨M8, (by omega), rfl, rfl⟩
        rintro a σ ⟨M8, fM8_0, ha, rfl⟩
        replace H := oi H
        refine hJ1 _ _ _ H.symm ?_; rw [ha]
        exact Rf ⟨M8, (by omega), rfl, rfl⟩
       ·replace H := ifF C5 H
        refine gU AWP_ref w0 r0_ 0 ?_ (hr := by exact gs_W0 _)
        obtain ⟨v15, hv15, H⟩ := bindE H
        obtain ⟨r16, hr16, H⟩ := bindE H
        obtain ⟨r17, hr17, H⟩ := bindE H
        refine AWP_rd tok tokM [] [9, 12, 13, 15] [0, 1, 2, 3, 4, 5, 6, 7, 8, 10, 11, 9, 12, 13, 14, 15] [0] (fun a σ => ∃ M9 : Nat, M4 + 23 ≤ M9 ∧ a = [(0, .ptr w0 r0_ 0)] ∧ σ = hp E0 [(w0, some ⟨63, 3, W0.set r0_ [.osl 3 1 (encL rI r17.Regs), .int .i64 r17.Pc, .osl 3 1 (encL rI r17.Mem)]⟩)] M9) (by decide) (fun K hK => ?_) ?_
        ·simp only [pickL, nthO_succ, nthO_zero]
         have e0 := nQ w0 (M4 + 6)
         simp -dsimp -implicitDefEqProofs [e0, gs_W0, List.set_set, ixo24 hv15, (idx_lt3 hv15).2.2]
         refine Pc.mk (c138 hr16) ?_; try simp -dsimp -implicitDefEqProofs [e0, gs_W0, List.set_set, ixo24 hv15, (idx_lt3 hv15).2.2]
         refine (c135_c0_0_moo (w0c0 := M4 + 6) (W0 := W0.set r0_ [.sl (M4 + 6) 0 p0.Regs.length, .int .i64 p0.Pc, .osl 3 1 (encL rI p0.Mem)]) (r0_ := r0_) (H := hr17) (by simp [e0, gs_W0, List.set_set, ixo24 hv15, (idx_lt3 hv15).2.2]) (by simp [e0, gs_W0, List.set_set, ixo24 hv15, (idx_lt3 hv15).2.2]) (by simp [e0, gs_W0, List.set_set, ixo24 hv15, (idx_lt3 hv15).2.2]) (by simp [e0, gs_W0, List.set_set, ixo24 hv15, (idx_lt3 hv15).2.2])).mono ?_; rintro _ _ ⟨M9, fM9_0, rfl, rfl⟩; simp only [hp_next] at fM9_0
         try simp -dsimp -implicitDefEqProofs [e0, gs_W0, List.set_set, ixo24 hv15, (idx_lt3 hv15).2.2, hp_over_some, hp_over_none]
         exact hK _ _ ⟨M9, (by omega), rfl, rfl⟩
        rintro a σ ⟨M9, fM9_0, ha, rfl⟩
        replace H := oi H
        refine hJ1 _ _ _ H.symm ?_; rw [ha]
        exact Rf ⟨M9, (by omega), rfl, rfl⟩
   replace H := hj3
   refine Sx tok [] [0, 3, 5, 15, 38] (by intro K k; simp -dsimp -implicitDefEqProofs [gs_W0, List.set_set]; exact k) ?_
   refine Cd (fun C6 => ?_) fun C6 => ?_
   ·replace H := ifT C6 H
    refine AWP_skip ?_
    show K2 _ _
    refine kE [0, 3, 5, 15, 38] fun a' ha => ?_
    obtain rfl := oi H
    refine hJ3 _ _ ?_; rw [ha]
    exact Rf ⟨M2 + 2, (by omega), rfl, rfl⟩
   ·replace H := ifF C6 H
    refine Sx tok [] [0, 3, 5, 15, 38] (by intro K k; simp -dsimp -implicitDefEqProofs [gs_W0, List.set_set]; exact k) ?_
    refine Cd (fun C7 => ?_) fun C7 => ?_
    ·replace H := ifT C7 H
     refine AWP_skip ?_
     show K2 _ _
     refine kE [0, 3, 5, 15, 38] fun a' ha => ?_
     obtain rfl := oi H
     refine hJ3 _ _ ?_; rw [ha]
     exact Rf ⟨M2 + 4, (by omega), rfl, rfl⟩
    ·replace H := ifF C7 H
     refine Sx tok [] [0, 3, 5, 15, 38] (by intro K k; simp -dsimp -implicitDefEqProofs [gs_W0, List.set_set]; exact k) ?_
     refine Cd (fun C8 => ?_) fun C8 => ?_
     ·replace H := ifT C8 H
      refine AWP_skip ?_
      show K2 _ _
      refine kE [0, 3, 5, 15, 38] fun a' ha => ?_
      obtain rfl := oi H
      refine hJ3 _ _ ?_; rw [ha]
      exact Rf ⟨M2 + 6, (by omega), rfl, rfl⟩
     ·replace H := ifF C8 H
      refine Rt tok [] [0, 3, 5, 15, 38] (by intro K k; simp -dsimp -implicitDefEqProofs [gs_W0, List.set_set]; exact k) fun a ha => ?_
      obtain rfl := oi H
      refine hJ3 _ _ ?_; rw [ha]
      exact Rf ⟨M2 + 8, (by omega), rfl, rfl⟩
 replace H := hj2
 refine Sx tok [] [0, 3, 5, 15, 32] (by
  intro K k
  have e0 := nQ w0 (N0 + 2)
  simp -dsimp -implicitDefEqProofs [e0, gs_W0, List.set_set]
  exact k) ?_
 refine Cd (fun C9 => ?_) fun C9 => ?_
 ·replace H := ifT C9 H
  refine AWP_skip ?_
  show K3 _ _
  refine kE [0, 3, 5, 15, 32] fun a' ha => ?_
  obtain rfl := oi H
  refine hJ2 _ _ ?_; rw [ha]
  refine gP Rc_ref w0 r0_ 0 ?_ (hr := by exact gs_W0 _)
  exact Rf ⟨N0 + 16, (by omega), rfl, rfl⟩
 ·replace H := ifF C9 H
  refine Rt tok [] [0, 3, 5, 15, 32] (by
   intro K k
   have e0 := nQ w0 (N0 + 2)
   simp -dsimp -implicitDefEqProofs [e0, gs_W0, List.set_set]
   exact k) fun a ha => ?_
  obtain rfl := oi H
  refine hJ2 _ _ ?_; rw [ha]
  refine gP Rc_ref w0 r0_ 0 ?_ (hr := by exact gs_W0 _)
  exact Rf ⟨N0 + 18, (by omega), rfl, rfl⟩
theorem c59 {p0 : gMachine} {r : Int × gMachine} (H : s_l44Step p0 = some r) {σ : AHeap} {w0 : Nat} {W0 : List (List AV)} {r0_ : Nat} (q0 : σ.objs w0 = some ⟨63, 3, W0⟩) (g0 : W0[r0_]? = some [.osl 3 1 (encL rI p0.Regs), .int .i64 p0.Pc, .osl 3 1 (encL rI p0.Mem)]) : ACalls Tryz.prog G 59 [.ptr w0 r0_ 0] σ (fun v σ' => ∃ M : Nat, σ.next ≤ M ∧ v = .int .i64 r.1 ∧ σ' = hp σ.objs [(w0, some ⟨63, 3, W0.set r0_ [.osl 3 1 (encL rI r.2.Regs), .int .i64 r.2.Pc, .osl 3 1 (encL rI r.2.Mem)]⟩)] M) := by
 refine ACalls_fr (L := [(w0, some ⟨63, 3, W0⟩)]) (Q1 := fun v σ' => ∃ M : Nat, σ.next ≤ M ∧ v = .int .i64 r.1 ∧ σ' = hp E0 [(w0, some ⟨63, 3, W0.set r0_ [.osl 3 1 (encL rI r.2.Regs), .int .i64 r.2.Pc, .osl 3 1 (encL rI r.2.Mem)]⟩)] M) (by simp [q0]) (fun hlt => ?_) ?_ ⟨_, Tryz.func59, rfl, rfl⟩
 rotate_left
 ·rintro v σ1 ⟨M, h0, rfl, rfl⟩
  exact ⟨_, M, rfl, by simp, by simp; try omega, M, h0, rfl, rfl⟩
 generalize σ.next = N0 at hlt ⊢
 have lw0 : w0 < N0 := hlt _ (.head _) rfl
 have gs_W0 : ∀ x, (W0.set r0_ x)[r0_]? = some x := gsetW g0
 rw [← set_same g0]
 refine fnK tok Tryz.func59 Tryz.ntmps59 Tryz.results59 ?_
 simp only [argsA, Nat.reduceAdd, hp_next]
 unfold s_l44Step at H
 refine Sx tok [] [0] (by intro K k; simp -dsimp -implicitDefEqProofs [gs_W0, List.set_set]; exact k) ?_
 refine AWP_sq [0] fun K1 hK1 => ?_
 refine gU AWP_ref w0 r0_ 2 ?_ (hr := by exact gs_W0 _)
 obtain ⟨r1, hr1, H⟩ := bindE H
 refine AWP_sd tok tokM [] [3, 7, 8] [0, 1, 2, 4, 5, 6, 3, 7, 8, 9] [0, 14] (fun a σ => a = [(0, .ptr w0 r0_ 0), (14, .bool (bnot r1))] ∧ σ = hp E0 [(w0, some ⟨63, 3, W0.set r0_ [.osl 3 1 (encL rI p0.Regs), .int .i64 p0.Pc, .sl (N0 + 1) 0 p0.Mem.length]⟩), (N0 + 1, some ⟨3, 1, encL rI p0.Mem⟩)] (N0 + 12)) (by decide) (fun K hK => ?_) ?_
 ·simp only [pickL, nthO_succ, nthO_zero]
  have e0 := nQ w0 (N0 + 1)
  simp -dsimp -implicitDefEqProofs [e0, gs_W0, List.set_set]
  refine (borrow 8 (c102 hr1) (by simp [e0, gs_W0, List.set_set]) rfl).mono ?_; rintro _ _ ⟨rfl, rfl⟩; try simp -dsimp -implicitDefEqProofs [e0, gs_W0, List.set_set]
  exact hK _ _ ⟨rfl, rfl⟩
 rintro a σ ⟨rfl, rfl⟩
 refine Cd (fun C1 => ?_) fun C1 => ?_
 ·replace H := ifT C1 H
  refine Sx tok [] [2] (by
   intro K k
   have e0 := nQ w0 (N0 + 1)
   simp -dsimp -implicitDefEqProofs [e0, gs_W0, List.set_set]
   exact k) ?_
  obtain rfl := oi H
  refine Kp [2] ?_
  refine gP AWP_ref w0 r0_ 2 ?_ (hr := by exact gs_W0 _)
  refine AWP_ret ?_
  refine ⟨[.int .i64 3], by simp [gs_W0], N0 + 13, by omega, ?_, ?_⟩
  ·simp [encL_nil]
  ·first | rfl | simp [List.set_set]
 ·replace H := ifF C1 H
  refine AWP_skip (Jn hK1 ?_)
  refine gP AWP_ref w0 r0_ 2 ?_ (hr := by exact gs_W0 _)
  refine gU AWP_ref w0 r0_ 2 ?_ (hr := by exact gs_W0 _)
  obtain ⟨v2, hv2, H⟩ := bindE H
  obtain ⟨v3, hv3, H⟩ := bindE H
  obtain ⟨r4, hr4, H⟩ := bindE H
  obtain ⟨r5, hr5, H⟩ := bindE H
  refine Sd tok tokM [] [3, 7, 8, 9, 10, 16, 17] [0, 1, 2, 4, 5, 6, 3, 7, 8, 9, 10, 11, 12, 13, 14, 15, 16, 17, 18] [0, 3, 4] (by
   intro K k
   have e0 := nQ w0 (N0 + 12)
   have e1 := nQ w0 (N0 + 29)
   simp only [pickL, nthO_succ, nthO_zero]
   repeat first | simp -dsimp -implicitDefEqProofs [e0, e1, gs_W0, List.set_set, hv2, ixo24 hv3, (idx_lt3 hv3).2.2] | refine Pc.mk (c104 hr4) ?_ | refine Pc.mk (c103 hr5) ?_
   exact k) ?_
  refine AWP_sq [0, 3] fun K2 hK2 => ?_
  refine Sx tok [] [0, 3, 32] (by
   intro K k
   have e0 := nQ w0 (N0 + 12)
   have e1 := nQ w0 (N0 + 29)
   simp -dsimp -implicitDefEqProofs [e0, e1, gs_W0, List.set_set]
   exact k) ?_
  refine Cd (fun C2 => ?_) fun C2 => ?_
  ·replace H := ifT C2 H
   refine Sx tok [] [2] (by
    intro K k
    have e0 := nQ w0 (N0 + 12)
    have e1 := nQ w0 (N0 + 29)
    simp -dsimp -implicitDefEqProofs [e0, e1, gs_W0, List.set_set]
    exact k) ?_
   obtain rfl := oi H
   refine Kp [2] ?_
   refine gP AWP_ref w0 r0_ 2 ?_ (hr := by exact gs_W0 _)
   have z0 := nQ w0 (N0 + 29)
   refine gDrop AWP_ref [(w0, some ⟨63, 3, W0.set r0_ [.osl 3 1 (encL rI p0.Regs), .int .i64 p0.Pc, .osl 3 1 (encL rI p0.Mem)]⟩)] (hp_skip (AHeap.Sub.trans (AHeap.Sub.refl _) (hp_drop rfl (by simp; try omega)))) ?_
   refine AWP_ret ?_
   refine ⟨[.int .i64 3], by simp [z0, gs_W0], N0 + 35, by omega, ?_, ?_⟩
   ·simp [encL_nil]
   ·first | rfl | simp [List.set_set]
  ·replace H := ifF C2 H
   refine AWP_skip (Jn hK2 ?_)
   refine AWP_sq [0, 3] fun K3 hK3 => ?_
   refine Sx tok [] [0, 3, 35] (by
    intro K k
    have e0 := nQ w0 (N0 + 12)
    have e1 := nQ w0 (N0 + 29)
    simp -dsimp -implicitDefEqProofs [e0, e1, gs_W0, List.set_set]
    exact k) ?_
   refine Cd (fun C3 => ?_) fun C3 => ?_
   ·replace H := ifT C3 H
    refine Sx tok [] [2] (by
     intro K k
     have e0 := nQ w0 (N0 + 12)
     have e1 := nQ w0 (N0 + 29)
     simp -dsimp -implicitDefEqProofs [e0, e1, gs_W0, List.set_set]
     exact k) ?_
    obtain rfl := oi H
    refine Kp [2] ?_
    refine gP AWP_ref w0 r0_ 2 ?_ (hr := by exact gs_W0 _)
    have z1 := nQ w0 (N0 + 29)
    refine gDrop AWP_ref [(w0, some ⟨63, 3, W0.set r0_ [.osl 3 1 (encL rI p0.Regs), .int .i64 p0.Pc, .osl 3 1 (encL rI p0.Mem)]⟩)] (hp_skip (AHeap.Sub.trans (AHeap.Sub.refl _) (hp_drop rfl (by simp; try omega)))) ?_
    refine AWP_ret ?_
    refine ⟨[.int .i64 2], by simp [z1, gs_W0], N0 + 38, by omega, ?_, ?_⟩
    ·simp [encL_nil]
    ·first | rfl | simp [List.set_set]
   ·replace H := ifF C3 H
    refine AWP_skip (Jn hK3 ?_)
    refine AWP_sq [] fun K4 hK4 => ?_
    refine gP AWP_ref w0 r0_ 2 ?_ (hr := by exact gs_W0 _)
    obtain ⟨r6, hr6, H⟩ := bindE H
    refine AWP_sr tok [] [39] (fun a σ => ∃ M1 : Nat, N0 + 41 ≤ M1 ∧ a = [(39, .bool (bnot r6.1))] ∧ σ = hp E0 [(w0, some ⟨63, 3, W0.set r0_ [.osl 3 1 (encL rI r6.2.Regs), .int .i64 r6.2.Pc, .osl 3 1 (encL rI r6.2.Mem)]⟩), (N0 + 29, some ⟨103, 5, [[.int .i64 r5.1.Op, .int .i64 r5.1.Rd, .int .i64 r5.1.Rs, .int .i64 r5.1.Rt, .int .i64 r5.1.Imm]]⟩)] M1) (fun K hK => ?_) ?_
    ·skip
     have e0 := nQ w0 (N0 + 29)
     simp -dsimp -implicitDefEqProofs [e0, gs_W0, List.set_set]
     refine (c105 (W0 := W0.set r0_ [.osl 3 1 (encL rI p0.Regs), .int .i64 p0.Pc, .osl 3 1 (encL rI p0.Mem)]) (r0_ := r0_) (H := hr6) (by simp [e0, gs_W0, List.set_set]) (by simp [e0, gs_W0, List.set_set])).mono ?_; rintro _ _ ⟨M1, fM1_0, rfl, rfl⟩; simp only [hp_next] at fM1_0
     try simp -dsimp -implicitDefEqProofs [e0, gs_W0, List.set_set, hp_over_some, hp_over_none]
     exact hK _ _ ⟨M1, (by omega), rfl, rfl⟩
    rintro a σ ⟨M1, fM1_0, rfl, rfl⟩
    refine Cd (fun C4 => ?_) fun C4 => ?_
    ·replace H := ifT C4 H
     refine Sx tok [] [2] (by
      intro K k
      have e0 := nQ w0 (N0 + 29)
      simp -dsimp -implicitDefEqProofs [e0, gs_W0, List.set_set]
      exact k) ?_
     obtain rfl := oi H
     refine Kp [2] ?_
     have z2 := nQ w0 (N0 + 29)
     refine gDrop AWP_ref [(w0, some ⟨63, 3, W0.set r0_ [.osl 3 1 (encL rI r6.2.Regs), .int .i64 r6.2.Pc, .osl 3 1 (encL rI r6.2.Mem)]⟩)] (hp_skip (AHeap.Sub.trans (AHeap.Sub.refl _) (hp_drop rfl (by simp; try omega)))) ?_
     refine AWP_ret ?_
     refine ⟨[.int .i64 3], by simp [z2, gs_W0], M1 + 1, by omega, ?_, ?_⟩
     ·simp [encL_nil]
     ·first | rfl | simp [List.set_set]
    ·replace H := ifF C4 H
     refine AWP_skip (Jn hK4 ?_)
     refine Sx tok [] [2] (by
      intro K k
      have e0 := nQ w0 (N0 + 29)
      simp -dsimp -implicitDefEqProofs [e0, gs_W0, List.set_set]
      exact k) ?_
     obtain rfl := oi H
     refine Kp [2] ?_
     have z3 := nQ w0 (N0 + 29)
     refine gDrop AWP_ref [(w0, some ⟨63, 3, W0.set r0_ [.osl 3 1 (encL rI r6.2.Regs), .int .i64 r6.2.Pc, .osl 3 1 (encL rI r6.2.Mem)]⟩)] (hp_skip (AHeap.Sub.trans (AHeap.Sub.refl _) (hp_drop rfl (by simp; try omega)))) ?_
     refine AWP_ret ?_
     refine ⟨[.int .i64 1], by simp [z3, gs_W0], M1 + 1, by omega, ?_, ?_⟩
     ·simp [encL_nil]
     ·first | rfl | simp [List.set_set]
theorem c101_moo {p0 : gMachine} {p1 : (List gBox)} {r : Int × gMachine × (List gBox)} (H : s_l45Talk_moo p0 p1 = some r) {σ : AHeap} {w0 : Nat} {W0 : List (List AV)} {r0_ : Nat} {w1 : Nat} (q0 : σ.objs w0 = some ⟨63, 3, W0⟩) (g0 : W0[r0_]? = some [.osl 3 1 (encL rI p0.Regs), .int .i64 p0.Pc, .osl 3 1 (encL rI p0.Mem)]) (q1 : σ.objs w1 = some ⟨93, 2, encL rBox p1⟩) (d0_1 : ¬ w0 = w1) : ACalls Tryz.prog G 101 [.ptr w0 r0_ 0, .sl w1 0 p1.length] σ (fun v σ' => ∃ M : Nat, σ.next ≤ M ∧ r.2.2.length = p1.length ∧ v = .int .i64 r.1 ∧ σ' = hp σ.objs [(w0, some ⟨63, 3, W0.set r0_ [.osl 3 1 (encL rI r.2.1.Regs), .int .i64 r.2.1.Pc, .osl 3 1 (encL rI r.2.1.Mem)]⟩), (w1, some ⟨93, 2, encL rBox r.2.2⟩)] M) := by
 refine ACalls_fr (L := [(w0, some ⟨63, 3, W0⟩), (w1, some ⟨93, 2, encL rBox p1⟩)]) (Q1 := fun v σ' => ∃ M : Nat, σ.next ≤ M ∧ r.2.2.length = p1.length ∧ v = .int .i64 r.1 ∧ σ' = hp E0 [(w0, some ⟨63, 3, W0.set r0_ [.osl 3 1 (encL rI r.2.1.Regs), .int .i64 r.2.1.Pc, .osl 3 1 (encL rI r.2.1.Mem)]⟩), (w1, some ⟨93, 2, encL rBox r.2.2⟩)] M) (by simp [q0, q1]) (fun hlt => ?_) ?_ ⟨_, Tryz.func101, rfl, rfl⟩
 rotate_left
 ·rintro v σ1 ⟨M, h0, h1, rfl, rfl⟩
  exact ⟨_, M, rfl, by simp, by simp; try omega, M, h0, h1, rfl, rfl⟩
 generalize σ.next = N0 at hlt ⊢
 have lw0 : w0 < N0 := hlt _ (.head _) rfl
 have lw1 : w1 < N0 := hlt _ (.tail _ (.head _)) rfl
 have gs_W0 : ∀ x, (W0.set r0_ x)[r0_]? = some x := gsetW g0
 rw [← set_same g0]
 refine fnK tok Tryz.func101 Tryz.ntmps101 Tryz.results101 ?_
 simp only [argsA, Nat.reduceAdd, hp_next]
 unfold s_l45Talk_moo at H
 refine Sx tok [] [0, 1] (by
  intro K k
  have e0 := nQ w0 w1
  simp -dsimp -implicitDefEqProofs [e0, gs_W0, List.set_set]
  exact k) ?_
 refine gU AWP_ref w0 r0_ 0 ?_ (hr := by exact gs_W0 _)
 obtain ⟨v1, hv1, H⟩ := bindE H
 refine Sx tok [] [0, 1, 5] (by
  intro K k
  have e0 := nQ w0 w1
  have e1 := nQ w0 (N0 + 1)
  have e2 := nQ w1 (N0 + 1)
  simp -dsimp -implicitDefEqProofs [e0, e1, e2, gs_W0, List.set_set, ixo24 hv1, (show _[11]? = some v1 from (idx_lt3 hv1).2.2)]
  exact k) ?_
 refine AWP_sq [0, 1, 5] fun K1 hK1 => ?_
 obtain ⟨v2, hv2, H⟩ := bindE H
 refine Sx tok [] [0, 1, 5, 23] (by
  intro K k
  have e0 := nQ w0 w1
  have e1 := nQ w0 (N0 + 1)
  have e2 := nQ w1 (N0 + 1)
  simp -dsimp -implicitDefEqProofs [e0, e1, e2, gs_W0, List.set_set, ixo24 hv2, (show _[17]? = some v2 from (idx_lt3 hv2).2.2)]
  exact k) ?_
 refine Cd (fun C1 => ?_) fun C1 => ?_
 ·replace H := ifT C1 H
  refine gP AWP_ref w0 r0_ 0 ?_ (hr := by exact gs_W0 _)
  refine gU AWP_ref w0 r0_ 0 ?_ (hr := by exact gs_W0 _)
  obtain ⟨v4, hv4, H⟩ := bindE H
  obtain ⟨v5, hv5, H⟩ := bindE H
  obtain ⟨r6, hr6, H⟩ := bindE H
  refine Sd tok tokM [] [2, 3, 7, 8, 9, 14, 15] [0, 1, 4, 5, 6, 2, 3, 7, 8, 9, 10, 11, 12, 13, 14, 15, 16] [0, 1, 5, 6, 7] (by
   intro K k
   have e0 := nQ w0 w1
   have e1 := nQ w0 (N0 + 16)
   have e2 := nQ w0 (N0 + 31)
   have e3 := nQ w1 (N0 + 16)
   have e4 := nQ w1 (N0 + 31)
   simp only [pickL, nthO_succ, nthO_zero]
   repeat first | simp -dsimp -implicitDefEqProofs [e0, e1, e2, e3, e4, gs_W0, List.set_set, ixo29 hv4, (idx_lt3 hv4).2.2, ixo24 hv5, (show _[10]? = some v5 from (idx_lt3 hv5).2.2)] | refine Pc.mk (c128 hr6) ?_
   exact k) ?_
  refine AWP_sq [0, 1, 5, 6] fun K2 hK2 => ?_
  refine Sx tok [] [0, 1, 5, 6, 39] (by
   intro K k
   have e0 := nQ w0 w1
   have e1 := nQ w0 (N0 + 16)
   have e2 := nQ w0 (N0 + 31)
   have e3 := nQ w1 (N0 + 16)
   have e4 := nQ w1 (N0 + 31)
   simp -dsimp -implicitDefEqProofs [e0, e1, e2, e3, e4, gs_W0, List.set_set]
   exact k) ?_
  refine Cd (fun C2 => ?_) fun C2 => ?_
  ·replace H := ifT C2 H
   refine Sx tok [] [4] (by
    intro K k
    have e0 := nQ w0 w1
    have e1 := nQ w0 (N0 + 16)
    have e2 := nQ w0 (N0 + 31)
    have e3 := nQ w1 (N0 + 16)
    have e4 := nQ w1 (N0 + 31)
    simp -dsimp -implicitDefEqProofs [e0, e1, e2, e3, e4, gs_W0, List.set_set]
    exact k) ?_
   obtain rfl := oi H
   refine Kp [4] ?_
   refine gP AWP_ref w0 r0_ 0 ?_ (hr := by exact gs_W0 _)
   have z0 := nQ w0 w1
   have z1 := nQ w0 (N0 + 31)
   have z2 := nQ w1 (N0 + 31)
   refine gDrop AWP_ref [(w0, some ⟨63, 3, W0.set r0_ [.osl 3 1 (encL rI p0.Regs), .int .i64 p0.Pc, .osl 3 1 (encL rI p0.Mem)]⟩), (w1, some ⟨93, 2, encL rBox p1⟩)] (hp_skip (hp_skip (AHeap.Sub.trans (AHeap.Sub.refl _) (hp_drop rfl (by simp; try omega))))) ?_
   refine AWP_ret ?_
   refine ⟨[.int .i64 3], by simp [z0, z1, z2, gs_W0], N0 + 37, by omega, by first | rfl | exact rfl | omega, ?_, ?_⟩
   ·simp [encL_nil]
   ·first | rfl | simp [List.set_set]
  ·replace H := ifF C2 H
   refine AWP_skip (Jn hK2 ?_)
   obtain ⟨l7, hl7, H⟩ := bindE H
   refine Sx tok [] [0] (by
    intro K k
    have e0 := nQ w0 w1
    have e1 := nQ w0 (N0 + 16)
    have e2 := nQ w0 (N0 + 31)
    have e3 := nQ w1 (N0 + 16)
    have e4 := nQ w1 (N0 + 31)
    simp -dsimp -implicitDefEqProofs [e0, e1, e2, e3, e4, gs_W0, List.set_set, ixo29 hv4, (idx_lt3 hv4).2.2, (setx_iff.1 hl7).2.symm]
    exact k) ?_
   try rw [← setx_len hl7]
   obtain ⟨v8, hv8, H⟩ := bindE H
   refine Sx tok [] [] (by
    intro K k
    have e0 := nQ w0 w1
    have e1 := nQ w0 (N0 + 16)
    have e2 := nQ w0 (N0 + 31)
    have e3 := nQ w1 (N0 + 16)
    have e4 := nQ w1 (N0 + 31)
    simp -dsimp -implicitDefEqProofs [e0, e1, e2, e3, e4, gs_W0, List.set_set, ixo24 hv8, (show _[1]? = some v8 from (idx_lt3 hv8).2.2)]
    exact k) ?_
   refine Sx tok [] [4] (by
    intro K k
    have e0 := nQ w0 w1
    have e1 := nQ w0 (N0 + 16)
    have e2 := nQ w0 (N0 + 31)
    have e3 := nQ w1 (N0 + 16)
    have e4 := nQ w1 (N0 + 31)
    simp -dsimp -implicitDefEqProofs [e0, e1, e2, e3, e4, gs_W0, List.set_set]
    exact k) ?_
   obtain rfl := oi H
   refine Kp [4] ?_
   refine gP AWP_ref w0 r0_ 0 ?_ (hr := by exact gs_W0 _)
   have z3 := nQ w0 w1
   have z4 := nQ w0 (N0 + 31)
   have z5 := nQ w1 (N0 + 31)
   refine gDrop AWP_ref [(w0, some ⟨63, 3, W0.set r0_ [.osl 3 1 (encL rI p0.Regs), .int .i64 v8, .osl 3 1 (encL rI p0.Mem)]⟩), (w1, some ⟨93, 2, encL rBox l7⟩)] (hp_skip (hp_skip (AHeap.Sub.trans (AHeap.Sub.refl _) (hp_drop rfl (by simp; try omega))))) ?_
   refine AWP_ret ?_
   refine ⟨[.int .i64 1], by simp [z3, z4, z5, gs_W0], N0 + 52, by omega, by first | rfl | exact (setx_len hl7) | omega, ?_, ?_⟩
   ·simp [encL_nil]
   ·first | rfl | simp [List.set_set]
 ·replace H := ifF C1 H
  refine AWP_skip (Jn hK1 ?_)
  refine gP AWP_ref w0 r0_ 0 ?_ (hr := by exact gs_W0 _)
  obtain ⟨v9, hv9, H⟩ := bindE H
  obtain ⟨r10, hr10, H⟩ := bindE H
  refine Sx tok [] [0, 1, 5, 8, 9, 10] (by
   intro K k
   have e0 := nQ w0 w1
   have e1 := nQ w0 (N0 + 25)
   have e2 := nQ w1 (N0 + 25)
   repeat first | simp -dsimp -implicitDefEqProofs [e0, e1, e2, gs_W0, List.set_set, ixo29 hv9, (idx_lt3 hv9).2.2] | refine (c129 hr10).app ?_
   exact k) ?_
  refine AWP_sq [0, 1, 5, 8, 9] fun K3 hK3 => ?_
  refine Sx tok [] [0, 1, 5, 8, 9, 63] (by
   intro K k
   have e0 := nQ w0 w1
   have e1 := nQ w0 (N0 + 25)
   have e2 := nQ w1 (N0 + 25)
   simp -dsimp -implicitDefEqProofs [e0, e1, e2, gs_W0, List.set_set]
   exact k) ?_
  refine Cd (fun C3 => ?_) fun C3 => ?_
  ·replace H := ifT C3 H
   refine Sx tok [] [4] (by
    intro K k
    have e0 := nQ w0 w1
    have e1 := nQ w0 (N0 + 25)
    have e2 := nQ w1 (N0 + 25)
    simp -dsimp -implicitDefEqProofs [e0, e1, e2, gs_W0, List.set_set]
    exact k) ?_
   obtain rfl := oi H
   refine Kp [4] ?_
   have z6 := nQ w0 w1
   have z7 := nQ w0 (N0 + 25)
   have z8 := nQ w1 (N0 + 25)
   refine gDrop AWP_ref [(w0, some ⟨63, 3, W0.set r0_ [.osl 3 1 (encL rI p0.Regs), .int .i64 p0.Pc, .osl 3 1 (encL rI p0.Mem)]⟩), (w1, some ⟨93, 2, encL rBox p1⟩)] (hp_skip (hp_skip (AHeap.Sub.trans (AHeap.Sub.refl _) (hp_drop rfl (by simp; try omega))))) ?_
   refine AWP_ret ?_
   refine ⟨[.int .i64 3], by simp [z6, z7, z8, gs_W0], N0 + 32, by omega, by first | rfl | exact rfl | omega, ?_, ?_⟩
   ·simp [encL_nil]
   ·first | rfl | simp [List.set_set]
  ·replace H := ifF C3 H
   refine AWP_skip (Jn hK3 ?_)
   obtain ⟨l11, hl11, H⟩ := bindE H
   refine Sx tok [] [0, 9] (by
    intro K k
    have e0 := nQ w0 w1
    have e1 := nQ w0 (N0 + 25)
    have e2 := nQ w1 (N0 + 25)
    simp -dsimp -implicitDefEqProofs [e0, e1, e2, gs_W0, List.set_set, ixo29 hv9, (idx_lt3 hv9).2.2, (setx_iff.1 hl11).2.symm]
    exact k) ?_
   try rw [← setx_len hl11]
   refine gU AWP_ref w0 r0_ 0 ?_ (hr := by exact gs_W0 _)
   obtain ⟨v12, hv12, H⟩ := bindE H
   obtain ⟨l13, hl13, H⟩ := bindE H
   refine Sx tok [] [0] (by
    intro K k
    have e0 := nQ w0 w1
    have e1 := nQ w0 (N0 + 25)
    have e2 := nQ w0 (N0 + 36)
    have e3 := nQ w1 (N0 + 25)
    have e4 := nQ w1 (N0 + 36)
    simp -dsimp -implicitDefEqProofs [e0, e1, e2, e3, e4, gs_W0, List.set_set, ixo24 hv12, (show _[10]? = some v12 from (idx_lt3 hv12).2.2), (show List.set _ 10 _ = l13 from (setx_iff.1 hl13).2.symm)]
    exact k) ?_
   try rw [← setx_len hl13]
   obtain ⟨v14, hv14, H⟩ := bindE H
   refine Sx tok [] [] (by
    intro K k
    have e0 := nQ w0 w1
    have e1 := nQ w0 (N0 + 25)
    have e2 := nQ w0 (N0 + 36)
    have e3 := nQ w1 (N0 + 25)
    have e4 := nQ w1 (N0 + 36)
    simp -dsimp -implicitDefEqProofs [e0, e1, e2, e3, e4, gs_W0, List.set_set, ixo24 hv14, (show _[1]? = some v14 from (idx_lt3 hv14).2.2)]
    exact k) ?_
   refine Sx tok [] [4] (by
    intro K k
    have e0 := nQ w0 w1
    have e1 := nQ w0 (N0 + 25)
    have e2 := nQ w0 (N0 + 36)
    have e3 := nQ w1 (N0 + 25)
    have e4 := nQ w1 (N0 + 36)
    simp -dsimp -implicitDefEqProofs [e0, e1, e2, e3, e4, gs_W0, List.set_set]
    exact k) ?_
   obtain rfl := oi H
   refine Kp [4] ?_
   refine gP AWP_ref w0 r0_ 0 ?_ (hr := by exact gs_W0 _)
   have z9 := nQ w0 w1
   have z10 := nQ w0 (N0 + 25)
   have z11 := nQ w1 (N0 + 25)
   refine gDrop AWP_ref [(w0, some ⟨63, 3, W0.set r0_ [.osl 3 1 (encL rI l13), .int .i64 v14, .osl 3 1 (encL rI p0.Mem)]⟩), (w1, some ⟨93, 2, encL rBox l11⟩)] (hp_skip (hp_skip (AHeap.Sub.trans (AHeap.Sub.refl _) (hp_drop rfl (by simp; try omega))))) ?_
   refine AWP_ret ?_
   refine ⟨[.int .i64 1], by simp [z9, z10, z11, gs_W0], N0 + 55, by omega, by first | rfl | exact (setx_len hl11) | omega, ?_, ?_⟩
   ·simp [encL_nil]
   ·first | rfl | simp [List.set_set]
theorem c58_moo {p0 : gMachine} {p1 : (List gBox)} {r : (List Int) × Int × gMachine × (List gBox)} (H : s_l45Call_moo p0 p1 = some r) {σ : AHeap} {w0 : Nat} {W0 : List (List AV)} {r0_ : Nat} {w1 : Nat} (q0 : σ.objs w0 = some ⟨63, 3, W0⟩) (g0 : W0[r0_]? = some [.osl 3 1 (encL rI p0.Regs), .int .i64 p0.Pc, .osl 3 1 (encL rI p0.Mem)]) (q1 : σ.objs w1 = some ⟨93, 2, encL rBox p1⟩) (d0_1 : ¬ w0 = w1) : ACalls Tryz.prog G 58 [.ptr w0 r0_ 0, .sl w1 0 p1.length] σ (fun v σ' => ∃ M : Nat, σ.next ≤ M ∧ r.2.2.2.length = p1.length ∧ v = .tup [.fsl (encL rI r.1), .int .i64 r.2.1] ∧ σ' = hp σ.objs [(w0, some ⟨63, 3, W0.set r0_ [.osl 3 1 (encL rI r.2.2.1.Regs), .int .i64 r.2.2.1.Pc, .osl 3 1 (encL rI r.2.2.1.Mem)]⟩), (w1, some ⟨93, 2, encL rBox r.2.2.2⟩)] M) := by
 refine ACalls_fr (L := [(w0, some ⟨63, 3, W0⟩), (w1, some ⟨93, 2, encL rBox p1⟩)]) (Q1 := fun v σ' => ∃ M : Nat, σ.next ≤ M ∧ r.2.2.2.length = p1.length ∧ v = .tup [.fsl (encL rI r.1), .int .i64 r.2.1] ∧ σ' = hp E0 [(w0, some ⟨63, 3, W0.set r0_ [.osl 3 1 (encL rI r.2.2.1.Regs), .int .i64 r.2.2.1.Pc, .osl 3 1 (encL rI r.2.2.1.Mem)]⟩), (w1, some ⟨93, 2, encL rBox r.2.2.2⟩)] M) (by simp [q0, q1]) (fun hlt => ?_) ?_ ⟨_, Tryz.func58, rfl, rfl⟩
 rotate_left
 ·rintro v σ1 ⟨M, h0, h1, rfl, rfl⟩
  exact ⟨_, M, rfl, by simp, by simp; try omega, M, h0, h1, rfl, rfl⟩
 generalize σ.next = N0 at hlt ⊢
 have lw0 : w0 < N0 := hlt _ (.head _) rfl
 have lw1 : w1 < N0 := hlt _ (.tail _ (.head _)) rfl
 have gs_W0 : ∀ x, (W0.set r0_ x)[r0_]? = some x := gsetW g0
 rw [← set_same g0]
 refine fnK tok Tryz.func58 Tryz.ntmps58 Tryz.results58 ?_
 simp only [argsA, Nat.reduceAdd, hp_next]
 unfold s_l45Call_moo at H
 refine Sx tok [] [0, 1] (by
  intro K k
  have e0 := nQ w0 w1
  simp -dsimp -implicitDefEqProofs [e0, gs_W0, List.set_set]
  exact k) ?_
 refine AWP_sq [0] fun K1 hK1 => ?_
 refine gU AWP_ref w0 r0_ 0 ?_ (hr := by exact gs_W0 _)
 obtain ⟨v1, hv1, H⟩ := bindE H
 refine Sx tok [] [0, 1, 11] (by
  intro K k
  have e0 := nQ w0 w1
  have e1 := nQ w0 (N0 + 2)
  have e2 := nQ w1 (N0 + 2)
  simp -dsimp -implicitDefEqProofs [e0, e1, e2, gs_W0, List.set_set, ixo24 hv1, (show _[17]? = some v1 from (idx_lt3 hv1).2.2)]
  exact k) ?_
 refine AWP_block (AWP_thenB ?_)
 obtain ⟨j1, hj1, H⟩ := bindE H
 refine AWP_seq (AWP_named fun K3 hK3 => ?_)
 have hJ1 : ∀ a σ, Rc G 46 N0 (fun a σ => ∃ M1 : Nat, N0 ≤ M1 ∧ p1.length = p1.length ∧ a = [(0, .ptr w0 r0_ 0), (1, .sl w1 0 p1.length), (11, .int .i64 v1), (12, .bool j1)] ∧ σ = hp E0 [(w0, some ⟨63, 3, W0.set r0_ [.osl 3 1 (encL rI p0.Regs), .int .i64 p0.Pc, .osl 3 1 (encL rI p0.Mem)]⟩), (w1, some ⟨93, 2, encL rBox p1⟩)] M1) (a.keep [0, 1, 11, 12]) σ → K3 a σ := by
  rintro a σ ⟨b, τ, hr, M1, fM1_0, fM1_1, rfl, rfl⟩
  refine hK3 _ _ (AWP_keep [0, 1, 11, 12] (AWP_ref hr ?_))
  refine Cd (fun C1 => ?_) fun C1 => ?_
  ·replace H := ifT C1 H
   obtain ⟨r3, hr3, H⟩ := bindE H
   have q0 : ∀ σ i, buildSliceA T 24 true i 0 [] σ = some (.esl, σ) := fun _ _ => rfl
   refine AWP_sr tok [0] [4, 5] (fun a σ => ∃ M2 : Nat, M1 + 6 ≤ M2 ∧ r3.2.2.length = p1.length ∧ a = [(4, .esl), (5, .int .i64 r3.1)] ∧ σ = hp E0 [(w0, some ⟨63, 3, W0.set r0_ [.osl 3 1 (encL rI r3.2.1.Regs), .int .i64 r3.2.1.Pc, .osl 3 1 (encL rI r3.2.1.Mem)]⟩), (w1, some ⟨93, 2, encL rBox r3.2.2⟩)] M2) (fun K hK => ?_) ?_
   ·skip
    have e0 := nQ w0 w1
    simp -dsimp -implicitDefEqProofs [e0, gs_W0, List.set_set, q0]
    refine (c101_moo (W0 := W0.set r0_ [.osl 3 1 (encL rI p0.Regs), .int .i64 p0.Pc, .osl 3 1 (encL rI p0.Mem)]) (r0_ := r0_) (H := hr3) (by simp [e0, gs_W0, List.set_set, q0]) (by simp [e0, gs_W0, List.set_set, q0]) (by simp [e0, gs_W0, List.set_set, q0]) (by simp [e0, gs_W0, List.set_set, q0])).mono ?_; rintro _ _ ⟨M2, fM2_0, fM2_1, rfl, rfl⟩; simp only [hp_next] at fM2_0
    try simp -dsimp -implicitDefEqProofs [e0, gs_W0, List.set_set, q0, hp_over_some, hp_over_none]
    exact hK _ _ ⟨M2, (by omega), fM2_1, rfl, rfl⟩
   rintro a σ ⟨M2, fM2_0, fM2_1, rfl, rfl⟩
   try rw [← fM2_1]
   obtain rfl := oi H
   refine Kp [4, 5] ?_
   have z0 := nQ w0 w1
   refine gFrz AWP_ref 4 [] [(w0, some ⟨63, 3, W0.set r0_ [.osl 3 1 (encL rI r3.2.1.Regs), .int .i64 r3.2.1.Pc, .osl 3 1 (encL rI r3.2.1.Mem)]⟩), (w1, some ⟨93, 2, encL rBox r3.2.2⟩)] [(4, .fsl []), (5, .int .i64 r3.1)] (by simp [z0]) (cutD (by simp [z0])) ?_
   have z1 := nQ w0 w1
   refine AWP_ret ?_
   refine ⟨[.fsl [], .int .i64 r3.1], by simp [z1, gs_W0], M2, by omega, by first | rfl | exact ((fM2_1).trans fM1_1) | omega, ?_, ?_⟩
   ·simp [encL_nil]
   ·first | rfl | simp [List.set_set]
  ·replace H := ifF C1 H
   refine Sx tok [] [0, 19] (by
    intro K k
    have e0 := nQ w0 w1
    simp -dsimp -implicitDefEqProofs [e0, gs_W0, List.set_set]
    exact k) ?_
   refine Cd (fun C2 => ?_) fun C2 => ?_
   ·replace H := ifT C2 H
    have q1 : ∀ σ i, buildSliceA T 24 true i 0 [] σ = some (.esl, σ) := fun _ _ => rfl
    refine Sx tok [0] [4, 5] (by
     intro K k
     have e0 := nQ w0 w1
     simp -dsimp -implicitDefEqProofs [e0, gs_W0, List.set_set, q1]
     exact k) ?_
    obtain rfl := oi H
    refine Kp [4, 5] ?_
    have z2 := nQ w0 w1
    refine gFrz AWP_ref 4 [] [(w0, some ⟨63, 3, W0.set r0_ [.osl 3 1 (encL rI p0.Regs), .int .i64 p0.Pc, .osl 3 1 (encL rI p0.Mem)]⟩), (w1, some ⟨93, 2, encL rBox p1⟩)] [(4, .fsl []), (5, .int .i64 4)] (by simp [z2]) (cutD (by simp [z2])) ?_
    have z3 := nQ w0 w1
    refine AWP_ret ?_
    refine ⟨[.fsl [], .int .i64 4], by simp [z3, gs_W0], M1 + 5, by omega, by first | rfl | exact fM1_1 | omega, ?_, ?_⟩
    ·simp [encL_nil]
    ·first | rfl | simp [List.set_set]
   ·replace H := ifF C2 H
    refine AWP_skip (Jn hK1 ?_)
    refine gU AWP_ref w0 r0_ 0 ?_ (hr := by exact gs_W0 _)
    obtain ⟨v4, hv4, H⟩ := bindE H
    refine Sx tok [] [0] (by
     intro K k
     have e0 := nQ w0 w1
     have e1 := nQ w0 (M1 + 2)
     have e2 := nQ w1 (M1 + 2)
     simp -dsimp -implicitDefEqProofs [e0, e1, e2, gs_W0, List.set_set, ixo24 hv4, (show _[1]? = some v4 from (idx_lt3 hv4).2.2)]
     exact k) ?_
    refine AWP_sq [] fun K2 hK2 => ?_
    refine Sx tok [] [0, 37] (by
     intro K k
     have e0 := nQ w0 w1
     have e1 := nQ w0 (M1 + 2)
     have e2 := nQ w1 (M1 + 2)
     simp -dsimp -implicitDefEqProofs [e0, e1, e2, gs_W0, List.set_set, ixo24 hv1, (show _[17]? = some v1 from (idx_lt3 hv1).2.2)]
     exact k) ?_
    refine Cd (fun C3 => ?_) fun C3 => ?_
    ·replace H := ifT C3 H
     obtain ⟨v5, hv5, H⟩ := bindE H
     have q2 : ∀ σ i, buildSliceA T 24 true i 1 [(0, .int .i64 v5)] σ = some (.fsl (encL rI ([v5] : List Int)), σ) := fun _ _ => rfl
     refine Sx tok [6] [4, 5] (by
      intro K k
      have e0 := nQ w0 w1
      have e1 := nQ w0 (M1 + 2)
      have e2 := nQ w1 (M1 + 2)
      simp -dsimp -implicitDefEqProofs [e0, e1, e2, gs_W0, List.set_set, ixo24 hv5, (show _[10]? = some v5 from (idx_lt3 hv5).2.2), q2]
      exact k) ?_
     obtain rfl := oi H
     refine Kp [4, 5] ?_
     refine gP AWP_ref w0 r0_ 0 ?_ (hr := by exact gs_W0 _)
     have z4 := nQ w0 w1
     refine AWP_ret ?_
     refine ⟨[.fsl (encL rI ([v5] : List Int)), .int .i64 1], by simp [z4, gs_W0], M1 + 29, by omega, by first | rfl | exact fM1_1 | omega, ?_, ?_⟩
     ·simp [encL_nil]
     ·first | rfl | simp [List.set_set]
    ·replace H := ifF C3 H
     refine AWP_skip (Jn hK2 ?_)
     have q3 : ∀ σ i, buildSliceA T 24 true i 0 [] σ = some (.esl, σ) := fun _ _ => rfl
     refine Sx tok [0] [4, 5] (by
      intro K k
      have e0 := nQ w0 w1
      have e1 := nQ w0 (M1 + 2)
      have e2 := nQ w1 (M1 + 2)
      simp -dsimp -implicitDefEqProofs [e0, e1, e2, gs_W0, List.set_set, q3]
      exact k) ?_
     obtain rfl := oi H
     refine Kp [4, 5] ?_
     refine gP AWP_ref w0 r0_ 0 ?_ (hr := by exact gs_W0 _)
     have z5 := nQ w0 w1
     refine gFrz AWP_ref 4 [] [(w0, some ⟨63, 3, W0.set r0_ [.osl 3 1 (encL rI p0.Regs), .int .i64 v4, .osl 3 1 (encL rI p0.Mem)]⟩), (w1, some ⟨93, 2, encL rBox p1⟩)] [(4, .fsl []), (5, .int .i64 2)] (by simp [z5]) (cutD (by simp [z5])) ?_
     have z6 := nQ w0 w1
     refine AWP_ret ?_
     refine ⟨[.fsl [], .int .i64 2], by simp [z6, gs_W0], M1 + 23, by omega, by first | rfl | exact fM1_1 | omega, ?_, ?_⟩
     ·simp [encL_nil]
     ·first | rfl | simp [List.set_set]
 replace H := hj1
 refine Sx tok [] [0, 1, 11, 12] (by
  intro K k
  have e0 := nQ w0 w1
  have e1 := nQ w0 (N0 + 2)
  have e2 := nQ w1 (N0 + 2)
  simp -dsimp -implicitDefEqProofs [e0, e1, e2, gs_W0, List.set_set]
  exact k) ?_
 refine Cd (fun C4 => ?_) fun C4 => ?_
 ·replace H := ifT C4 H
  refine AWP_skip ?_
  show K3 _ _
  refine kE [0, 1, 11, 12] fun a' ha => ?_
  obtain rfl := oi H
  refine hJ1 _ _ ?_; rw [ha]
  refine gP Rc_ref w0 r0_ 0 ?_ (hr := by exact gs_W0 _)
  exact Rf ⟨N0 + 11, (by omega), (by first | rfl | exact rfl | omega), rfl, rfl⟩
 ·replace H := ifF C4 H
  refine Rt tok [] [0, 1, 11, 12] (by
   intro K k
   have e0 := nQ w0 w1
   have e1 := nQ w0 (N0 + 2)
   have e2 := nQ w1 (N0 + 2)
   simp -dsimp -implicitDefEqProofs [e0, e1, e2, gs_W0, List.set_set]
   exact k) fun a ha => ?_
  obtain rfl := oi H
  refine hJ1 _ _ ?_; rw [ha]
  refine gP Rc_ref w0 r0_ 0 ?_ (hr := by exact gs_W0 _)
  exact Rf ⟨N0 + 13, (by omega), (by first | rfl | exact rfl | omega), rfl, rfl⟩
theorem c60 {p0 : Int} {p1 : Int} {p2 : Int} {p3 : Int} {r : Int × Int × Bool} (H : s_NextTurn p0 p1 p2 p3 = some r) : APure Tryz.prog G 60 [.int .i64 p0, .int .i64 p1, .int .i64 p2, .int .i64 p3] (.tup [.int .i64 r.1, .int .i64 r.2.1, .bool r.2.2]) := by
 refine APure_fn (fun N0 => ?_) (by simp)
 refine fnK tok Tryz.func60 Tryz.ntmps60 Tryz.results60 ?_
 simp only [argsA, Nat.reduceAdd, hp_next]
 unfold s_NextTurn at H
 refine S0 tok [] [0, 1, 2, 3] ?_
 refine AWP_sq [0, 1, 2, 3] fun K1 hK1 => ?_
 obtain ⟨r1, hr1, H⟩ := bindE H
 obtain ⟨g3, hg3, H⟩ := bindE H
 obtain ⟨g5, hg5, H⟩ := bindE H
 refine Sx tok [] [0, 1, 2, 3, 27] (X := [(0, .int .i64 p0), (1, .int .i64 p1), (2, .int .i64 p2), (3, .int .i64 p3), (27, .bool g5)]) (Y := hp E0 [] (N0 + 20)) (by
  intro K k
  simp -dsimp -implicitDefEqProofs
  refine (c21 hr1).app ?_; try simp -dsimp -implicitDefEqProofs
  cases hbg3 : bnot r1
  ·replace hg3 := ifF hbg3 hg3
   obtain ⟨r2, hr2, hg3⟩ := bindE hg3
   replace hg3 := Option.some.inj hg3; subst hg3
   try simp -dsimp -implicitDefEqProofs [hbg3]
   refine (c21 hr2).app ?_; try simp -dsimp -implicitDefEqProofs [hbg3]
   cases hbg5 : (bnot r2)
   ·replace hg5 := ifF hbg5 hg5
    obtain ⟨r4, hr4, hg5⟩ := bindE hg5
    replace hg5 := Option.some.inj hg5; subst hg5
    try simp -dsimp -implicitDefEqProofs [hbg3, hbg5]
    refine (c21 hr4).app ?_; try simp -dsimp -implicitDefEqProofs [hbg3, hbg5]
    exact k
   ·replace hg5 := ifT hbg5 hg5
    replace hg5 := Option.some.inj hg5; subst hg5
    try simp -dsimp -implicitDefEqProofs [hbg3, hbg5]
    exact k
  ·replace hg3 := ifT hbg3 hg3
   replace hg3 := Option.some.inj hg3; subst hg3
   try simp -dsimp -implicitDefEqProofs [hbg3]
   replace hg5 := ifT rfl hg5
   replace hg5 := Option.some.inj hg5; subst hg5
   try simp -dsimp -implicitDefEqProofs [hbg3]
   exact k) ?_
 refine Cd (fun C1 => ?_) fun C1 => ?_
 ·replace H := ifT C1 H
  refine S0 tok [] [8, 9, 10] ?_
  obtain rfl := oi H; exact AWP_ret ⟨_, rfl, 4, by simp [encL_nil]⟩
 ·replace H := ifF C1 H
  refine AWP_skip (Jn hK1 ?_)
  refine AWP_sq [] fun K2 hK2 => ?_
  refine S0 tok [] [0, 1, 2, 28] ?_
  refine AWP_block (AWP_thenB ?_)
  refine S0 tok [] [0, 1, 2, 28, 29] ?_
  refine Cd (fun C2 => ?_) fun C2 => ?_
  ·replace H := ifT C2 H
   refine S0 tok [] [8, 9, 10] ?_
   obtain rfl := oi H; exact AWP_ret ⟨_, rfl, 4, by simp [encL_nil]⟩
  ·replace H := ifF C2 H
   refine S0 tok [] [0, 1, 2, 28, 32] ?_
   refine Cd (fun C3 => ?_) fun C3 => ?_
   ·replace H := ifT C3 H
    obtain ⟨v6, hv6, H⟩ := bindE H
    refine Sx tok [] [8, 9, 10] (by intro K k; simp -dsimp -implicitDefEqProofs [hv6]; exact k) ?_
    obtain rfl := oi H; exact AWP_ret ⟨_, rfl, 4, by simp [encL_nil]⟩
   ·replace H := ifF C3 H
    obtain ⟨j1, hj1, H⟩ := bindE H
    refine AWP_seq (AWP_named fun K3 hK3 => ?_)
    have hJ1 : ∀ a σ, Rc G 47 N0 (fun a σ => ∃ M1 : Nat, N0 ≤ M1 ∧ a = [(0, .int .i64 p0), (1, .int .i64 p1), (2, .int .i64 p2), (38, .bool j1)] ∧ σ = hp E0 [] M1) (a.keep [0, 1, 2, 38]) σ → K3 a σ := by
     rintro a σ ⟨b, τ, hr, M1, fM1_0, rfl, rfl⟩
     refine hK3 _ _ (AWP_keep [0, 1, 2, 38] (AWP_ref hr ?_))
     refine Cd (fun C4 => ?_) fun C4 => ?_
     ·replace H := ifT C4 H
      obtain ⟨v8, hv8, H⟩ := bindE H
      refine Sx tok [] [8, 9, 10] (by intro K k; simp -dsimp -implicitDefEqProofs [hv8]; exact k) ?_
      obtain rfl := oi H; exact AWP_ret ⟨_, rfl, 4, by simp [encL_nil]⟩
     ·replace H := ifF C4 H
      refine AWP_skip (Jn hK2 ?_)
      refine S0 tok [] [8, 9, 10] ?_
      obtain rfl := oi H; exact AWP_ret ⟨_, rfl, 4, by simp [encL_nil]⟩
    replace H := hj1
    refine S0 tok [] [0, 1, 2, 28, 38] ?_
    refine Cd (fun C5 => ?_) fun C5 => ?_
    ·replace H := ifT C5 H
     refine AWP_skip ?_
     show K3 _ _
     refine kE [0, 1, 2, 38] fun a' ha => ?_
     obtain rfl := oi H
     refine hJ1 _ _ ?_; rw [ha]
     exact Rf ⟨N0 + 27, (by omega), rfl, rfl⟩
    ·replace H := ifF C5 H
     refine Rt0 tok [] [0, 1, 2, 38] fun a ha => ?_
     obtain rfl := oi H
     refine hJ1 _ _ ?_; rw [ha]
     exact Rf ⟨N0 + 29, (by omega), rfl, rfl⟩
theorem c23 {p0 : gSquad} {r : Bool × gSquad} (H : s_l45Step p0 = some r) {σ : AHeap} {w0 : Nat} {W0 : List (List AV)} {r0_ : Nat} (q0 : σ.objs w0 = some ⟨31, 5, W0⟩) (g0 : W0[r0_]? = some [.osl 63 3 (encL rMachine_oo p0.Harts), .osl 93 2 (encL rBox p0.Boxes), .int .i64 p0.Turn, .int .i64 p0.Idle, .osl 3 1 (encL rI p0.Out)]) : ACalls Tryz.prog G 23 [.ptr w0 r0_ 0] σ (fun v σ' => ∃ M : Nat, σ.next ≤ M ∧ v = .bool r.1 ∧ σ' = hp σ.objs [(w0, some ⟨31, 5, W0.set r0_ [.osl 63 3 (encL rMachine_oo r.2.Harts), .osl 93 2 (encL rBox r.2.Boxes), .int .i64 r.2.Turn, .int .i64 r.2.Idle, .osl 3 1 (encL rI r.2.Out)]⟩)] M) := by
 refine ACalls_fr (L := [(w0, some ⟨31, 5, W0⟩)]) (Q1 := fun v σ' => ∃ M : Nat, σ.next ≤ M ∧ v = .bool r.1 ∧ σ' = hp E0 [(w0, some ⟨31, 5, W0.set r0_ [.osl 63 3 (encL rMachine_oo r.2.Harts), .osl 93 2 (encL rBox r.2.Boxes), .int .i64 r.2.Turn, .int .i64 r.2.Idle, .osl 3 1 (encL rI r.2.Out)]⟩)] M) (by simp [q0]) (fun hlt => ?_) ?_ ⟨_, Tryz.func23, rfl, rfl⟩
 rotate_left
 ·rintro v σ1 ⟨M, h0, rfl, rfl⟩
  exact ⟨_, M, rfl, by simp, by simp; try omega, M, h0, rfl, rfl⟩
 generalize σ.next = N0 at hlt ⊢
 have lw0 : w0 < N0 := hlt _ (.head _) rfl
 have gs_W0 : ∀ x, (W0.set r0_ x)[r0_]? = some x := gsetW g0
 rw [← set_same g0]
 refine fnK tok Tryz.func23 Tryz.ntmps23 Tryz.results23 ?_
 simp only [argsA, Nat.reduceAdd, hp_next]
 unfold s_l45Step at H
 refine Sx tok [] [0] (by intro K k; simp -dsimp -implicitDefEqProofs [gs_W0, List.set_set]; exact k) ?_
 refine gU AWP_ref w0 r0_ 0 ?_ (hr := by exact gs_W0 _)
 obtain ⟨v1, hv1, H⟩ := bindE H
 refine Sd tok tokM [] [3, 7, 8] [0, 1, 2, 4, 5, 6, 3, 7, 8, 9] [0, 3] (by
  intro K k
  have e0 := nQ w0 (N0 + 1)
  simp only [pickL, nthO_succ, nthO_zero]
  simp -dsimp -implicitDefEqProofs [e0, gs_W0, List.set_set, ixo28 hv1, (idx_lt3 hv1).2.2]
  exact k) ?_
 refine Sx tok [] [0, 3, 4] (by
  intro K k
  have e0 := nQ w0 (N0 + 1)
  simp -dsimp -implicitDefEqProofs [e0, gs_W0, List.set_set]
  exact k) ?_
 obtain ⟨flj1, hflj1, H⟩ := bindE H
 refine AWP_seq (AWP_named fun K1 hK1 => ?_)
 have hJ1 : ∀ (j1 : Int × gSquad) a σ, flj1 = .next j1 → Rc G 81 N0 (fun a σ => ∃ M1 : Nat, N0 ≤ M1 ∧ a = [(0, .ptr w0 r0_ 0), (4, .int .i64 j1.1)] ∧ σ = hp E0 [(w0, some ⟨31, 5, W0.set r0_ [.osl 63 3 (encL rMachine_oo j1.2.Harts), .osl 93 2 (encL rBox j1.2.Boxes), .int .i64 j1.2.Turn, .int .i64 j1.2.Idle, .osl 3 1 (encL rI j1.2.Out)]⟩)] M1) (AAct.keep a [0, 4]) σ → K1 a σ := by
  rintro j1 a σ hfl ⟨b, τ, hr, M1, fM1_0, rfl, rfl⟩
  subst hfl; dsimp only at H
  refine hK1 _ _ (AWP_keep [0, 4] (AWP_ref hr ?_))
  refine gU AWP_ref w0 r0_ 0 ?_ (hr := by exact gs_W0 _)
  obtain ⟨r4, hr4, H⟩ := bindE H
  refine Sd tok tokM [] [3, 8, 12] [0, 1, 2, 5, 6, 7, 9, 10, 11, 13, 3, 4, 8, 12, 14, 15, 16, 17, 18, 19, 20, 21] [0, 7, 8] (by
   intro K k
   have e0 := nQ w0 M1
   simp only [pickL, nthO_succ, nthO_zero]
   repeat first | simp -dsimp -implicitDefEqProofs [e0, gs_W0, List.set_set] | refine Pc.mk (c60 hr4) ?_
   exact k) ?_
  refine Sx tok [] [0, 8] (by
   intro K k
   have e0 := nQ w0 M1
   simp -dsimp -implicitDefEqProofs [e0, gs_W0, List.set_set]
   exact k) ?_
  refine Sx tok [] [] (by
   intro K k
   have e0 := nQ w0 M1
   simp -dsimp -implicitDefEqProofs [e0, gs_W0, List.set_set]
   exact k) ?_
  refine Sx tok [] [2] (by
   intro K k
   have e0 := nQ w0 M1
   simp -dsimp -implicitDefEqProofs [e0, gs_W0, List.set_set]
   exact k) ?_
  obtain rfl := oi H
  refine Kp [2] ?_
  refine gP AWP_ref w0 r0_ 0 ?_ (hr := by exact gs_W0 _)
  refine AWP_ret ?_
  refine ⟨[.bool true], by simp [gs_W0], M1 + 34, by omega, ?_, ?_⟩
  ·simp [encL_nil]
  ·first | rfl | simp [List.set_set]
 have Gj1 := H; replace H := hflj1
 refine Sx tok [] [0, 3, 4, 23] (by
  intro K k
  have e0 := nQ w0 (N0 + 1)
  simp -dsimp -implicitDefEqProofs [e0, gs_W0, List.set_set, (idx_lt3 hv1).2.2]
  exact k) ?_
 refine Cd (fun C1 => ?_) fun C1 => ?_
 ·replace H := ifT C1 H
  refine AWP_sq [0, 3] fun K2 hK2 => ?_
  refine gU AWP_ref w0 r0_ 1 ?_ (hr := by exact gs_W0 _)
  obtain ⟨r5, hr5, H⟩ := bindE H
  refine AWP_sr tok [] [0, 3, 31] (fun a σ => a = [(0, .ptr w0 r0_ 0), (3, .ptr (N0 + 1) p0.Turn.toNat 0), (31, .bool (bnot r5))] ∧ σ = hp E0 [(w0, some ⟨31, 5, W0.set r0_ [.sl (N0 + 1) 0 p0.Harts.length, .sl (N0 + 18) 0 p0.Boxes.length, .int .i64 p0.Turn, .int .i64 p0.Idle, .osl 3 1 (encL rI p0.Out)]⟩), (N0 + 1, some ⟨63, 3, encL rMachine_oo p0.Harts⟩), (N0 + 18, some ⟨93, 2, encL rBox p0.Boxes⟩)] (N0 + 27)) (fun K hK => ?_) ?_
  ·skip
   have e0 := nQ w0 (N0 + 1)
   have e1 := nQ w0 (N0 + 18)
   simp -dsimp -implicitDefEqProofs [e0, e1, gs_W0, List.set_set, (idx_lt3 hv1).2.2]
   refine (borrow 8 (c57 hr5) (by simp [e0, e1, gs_W0, List.set_set, (idx_lt3 hv1).2.2]) rfl).mono ?_; rintro _ _ ⟨rfl, rfl⟩; try simp -dsimp -implicitDefEqProofs [e0, e1, gs_W0, List.set_set, (idx_lt3 hv1).2.2]
   exact hK _ _ ⟨rfl, rfl⟩
  rintro a σ ⟨rfl, rfl⟩
  refine Cd (fun C2 => ?_) fun C2 => ?_
  ·replace H := ifT C2 H
   refine Sx tok [] [2] (by
    intro K k
    have e0 := nQ w0 (N0 + 1)
    have e1 := nQ w0 (N0 + 18)
    simp -dsimp -implicitDefEqProofs [e0, e1, gs_W0, List.set_set]
    exact k) ?_
   obtain ⟨z, hz, H⟩ := bindE H
   obtain rfl := oi H; dsimp only at Gj1; obtain rfl := oi Gj1; have H := hz
   obtain rfl := oi H
   refine Kp [2] ?_
   refine gP AWP_ref w0 r0_ 0 ?_ (hr := by exact gs_W0 _)
   refine gP AWP_ref w0 r0_ 1 ?_ (hr := by exact gs_W0 _)
   refine AWP_ret ?_
   refine ⟨[.bool false], by simp [gs_W0], N0 + 28, by omega, ?_, ?_⟩
   ·simp [encL_nil]
   ·first | rfl | simp [List.set_set]
  ·replace H := ifF C2 H
   refine AWP_skip (Jn hK2 ?_)
   refine gP AWP_ref w0 r0_ 1 ?_ (hr := by exact gs_W0 _)
   refine gU AWP_ref w0 r0_ 1 ?_ (hr := by exact gs_W0 _)
   obtain ⟨r6, hr6, H⟩ := bindE H
   obtain ⟨l7, hl7, H⟩ := bindE H
   refine AWP_sr tok [] [0, 5, 6] (fun a σ => ∃ M2 : Nat, N0 + 39 ≤ M2 ∧ r6.2.2.2.length = p0.Boxes.length ∧ a = [(0, .ptr w0 r0_ 0), (5, .fsl (encL rI r6.1)), (6, .int .i64 r6.2.1)] ∧ σ = hp E0 [(w0, some ⟨31, 5, W0.set r0_ [.sl (N0 + 1) 0 p0.Harts.length, .sl (N0 + 27) 0 p0.Boxes.length, .int .i64 p0.Turn, .int .i64 p0.Idle, .osl 3 1 (encL rI p0.Out)]⟩), (N0 + 1, some ⟨63, 3, encL rMachine_oo l7⟩), (N0 + 27, some ⟨93, 2, encL rBox r6.2.2.2⟩)] M2) (fun K hK => ?_) ?_
   ·skip
    have e0 := nQ w0 (N0 + 1)
    have e1 := nQ w0 (N0 + 27)
    simp -dsimp -implicitDefEqProofs [e0, e1, gs_W0, List.set_set, (idx_lt3 hv1).2.2, (setx_iff.1 hl7).2.symm, set_rMachine_oo]
    refine (c58_moo (W0 := encL rMachine_oo p0.Harts) (r0_ := p0.Turn.toNat) (H := hr6) (by simp [e0, e1, gs_W0, List.set_set, (idx_lt3 hv1).2.2, (setx_iff.1 hl7).2.symm, set_rMachine_oo]) (by simp [e0, e1, gs_W0, List.set_set, (idx_lt3 hv1).2.2, (setx_iff.1 hl7).2.symm, set_rMachine_oo]) (by simp [e0, e1, gs_W0, List.set_set, (idx_lt3 hv1).2.2, (setx_iff.1 hl7).2.symm, set_rMachine_oo]) (by simp [e0, e1, gs_W0, List.set_set, (idx_lt3 hv1).2.2, (setx_iff.1 hl7).2.symm, set_rMachine_oo])).mono ?_; rintro _ _ ⟨M2, fM2_0, fM2_1, rfl, rfl⟩; simp only [hp_next] at fM2_0
    try simp -dsimp -implicitDefEqProofs [e0, e1, gs_W0, List.set_set, (idx_lt3 hv1).2.2, (setx_iff.1 hl7).2.symm, set_rMachine_oo, hp_over_some, hp_over_none]
    exact hK _ _ ⟨M2, (by omega), fM2_1, rfl, rfl⟩
   rintro a σ ⟨M2, fM2_0, fM2_1, rfl, rfl⟩
   try rw [← setx_len hl7]
   try rw [← fM2_1]
   refine gU AWP_ref w0 r0_ 4 ?_ (hr := by exact gs_W0 _)
   obtain ⟨l8, hl8, H⟩ := bindE H
   refine Sx tok [] [0, 6] (by
    intro K k
    have e0 := nQ w0 (N0 + 1)
    have e1 := nQ w0 (N0 + 27)
    have e2 := nQ w0 M2
    have e3 := nQ w0 (M2 + 7)
    have e4 := nQ (N0 + 1) M2
    have e5 := nQ (N0 + 1) (M2 + 7)
    have e6 := nQ N0 (M2 + 6)
    have e7 := nQ (N0 + 27) M2
    have e8 := nQ (N0 + 27) (M2 + 7)
    have e9 := nQ (N0 + 20) M2
    simp -dsimp -implicitDefEqProofs [e0, e1, e2, e3, e4, e5, e6, e7, e8, e9, gs_W0, List.set_set, app24 hl8]
    exact k) ?_
   refine Rt tok [] [0, 4] (by
    intro K k
    have e0 := nQ w0 (N0 + 1)
    have e1 := nQ w0 (N0 + 27)
    have e2 := nQ w0 (M2 + 7)
    have e3 := nQ (N0 + 1) (M2 + 7)
    have e4 := nQ N0 (M2 + 6)
    have e5 := nQ (N0 + 27) (M2 + 7)
    have e6 := nQ (N0 + 20) M2
    simp -dsimp -implicitDefEqProofs [e0, e1, e2, e3, e4, e5, e6, gs_W0, List.set_set]
    exact k) fun a ha => ?_
   replace H := oi H
   refine hJ1 _ _ _ H.symm ?_; rw [ha]
   refine gP Rc_ref w0 r0_ 0 ?_ (hr := by exact gs_W0 _)
   refine gP Rc_ref w0 r0_ 1 ?_ (hr := by exact gs_W0 _)
   refine gP Rc_ref w0 r0_ 4 ?_ (hr := by exact gs_W0 _)
   exact Rf ⟨M2 + 13, (by omega), rfl, rfl⟩
 ·replace H := ifF C1 H
  obtain ⟨r9, hr9, H⟩ := bindE H
  obtain ⟨l10, hl10, H⟩ := bindE H
  refine AWP_sr tok [] [0, 4, 53] (fun a σ => ∃ M3 : Nat, N0 + 21 ≤ M3 ∧ a = [(0, .ptr w0 r0_ 0), (4, .int .i64 1), (53, .bool (ine r9.1 1))] ∧ σ = hp E0 [(w0, some ⟨31, 5, W0.set r0_ [.sl (N0 + 1) 0 p0.Harts.length, .osl 93 2 (encL rBox p0.Boxes), .int .i64 p0.Turn, .int .i64 p0.Idle, .osl 3 1 (encL rI p0.Out)]⟩), (N0 + 1, some ⟨63, 3, encL rMachine_oo l10⟩)] M3) (fun K hK => ?_) ?_
  ·skip
   have e0 := nQ w0 (N0 + 1)
   simp -dsimp -implicitDefEqProofs [e0, gs_W0, List.set_set, (idx_lt3 hv1).2.2, (setx_iff.1 hl10).2.symm, set_rMachine_oo]
   refine (c59 (W0 := encL rMachine_oo p0.Harts) (r0_ := p0.Turn.toNat) (H := hr9) (by simp [e0, gs_W0, List.set_set, (idx_lt3 hv1).2.2, (setx_iff.1 hl10).2.symm, set_rMachine_oo]) (by simp [e0, gs_W0, List.set_set, (idx_lt3 hv1).2.2, (setx_iff.1 hl10).2.symm, set_rMachine_oo])).mono ?_; rintro _ _ ⟨M3, fM3_0, rfl, rfl⟩; simp only [hp_next] at fM3_0
   try simp -dsimp -implicitDefEqProofs [e0, gs_W0, List.set_set, (idx_lt3 hv1).2.2, (setx_iff.1 hl10).2.symm, set_rMachine_oo, hp_over_some, hp_over_none]
   exact hK _ _ ⟨M3, (by omega), rfl, rfl⟩
  rintro a σ ⟨M3, fM3_0, rfl, rfl⟩
  try rw [← setx_len hl10]
  refine Cd (fun C3 => ?_) fun C3 => ?_
  ·replace H := ifT C3 H
   refine Sx tok [] [2] (by
    intro K k
    have e0 := nQ w0 (N0 + 1)
    simp -dsimp -implicitDefEqProofs [e0, gs_W0, List.set_set]
    exact k) ?_
   obtain ⟨z, hz, H⟩ := bindE H
   obtain rfl := oi H; dsimp only at Gj1; obtain rfl := oi Gj1; have H := hz
   obtain rfl := oi H
   refine Kp [2] ?_
   refine gP AWP_ref w0 r0_ 0 ?_ (hr := by exact gs_W0 _)
   refine AWP_ret ?_
   refine ⟨[.bool false], by simp [gs_W0], M3 + 1, by omega, ?_, ?_⟩
   ·simp [encL_nil]
   ·first | rfl | simp [List.set_set]
  ·replace H := ifF C3 H
   refine AWP_skip ?_
   show K1 _ _
   refine kE [0, 4] fun a' ha => ?_
   replace H := oi H
   refine hJ1 _ _ _ H.symm ?_; rw [ha]
   refine gP Rc_ref w0 r0_ 0 ?_ (hr := by exact gs_W0 _)
   exact Rf ⟨M3, (by omega), rfl, rfl⟩
theorem c56_o2 {p0 : gMachine} {r : gMachine} (H : s_l44Copy_o2 p0 = some r) {σ : AHeap} : ACalls Tryz.prog G 56 [.agg [.fsl (encL rI p0.Regs), .int .i64 p0.Pc, .fsl (encL rI p0.Mem)]] σ (fun v σ' => ∃ M n0 n1 : Nat, σ.next ≤ M ∧ σ.next ≤ n0 ∧ n0 < M ∧ σ.next ≤ n1 ∧ n1 < M ∧ ¬ n0 = n1 ∧ v = .agg [.sl n0 0 r.Regs.length, .int .i64 r.Pc, .sl n1 0 r.Mem.length] ∧ σ' = hp σ.objs [(n0, some ⟨3, 1, encL rI r.Regs⟩), (n1, some ⟨3, 1, encL rI r.Mem⟩)] M) := by
 refine ACalls_fr (L := []) (Q1 := fun v σ' => ∃ M n0 n1 : Nat, σ.next ≤ M ∧ σ.next ≤ n0 ∧ n0 < M ∧ σ.next ≤ n1 ∧ n1 < M ∧ ¬ n0 = n1 ∧ v = .agg [.sl n0 0 r.Regs.length, .int .i64 r.Pc, .sl n1 0 r.Mem.length] ∧ σ' = hp E0 [(n0, some ⟨3, 1, encL rI r.Regs⟩), (n1, some ⟨3, 1, encL rI r.Mem⟩)] M) (by simp []) (fun hlt => ?_) ?_ ⟨_, Tryz.func56, rfl, rfl⟩
 rotate_left
 ·rintro v σ1 ⟨M, n0, n1, h0, h1, h2, h3, h4, h5, rfl, rfl⟩
  exact ⟨_, M, rfl, by simp, by simp; try omega, M, n0, n1, h0, h1, h2, h3, h4, h5, rfl, rfl⟩
 generalize σ.next = N0 at hlt ⊢
 refine ACalls_thaw 4 ?_
 refine fnK tok Tryz.func56 Tryz.ntmps56 Tryz.results56 ?_
 simp only [argsA, Nat.reduceAdd, hp_next]
 unfold s_l44Copy_o2 at H
 refine S0 tok [0] [1, 2] ?_
 obtain ⟨l1, hl1, H⟩ := bindE H
 obtain ⟨l2, hl2, H⟩ := bindE H
 have q0 : ∀ σ i, buildSliceA T 24 true i 0 [] σ = some (.esl, σ) := fun _ _ => rfl
 have q1 : ∀ σ i, buildSliceA T 24 true i 0 [] σ = some (.esl, σ) := fun _ _ => rfl
 refine Sd tok tokM [0, 6] [3, 9, 11] [0, 1, 2, 4, 5, 6, 7, 8, 3, 9, 10, 11] [2] (by
  intro K k
  simp only [pickL, nthO_succ, nthO_zero]
  simp -dsimp -implicitDefEqProofs [q0, q1, appe24 hl1, appe24 hl2]
  exact k) ?_
 obtain rfl := oi H
 refine Kp [2] ?_
 refine gP AWP_ref (N0 + 1) 0 0 ?_
 refine gP AWP_ref (N0 + 1) 0 2 ?_
 refine gU AWP_ref (N0 + 1) 0 0 ?_
 refine gU AWP_ref (N0 + 1) 0 2 ?_
 refine AWP_ret ?_
 refine ⟨[.agg [.sl (N0 + 14) 0 l1.length, .int .i64 p0.Pc, .sl (N0 + 15) 0 l2.length]], by simp, (fun o => [N0 + 1].contains o), N0 + 16, N0 + 14, N0 + 15, by omega, by omega, by omega, by omega, by omega, by omega, ?_, ?_⟩
 ·simp [encL_nil]
 ·rw [cutD (L' := [(N0 + 14, some ⟨3, 1, encL rI l1⟩), (N0 + 15, some ⟨3, 1, encL rI l2⟩)]) (by simp)]
  first | done | rfl | simp [List.set_set]
theorem c55_o {p0 : (List gBox)} {r : (List gBox)} (H : s_l15BoxesCopy_o p0 = some r) {σ : AHeap} : ACalls Tryz.prog G 55 [.fsl (encL rBox p0)] σ (fun v σ' => ∃ M n0 : Nat, σ.next ≤ M ∧ σ.next ≤ n0 ∧ n0 < M ∧ v = .sl n0 0 r.length ∧ σ' = hp σ.objs [(n0, some ⟨93, 2, encL rBox r⟩)] M) := by
 refine ACalls_fr (L := []) (Q1 := fun v σ' => ∃ M n0 : Nat, σ.next ≤ M ∧ σ.next ≤ n0 ∧ n0 < M ∧ v = .sl n0 0 r.length ∧ σ' = hp E0 [(n0, some ⟨93, 2, encL rBox r⟩)] M) (by simp []) (fun hlt => ?_) ?_ ⟨_, Tryz.func55, rfl, rfl⟩
 rotate_left
 ·rintro v σ1 ⟨M, n0, h0, h1, h2, rfl, rfl⟩
  exact ⟨_, M, rfl, by simp, by simp; try omega, M, n0, h0, h1, h2, rfl, rfl⟩
 generalize σ.next = N0 at hlt ⊢
 refine fnK tok Tryz.func55 Tryz.ntmps55 Tryz.results55 ?_
 simp only [argsA, Nat.reduceAdd, hp_next]
 unfold s_l15BoxesCopy_o at H
 refine S0 tok [] [0] ?_
 have q0 : ∀ σ i, buildSliceA T 29 true i 0 [] σ = some (.esl, σ) := fun _ _ => rfl
 refine Sx tok [0] [0, 3] (by intro K k; simp -dsimp -implicitDefEqProofs [q0]; exact k) ?_
 refine AWP_sq [3] fun K1 hK1 => ?_
 refine S0 tok [] [0, 3, 4] ?_
 refine AWP_block (AWP_thenB ?_)
 obtain ⟨e1, hse1, H⟩ := bindE H
 refine AWP_lp [0, 3, 4] (fun s a σ => ∃ M1 o1 : Nat, N0 ≤ M1 ∧ N0 ≤ o1 ∧ o1 < M1 ∧ a = [(0, .fsl (encL rBox p0)), (3, .sl o1 0 s.2.length), (4, .int .i64 s.1)] ∧ σ = hp E0 [(o1, some ⟨93, 2, encL rBox s.2⟩)] M1) (fun s x a σ => x = .exit 0 ∧ Rc G 29 N0 (fun a σ => ∃ M2 o2 : Nat, N0 ≤ M2 ∧ N0 ≤ o2 ∧ o2 < M2 ∧ a = [(3, .sl o2 0 s.length)] ∧ σ = hp E0 [(o2, some ⟨93, 2, encL rBox s⟩)] M2) (AAct.keep a [3]) σ) hse1 ?_ ?_ ?_
 ·refine Rc.kp [0, 3, 4] [(0, .fsl (encL rBox p0)), (3, .esl), (4, .int .i64 0)] rfl ?_
  refine gNilS Rc_ref 3 93 2 [(N0 + 4, some ⟨93, 2, encL rBox ([] : List gBox)⟩)] [(0, .fsl (encL rBox p0)), (3, .sl (N0 + 4) 0 ([] : List gBox).length), (4, .int .i64 0)] (by simp (disch := omega)) (by simp (disch := omega) [encL_nil]) [0, 3, 4] rfl ?_
  exact Rf ⟨N0 + 5, (N0 + 4), (by omega), (by omega), (by omega), rfl, rfl⟩
 ·clear H hse1
  rintro ⟨s1, s2⟩ fl a σ H ⟨M1, o1, fM1_0, fM1_1, fM1_2, rfl, rfl⟩ K2 O2 hK2 hO2
  unfold s_l15BoxesCopy_o_L1 at H; dsimp only at H
  refine AWP_sq [0, 3, 4] fun K3 hK3 => ?_
  refine S0 tok [] [0, 3, 4, 9] ?_
  refine Cd (fun C1 => ?_) fun C1 => ?_
  ·replace H := ifT C1 H
   refine AWP_skip (Jn hK3 ?_)
   refine AWP_sq [0, 3, 4] fun K4 hK4 => ?_
   refine AWP_block (AWP_thenB ?_)
   obtain ⟨v4, hv4, H⟩ := bindE H
   obtain ⟨l5, hl5, H⟩ := bindE H
   obtain ⟨l6, hl6, H⟩ := bindE H
   have q1 : ∀ σ i, buildSliceA T 24 true i 0 [] σ = some (.esl, σ) := fun _ _ => rfl
   have q2 : ∀ σ i, buildSliceA T 29 true i 1 [(0, .agg [.int .i64 v4.Room, .fsl (encL rI l5)])] σ = some (.fsl (encL rBox ([(⟨v4.Room, l5⟩ : gBox)] : List gBox)), σ) := fun _ _ => rfl
   refine AWP_rd tok tokM [6, 12, 14] [15] [0, 1, 2, 3, 4, 5, 6, 7, 8, 9, 10, 11, 12, 13, 14, 15, 16] [0, 3, 4] (fun a σ => a = [(0, .fsl (encL rBox p0)), (3, .sl (M1 + 19) 0 l6.length), (4, .int .i64 s1)] ∧ σ = hp E0 [(M1 + 19, some ⟨93, 2, encL rBox l6⟩)] (M1 + 21)) (by decide) (fun K hK => ?_) ?_
   ·simp only [pickL, nthO_succ, nthO_zero]
    have e0 := nQ o1 (M1 + 19)
    simp -dsimp -implicitDefEqProofs [e0, ix29 hv4, q1, ix29 hv4, appf24 hl5, q2, app29 hl6]
    exact hK _ _ ⟨rfl, rfl⟩
   rintro a σ ⟨ha, rfl⟩
   refine hK4 _ _ ?_; rw [ha]
   refine Rc.mk ?_
   refine Rt0 tok [] [0, 3, 4] fun a ha => ?_
   obtain rfl := oi H
   refine hK2 _ _ _ rfl ?_; rw [ha]
   exact Rf ⟨M1 + 24, (M1 + 19), (by omega), (by omega), (by omega), rfl, rfl⟩
  ·obtain rfl := oi (ifF C1 H)
   refine AWP_exit (hO2 _ _ _ _ rfl ⟨rfl, ?_⟩)
   refine Rc.rw (l := [3]) (X := [(3, .sl o1 0 s2.length)]) rfl ?_
   exact Rf ⟨M1 + 4, o1, (by omega), (by omega), (by omega), rfl, rfl⟩
 ·intro x a σ hx
  obtain ⟨y3, rfl⟩ : ∃ x, x = e1 := ⟨_, rfl⟩
  obtain ⟨rfl, b, τ, hr, M2, o2, fM2_0, fM2_1, fM2_2, rfl, rfl⟩ := hx
  dsimp only at H
  show K1 _ _
  refine hK1 _ _ (Rc_ref hr ?_)
  refine Rc.mk ?_
  refine S0 tok [] [2] ?_
  obtain rfl := oi H
  refine Kp [2] ?_
  refine AWP_ret ?_
  refine ⟨[.sl o2 0 y3.length], by simp, M2 + 2, o2, by omega, by omega, by omega, ?_, ?_⟩
  ·simp [encL_nil]
  ·first | rfl | simp [List.set_set]
theorem c22_o5 {p0 : gSquad} {r : gSquad} (H : s_l45Copy_o5 p0 = some r) {σ : AHeap} : ACalls Tryz.prog G 22 [.agg [.fsl (encL rMachine p0.Harts), .fsl (encL rBox p0.Boxes), .int .i64 p0.Turn, .int .i64 p0.Idle, .fsl (encL rI p0.Out)]] σ (fun v σ' => ∃ M n0 n1 n2 : Nat, σ.next ≤ M ∧ σ.next ≤ n0 ∧ n0 < M ∧ σ.next ≤ n1 ∧ n1 < M ∧ σ.next ≤ n2 ∧ n2 < M ∧ ¬ n0 = n1 ∧ ¬ n0 = n2 ∧ ¬ n1 = n2 ∧ v = .agg [.sl n0 0 r.Harts.length, .sl n1 0 r.Boxes.length, .int .i64 r.Turn, .int .i64 r.Idle, .sl n2 0 r.Out.length] ∧ σ' = hp σ.objs [(n0, some ⟨63, 3, encL rMachine_oo r.Harts⟩), (n1, some ⟨93, 2, encL rBox r.Boxes⟩), (n2, some ⟨3, 1, encL rI r.Out⟩)] M) := by
 refine ACalls_fr (L := []) (Q1 := fun v σ' => ∃ M n0 n1 n2 : Nat, σ.next ≤ M ∧ σ.next ≤ n0 ∧ n0 < M ∧ σ.next ≤ n1 ∧ n1 < M ∧ σ.next ≤ n2 ∧ n2 < M ∧ ¬ n0 = n1 ∧ ¬ n0 = n2 ∧ ¬ n1 = n2 ∧ v = .agg [.sl n0 0 r.Harts.length, .sl n1 0 r.Boxes.length, .int .i64 r.Turn, .int .i64 r.Idle, .sl n2 0 r.Out.length] ∧ σ' = hp E0 [(n0, some ⟨63, 3, encL rMachine_oo r.Harts⟩), (n1, some ⟨93, 2, encL rBox r.Boxes⟩), (n2, some ⟨3, 1, encL rI r.Out⟩)] M) (by simp []) (fun hlt => ?_) ?_ ⟨_, Tryz.func22, rfl, rfl⟩
 rotate_left
 ·rintro v σ1 ⟨M, n0, n1, n2, h0, h1, h2, h3, h4, h5, h6, h7, h8, h9, rfl, rfl⟩
  exact ⟨_, M, rfl, by simp, by simp; try omega, M, n0, n1, n2, h0, h1, h2, h3, h4, h5, h6, h7, h8, h9, rfl, rfl⟩
 generalize σ.next = N0 at hlt ⊢
 refine ACalls_thaw 4 ?_
 refine fnK tok Tryz.func22 Tryz.ntmps22 Tryz.results22 ?_
 simp only [argsA, Nat.reduceAdd, hp_next]
 unfold s_l45Copy_o5 at H
 refine S0 tok [0] [1, 2] ?_
 refine gP0 AWP_ref (N0 + 1) 0 0 63 3 (encL rMachine_oo ([] : List gMachine)) ?_
 refine gP0 AWP_ref (N0 + 1) 0 1 93 2 (encL rBox ([] : List gBox)) ?_
 refine gP0 AWP_ref (N0 + 1) 0 4 3 1 (encL rI ([] : List Int)) ?_
 obtain ⟨r1, hr1, H⟩ := bindE H
 obtain ⟨l2, hl2, H⟩ := bindE H
 obtain ⟨l3, hl3, H⟩ := bindE H
 have q0 : ∀ σ i, buildSliceA T 24 true i 0 [] σ = some (.esl, σ) := fun _ _ => rfl
 have q1 : ∀ σ i, buildSliceA T 28 false i 0 [] σ = some (.sl i 0 (List.length l3), σ.put i ⟨63, 3, encL rMachine_oo l3⟩) := by rw [← Option.some.inj hl3]; intro _ _; rfl
 refine AWP_syC tok tokM [8] [0, 3, 11, 13, 14] [1, 2, 4, 5, 6, 7, 8, 9, 10, 3, 11, 0, 12, 13, 14] [] [1, 2, 3] (fun a σ => ∃ M1 o1 : Nat, N0 + 17 ≤ M1 ∧ N0 + 17 ≤ o1 ∧ o1 < M1 ∧ a = [(1, .fptr [.fsl (encL rMachine p0.Harts), .fsl (encL rBox p0.Boxes), .int .i64 p0.Turn, .int .i64 p0.Idle, .fsl (encL rI p0.Out)] 0), (2, .ptr (N0 + 1) 0 0), (3, .ptr (N0 + 15) 0 0)] ∧ σ = hp E0 [(N0 + 1, some ⟨31, 5, [[.osl 63 3 (encL rMachine_oo ([] : List gMachine)), .osl 93 2 (encL rBox ([] : List gBox)), .int .i64 0, .int .i64 0, .osl 3 1 (encL rI ([] : List Int))]]⟩), (o1, some ⟨93, 2, encL rBox r1⟩), (N0 + 13, some ⟨3, 1, encL rI l2⟩), (N0 + 2, some ⟨63, 3, encL rMachine_oo l3⟩), (N0 + 15, some ⟨31, 5, [[.sl (N0 + 2) 0 l3.length, .sl o1 0 r1.length, .int .i64 p0.Turn, .int .i64 p0.Idle, .sl (N0 + 13) 0 l2.length]]⟩)] M1) (by decide) (by kernel_rfl) (fun K hK => ?_) ?_
 ·simp only [pickL, nthO_succ, nthO_zero]
  simp -dsimp -implicitDefEqProofs [q0, appe24 hl2, q1]
  refine (c55_o (H := hr1) ).mono ?_; rintro _ _ ⟨M1, o1, fM1_0, fM1_1, fM1_2, rfl, rfl⟩; simp only [hp_next] at fM1_0 fM1_1 fM1_2
  have eM1_0 := nQ o1 (N0 + 1)
  have eM1_1 := nQ o1 (N0 + 13)
  have eM1_2 := nQ o1 (N0 + 2)
  have eM1_3 := nQ o1 (N0 + 15)
  try simp -dsimp -implicitDefEqProofs [q0, appe24 hl2, q1, eM1_0, eM1_1, eM1_2, eM1_3, hp_over_some, hp_over_none]
  exact hK _ _ ⟨M1, o1, (by omega), (by omega), (by omega), rfl, rfl⟩
 rintro a σ ⟨M1, o1, fM1_0, fM1_1, fM1_2, rfl, rfl⟩
 refine AWP_sq [2, 3] fun K1 hK1 => ?_
 refine Sx tok [] [1, 2, 3, 4] (by
  intro K k
  have e0 := nQ (N0 + 1) o1
  have e1 := nQ o1 (N0 + 13)
  have e2 := nQ o1 (N0 + 2)
  have e3 := nQ o1 (N0 + 15)
  simp -dsimp -implicitDefEqProofs [e0, e1, e2, e3]
  exact k) ?_
 refine AWP_block (AWP_thenB ?_)
 obtain ⟨e1, hse1, H⟩ := bindE H
 refine AWP_lp [1, 2, 3, 4] (fun s a σ => ∃ M2 o2 o3 : Nat, N0 ≤ M2 ∧ N0 ≤ o2 ∧ o2 < M2 ∧ N0 ≤ o3 ∧ o3 < M2 ∧ ¬ o2 = o3 ∧ a = [(1, .fptr [.fsl (encL rMachine p0.Harts), .fsl (encL rBox p0.Boxes), .int .i64 p0.Turn, .int .i64 p0.Idle, .fsl (encL rI p0.Out)] 0), (2, .ptr o2 0 0), (3, .ptr o3 0 0), (4, .int .i64 s.1)] ∧ σ = hp E0 [(o2, some ⟨31, 5, [[.osl 63 3 (encL rMachine_oo s.2.1.Harts), .osl 93 2 (encL rBox s.2.1.Boxes), .int .i64 s.2.1.Turn, .int .i64 s.2.1.Idle, .osl 3 1 (encL rI s.2.1.Out)]]⟩), (o3, some ⟨31, 5, [[.osl 63 3 (encL rMachine_oo s.2.2.Harts), .osl 93 2 (encL rBox s.2.2.Boxes), .int .i64 s.2.2.Turn, .int .i64 s.2.2.Idle, .osl 3 1 (encL rI s.2.2.Out)]]⟩)] M2) (fun s x a σ => x = .exit 0 ∧ Rc G 37 N0 (fun a σ => ∃ M3 o4 o5 : Nat, N0 ≤ M3 ∧ N0 ≤ o4 ∧ o4 < M3 ∧ N0 ≤ o5 ∧ o5 < M3 ∧ ¬ o4 = o5 ∧ a = [(2, .ptr o4 0 0), (3, .ptr o5 0 0)] ∧ σ = hp E0 [(o4, some ⟨31, 5, [[.osl 63 3 (encL rMachine_oo s.1.Harts), .osl 93 2 (encL rBox s.1.Boxes), .int .i64 s.1.Turn, .int .i64 s.1.Idle, .osl 3 1 (encL rI s.1.Out)]]⟩), (o5, some ⟨31, 5, [[.osl 63 3 (encL rMachine_oo s.2.Harts), .osl 93 2 (encL rBox s.2.Boxes), .int .i64 s.2.Turn, .int .i64 s.2.Idle, .osl 3 1 (encL rI s.2.Out)]]⟩)] M3) (AAct.keep a [2, 3]) σ) hse1 ?_ ?_ ?_
 ·refine Rc.kp [1, 2, 3, 4] [(1, .fptr [.fsl (encL rMachine p0.Harts), .fsl (encL rBox p0.Boxes), .int .i64 p0.Turn, .int .i64 p0.Idle, .fsl (encL rI p0.Out)] 0), (2, .ptr (N0 + 1) 0 0), (3, .ptr (N0 + 15) 0 0), (4, .int .i64 0)] rfl ?_
  refine gP Rc_ref (N0 + 15) 0 0 ?_
  refine gP Rc_ref (N0 + 15) 0 1 ?_
  refine gP Rc_ref (N0 + 15) 0 4 ?_
  exact Rf ⟨M1 + 1, (N0 + 1), (N0 + 15), (by omega), (by omega), (by omega), (by omega), (by omega), (by omega), rfl, rfl⟩
 ·clear H hse1
  rintro ⟨s4, s5, s6⟩ fl a σ H ⟨M2, o2, o3, fM2_0, fM2_1, fM2_2, fM2_3, fM2_4, fM2_5, rfl, rfl⟩ K2 O2 hK2 hO2
  unfold s_l45Copy_o5_L1 at H; dsimp only at H
  refine AWP_sq [1, 2, 3, 4] fun K3 hK3 => ?_
  refine Sx tok [] [1, 2, 3, 4, 22] (by
   intro K k
   have e0 := nQ o2 o3
   simp -dsimp -implicitDefEqProofs [e0]
   exact k) ?_
  refine Cd (fun C1 => ?_) fun C1 => ?_
  ·replace H := ifT C1 H
   refine AWP_skip (Jn hK3 ?_)
   refine AWP_sq [1, 2, 3, 4] fun K4 hK4 => ?_
   refine AWP_block (AWP_thenB ?_)
   refine gU AWP_ref o3 0 0 ?_
   obtain ⟨v9, hv9, H⟩ := bindE H
   obtain ⟨r10, hr10, H⟩ := bindE H
   obtain ⟨l11, hl11, H⟩ := bindE H
   have q2 : ∀ (a0 : Nat) (a1 : Nat) (a2 : Int) (a3 : Nat) (a4 : Nat) σ i, buildSliceA T 28 true i 1 [(0, .agg [.sl a0 0 a1, .int .i64 a2, .sl a3 0 a4])] σ = some (.fsl [[.sl a0 0 a1, .int .i64 a2, .sl a3 0 a4]], σ) := fun _ _ _ _ _ _ _ => rfl
   refine AWP_ry tok tokM [8] [1, 7, 8, 9, 11] [0, 2, 3, 4, 5, 6, 1, 7, 8, 9, 10, 11] [(7, [1]), (8, [1])] [1, 2, 3, 4] (fun a σ => ∃ M4 o6 o7 : Nat, M2 + 18 ≤ M4 ∧ M2 + 18 ≤ o6 ∧ o6 < M4 ∧ M2 + 18 ≤ o7 ∧ o7 < M4 ∧ ¬ o6 = o7 ∧ a = [(1, .fptr [.fsl (encL rMachine p0.Harts), .fsl (encL rBox p0.Boxes), .int .i64 p0.Turn, .int .i64 p0.Idle, .fsl (encL rI p0.Out)] 0), (2, .ptr o2 0 0), (3, .ptr o3 0 0), (4, .int .i64 s4)] ∧ σ = hp E0 [(o2, some ⟨31, 5, [[.osl 63 3 (encL rMachine_oo s5.Harts), .osl 93 2 (encL rBox s5.Boxes), .int .i64 s5.Turn, .int .i64 s5.Idle, .osl 3 1 (encL rI s5.Out)]]⟩), (o3, some ⟨31, 5, [[.sl (M2 + 15) 0 l11.length, .osl 93 2 (encL rBox s6.Boxes), .int .i64 s6.Turn, .int .i64 s6.Idle, .osl 3 1 (encL rI s6.Out)]]⟩), (o6, some ⟨3, 1, encL rI r10.Regs⟩), (o7, some ⟨3, 1, encL rI r10.Mem⟩), (M2 + 15, some ⟨63, 3, encL rMachine_oo s6.Harts ++ [[.sl o6 0 r10.Regs.length, .int .i64 r10.Pc, .sl o7 0 r10.Mem.length]]⟩)] M4) (by decide) (fun K hK => ?_) ?_
   ·simp only [pickL, nthO_succ, nthO_zero]
    have e0 := nQ o2 o3
    have e1 := nQ o2 (M2 + 5)
    have e2 := nQ o2 (M2 + 15)
    have e3 := nQ o3 (M2 + 5)
    have e4 := nQ o3 (M2 + 15)
    simp -dsimp -implicitDefEqProofs [e0, e1, e2, e3, e4, ix28 hv9, q2, apr28 rMachine_oo hl11]
    refine (c56_o2 (H := hr10) ).mono ?_; rintro _ _ ⟨M4, o6, o7, fM4_0, fM4_1, fM4_2, fM4_3, fM4_4, fM4_5, rfl, rfl⟩; simp only [hp_next] at fM4_0 fM4_1 fM4_2 fM4_3 fM4_4 fM4_5
    have eM4_0 := nQ o6 o2
    have eM4_1 := nQ o6 o3
    have eM4_2 := nQ o6 (M2 + 5)
    have eM4_3 := nQ o6 (M2 + 15)
    have eM4_4 := nQ o6 o7
    have eM4_5 := nQ o7 o2
    have eM4_6 := nQ o7 o3
    have eM4_7 := nQ o7 (M2 + 5)
    have eM4_8 := nQ o7 (M2 + 15)
    try simp -dsimp -implicitDefEqProofs [e0, e1, e2, e3, e4, ix28 hv9, q2, apr28 rMachine_oo hl11, eM4_0, eM4_1, eM4_2, eM4_3, eM4_4, eM4_5, eM4_6, eM4_7, eM4_8, hp_over_some, hp_over_none]
    exact hK _ _ ⟨M4, o6, o7, (by omega), (by omega), (by omega), (by omega), (by omega), (by omega), rfl, rfl⟩
   rintro a σ ⟨M4, o6, o7, fM4_0, fM4_1, fM4_2, fM4_3, fM4_4, fM4_5, ha, rfl⟩
   refine hK4 _ _ ?_; rw [ha]
   refine Rc.mk ?_
   refine gP AWP_ref (M2 + 15) s6.Harts.length 0 ?_ (hr := by exact app_get _ _ _)
   refine gP AWP_ref (M2 + 15) s6.Harts.length 2 ?_ (hr := by exact app_get _ _ _)
   rw [show hp E0 [(o2, some ⟨31, 5, [[.osl 63 3 (encL rMachine_oo s5.Harts), .osl 93 2 (encL rBox s5.Boxes), .int .i64 s5.Turn, .int .i64 s5.Idle, .osl 3 1 (encL rI s5.Out)]]⟩), (o3, some ⟨31, 5, [[.sl (M2 + 15) 0 l11.length, .osl 93 2 (encL rBox s6.Boxes), .int .i64 s6.Turn, .int .i64 s6.Idle, .osl 3 1 (encL rI s6.Out)]]⟩), (M2 + 15, some ⟨63, 3, encL rMachine_oo s6.Harts ++ [[.osl 3 1 (encL rI r10.Regs), .int .i64 r10.Pc, .osl 3 1 (encL rI r10.Mem)]]⟩)] M4 = hp E0 [(o2, some ⟨31, 5, [[.osl 63 3 (encL rMachine_oo s5.Harts), .osl 93 2 (encL rBox s5.Boxes), .int .i64 s5.Turn, .int .i64 s5.Idle, .osl 3 1 (encL rI s5.Out)]]⟩), (o3, some ⟨31, 5, [[.sl (M2 + 15) 0 l11.length, .osl 93 2 (encL rBox s6.Boxes), .int .i64 s6.Turn, .int .i64 s6.Idle, .osl 3 1 (encL rI s6.Out)]]⟩), (M2 + 15, some ⟨63, 3, encL rMachine_oo l11⟩)] M4 from by rw [← app_enc (f := rMachine_oo) (c := [.osl 3 1 (encL rI r10.Regs), .int .i64 r10.Pc, .osl 3 1 (encL rI r10.Mem)]) hl11 rfl]]
   refine Rt tok [] [1, 2, 3, 4] (by
    intro K k
    have e0 := nQ o2 o3
    have e1 := nQ o2 (M2 + 15)
    have e2 := nQ o3 (M2 + 15)
    simp -dsimp -implicitDefEqProofs [e0, e1, e2]
    exact k) fun a ha => ?_
   obtain rfl := oi H
   refine hK2 _ _ _ rfl ?_; rw [ha]
   refine gP Rc_ref o3 0 0 ?_
   exact Rf ⟨M4 + 3, o2, o3, (by omega), (by omega), (by omega), (by omega), (by omega), (by omega), rfl, rfl⟩
  ·obtain rfl := oi (ifF C1 H)
   refine AWP_exit (hO2 _ _ _ _ rfl ⟨rfl, ?_⟩)
   refine Rc.rw (l := [2, 3]) (X := [(2, .ptr o2 0 0), (3, .ptr o3 0 0)]) rfl ?_
   exact Rf ⟨M2 + 5, o2, o3, (by omega), (by omega), (by omega), (by omega), (by omega), (by omega), rfl, rfl⟩
 ·intro x a σ hx
  obtain ⟨y7, y8⟩ := e1
  obtain ⟨rfl, b, τ, hr, M3, o4, o5, fM3_0, fM3_1, fM3_2, fM3_3, fM3_4, fM3_5, rfl, rfl⟩ := hx
  dsimp only at H
  show K1 _ _
  refine hK1 _ _ (Rc_ref hr ?_)
  refine Rc.mk ?_
  refine gU AWP_ref o5 0 0 ?_
  refine gU AWP_ref o5 0 1 ?_
  refine gU AWP_ref o5 0 4 ?_
  refine Sx tok [] [2] (by
   intro K k
   have e0 := nQ o4 o5
   have e1 := nQ o4 M3
   have e2 := nQ o4 (M3 + 1)
   have e3 := nQ o4 (M3 + 2)
   have e4 := nQ o5 M3
   have e5 := nQ o5 (M3 + 1)
   have e6 := nQ o5 (M3 + 2)
   simp -dsimp -implicitDefEqProofs [e0, e1, e2, e3, e4, e5, e6]
   exact k) ?_
  obtain rfl := oi H
  refine Kp [2] ?_
  refine gDrop AWP_ref [(o4, some ⟨31, 5, [[.sl M3 0 y8.Harts.length, .sl (M3 + 1) 0 y8.Boxes.length, .int .i64 y8.Turn, .int .i64 y8.Idle, .sl (M3 + 2) 0 y8.Out.length]]⟩), (M3, some ⟨63, 3, encL rMachine_oo y8.Harts⟩), (M3 + 1, some ⟨93, 2, encL rBox y8.Boxes⟩), (M3 + 2, some ⟨3, 1, encL rI y8.Out⟩)] (hp_skip (AHeap.Sub.trans (hp_skip (hp_skip (hp_skip (AHeap.Sub.refl _)))) (hp_drop rfl (by simp; try omega)))) ?_
  refine gP AWP_ref o4 0 0 ?_
  refine gP AWP_ref o4 0 1 ?_
  refine gP AWP_ref o4 0 4 ?_
  refine gU AWP_ref o4 0 0 ?_
  refine gU AWP_ref o4 0 1 ?_
  refine gU AWP_ref o4 0 4 ?_
  have z0 := nQ o4 (M3 + 5)
  have z1 := nQ o4 (M3 + 6)
  have z2 := nQ o4 (M3 + 7)
  refine AWP_ret ?_
  refine ⟨[.agg [.sl (M3 + 5) 0 y8.Harts.length, .sl (M3 + 6) 0 y8.Boxes.length, .int .i64 y8.Turn, .int .i64 y8.Idle, .sl (M3 + 7) 0 y8.Out.length]], by simp [z0, z1, z2], (fun o => [o4].contains o), M3 + 8, M3 + 5, M3 + 6, M3 + 7, by omega, by omega, by omega, by omega, by omega, by omega, by omega, by omega, by omega, by omega, ?_, ?_⟩
  ·simp [encL_nil, z0, z1, z2]
  ·rw [cutD (L' := [(M3 + 5, some ⟨63, 3, encL rMachine_oo y8.Harts⟩), (M3 + 6, some ⟨93, 2, encL rBox y8.Boxes⟩), (M3 + 7, some ⟨3, 1, encL rI y8.Out⟩)]) (by simp [z0, z1, z2])]
   first | done | rfl | simp [List.set_set]
theorem c6 {p0 : gSquad} {p1 : Int} {r : gSquad × Bool} (H : s_SquadRun p0 p1 = some r) : APure Tryz.prog G 6 [.agg [.fsl (encL rMachine p0.Harts), .fsl (encL rBox p0.Boxes), .int .i64 p0.Turn, .int .i64 p0.Idle, .fsl (encL rI p0.Out)], .int .i64 p1] (.tup [.agg [.fsl (encL rMachine r.1.Harts), .fsl (encL rBox r.1.Boxes), .int .i64 r.1.Turn, .int .i64 r.1.Idle, .fsl (encL rI r.1.Out)], .bool r.2]) := by
 refine APure_fn (fun N0 => ?_) (by simp)
 refine fnK tok Tryz.func6 Tryz.ntmps6 Tryz.results6 ?_
 simp only [argsA, Nat.reduceAdd, hp_next]
 unfold s_SquadRun at H
 refine S0 tok [0] [1, 2, 4] ?_
 refine AWP_sq [1, 2, 4] fun K1 hK1 => ?_
 refine gW AWP_ref (N0 + 1) 0 0 ?_
 refine gW AWP_ref (N0 + 1) 0 1 ?_
 refine gW AWP_ref (N0 + 1) 0 4 ?_
 obtain ⟨r1, hr1, H⟩ := bindE H
 obtain ⟨g3, hg3, H⟩ := bindE H
 refine Sx tok [] [1, 2, 4, 15] (X := [(1, .int .i64 p1), (2, .fptr [.fsl (encL rMachine p0.Harts), .fsl (encL rBox p0.Boxes), .int .i64 p0.Turn, .int .i64 p0.Idle, .fsl (encL rI p0.Out)] 0), (4, .ptr (N0 + 1) 0 0), (15, .bool g3)]) (Y := hp E0 [(N0 + 1, some ⟨31, 5, [[.fsl [], .fsl [], .int .i64 0, .int .i64 0, .fsl []]]⟩)] (N0 + 11)) (by
  intro K k
  simp -dsimp -implicitDefEqProofs
  refine (c20 hr1).app ?_; try simp -dsimp -implicitDefEqProofs
  cases hbg3 : bnot r1
  ·replace hg3 := ifF hbg3 hg3
   obtain ⟨r2, hr2, hg3⟩ := bindE hg3
   replace hg3 := Option.some.inj hg3; subst hg3
   try simp -dsimp -implicitDefEqProofs [hbg3]
   refine (c21 hr2).app ?_; try simp -dsimp -implicitDefEqProofs [hbg3]
   exact k
  ·replace hg3 := ifT hbg3 hg3
   replace hg3 := Option.some.inj hg3; subst hg3
   try simp -dsimp -implicitDefEqProofs [hbg3]
   exact k) ?_
 refine Cd (fun C1 => ?_) fun C1 => ?_
 ·replace H := ifT C1 H
  refine S0 tok [] [4, 5] ?_
  obtain rfl := oi H
  refine Kp [4, 5] ?_
  refine AWP_ret ?_
  exact ⟨[.agg [.fsl [], .fsl [], .int .i64 0, .int .i64 0, .fsl []], .bool false], by simp, 4, by simp [encL_nil]⟩
 ·replace H := ifF C1 H
  refine AWP_skip (Jn hK1 ?_)
  obtain ⟨r4, hr4, H⟩ := bindE H
  refine AWP_sr tok [] [1, 4, 6] (fun a σ => ∃ M1 o1 o2 o3 : Nat, N0 + 15 ≤ M1 ∧ N0 + 15 ≤ o1 ∧ o1 < M1 ∧ N0 + 15 ≤ o2 ∧ o2 < M1 ∧ N0 + 15 ≤ o3 ∧ o3 < M1 ∧ ¬ o1 = o2 ∧ ¬ o1 = o3 ∧ ¬ o2 = o3 ∧ a = [(1, .int .i64 p1), (4, .ptr (N0 + 1) 0 0), (6, .ptr (N0 + 13) 0 0)] ∧ σ = hp E0 [(N0 + 1, some ⟨31, 5, [[.fsl [], .fsl [], .int .i64 0, .int .i64 0, .fsl []]]⟩), (o1, some ⟨63, 3, encL rMachine_oo r4.Harts⟩), (o2, some ⟨93, 2, encL rBox r4.Boxes⟩), (o3, some ⟨3, 1, encL rI r4.Out⟩), (N0 + 13, some ⟨31, 5, [[.sl o1 0 r4.Harts.length, .sl o2 0 r4.Boxes.length, .int .i64 r4.Turn, .int .i64 r4.Idle, .sl o3 0 r4.Out.length]]⟩)] M1) (fun K hK => ?_) ?_
  ·skip
   simp -dsimp -implicitDefEqProofs
   refine (c22_o5 (H := hr4) ).mono ?_; rintro _ _ ⟨M1, o1, o2, o3, fM1_0, fM1_1, fM1_2, fM1_3, fM1_4, fM1_5, fM1_6, fM1_7, fM1_8, fM1_9, rfl, rfl⟩; simp only [hp_next] at fM1_0 fM1_1 fM1_2 fM1_3 fM1_4 fM1_5 fM1_6 fM1_7 fM1_8 fM1_9
   have eM1_0 := nQ o1 (N0 + 1)
   have eM1_1 := nQ o1 (N0 + 13)
   have eM1_2 := nQ o1 o2
   have eM1_3 := nQ o1 o3
   have eM1_4 := nQ o2 (N0 + 1)
   have eM1_5 := nQ o2 (N0 + 13)
   have eM1_6 := nQ o2 o3
   have eM1_7 := nQ o3 (N0 + 1)
   have eM1_8 := nQ o3 (N0 + 13)
   try simp -dsimp -implicitDefEqProofs [eM1_0, eM1_1, eM1_2, eM1_3, eM1_4, eM1_5, eM1_6, eM1_7, eM1_8, hp_over_some, hp_over_none]
   exact hK _ _ ⟨M1, o1, o2, o3, (by omega), (by omega), (by omega), (by omega), (by omega), (by omega), (by omega), (by omega), (by omega), (by omega), rfl, rfl⟩
  rintro a σ ⟨M1, o1, o2, o3, fM1_0, fM1_1, fM1_2, fM1_3, fM1_4, fM1_5, fM1_6, fM1_7, fM1_8, fM1_9, rfl, rfl⟩
  refine AWP_sq [4, 6] fun K2 hK2 => ?_
  refine Sx tok [] [1, 4, 6, 7] (by
   intro K k
   have e0 := nQ (N0 + 1) o1
   have e1 := nQ (N0 + 1) o2
   have e2 := nQ (N0 + 1) o3
   have e3 := nQ o1 o2
   have e4 := nQ o1 o3
   have e5 := nQ o1 (N0 + 13)
   have e6 := nQ o2 o3
   have e7 := nQ o2 (N0 + 13)
   have e8 := nQ o3 (N0 + 13)
   simp -dsimp -implicitDefEqProofs [e0, e1, e2, e3, e4, e5, e6, e7, e8]
   exact k) ?_
  refine AWP_block (AWP_thenB ?_)
  obtain ⟨e1, hse1, H⟩ := bindE H
  refine AWP_lp [1, 4, 6, 7] (fun s a σ => ∃ M2 o4 o5 : Nat, N0 ≤ M2 ∧ N0 ≤ o4 ∧ o4 < M2 ∧ N0 ≤ o5 ∧ o5 < M2 ∧ ¬ o4 = o5 ∧ a = [(1, .int .i64 p1), (4, .ptr o4 0 0), (6, .ptr o5 0 0), (7, .int .i64 s.1)] ∧ σ = hp E0 [(o4, some ⟨31, 5, [[.fsl (encL rMachine s.2.1.Harts), .fsl (encL rBox s.2.1.Boxes), .int .i64 s.2.1.Turn, .int .i64 s.2.1.Idle, .fsl (encL rI s.2.1.Out)]]⟩), (o5, some ⟨31, 5, [[.osl 63 3 (encL rMachine_oo s.2.2.Harts), .osl 93 2 (encL rBox s.2.2.Boxes), .int .i64 s.2.2.Turn, .int .i64 s.2.2.Idle, .osl 3 1 (encL rI s.2.2.Out)]]⟩)] M2) (fun e x a σ => match e with | .inl s => x = .exit 0 ∧ Rc G 36 N0 (fun a σ => ∃ M3 o6 o7 : Nat, N0 ≤ M3 ∧ N0 ≤ o6 ∧ o6 < M3 ∧ N0 ≤ o7 ∧ o7 < M3 ∧ ¬ o6 = o7 ∧ a = [(4, .ptr o6 0 0), (6, .ptr o7 0 0)] ∧ σ = hp E0 [(o6, some ⟨31, 5, [[.fsl (encL rMachine s.1.Harts), .fsl (encL rBox s.1.Boxes), .int .i64 s.1.Turn, .int .i64 s.1.Idle, .fsl (encL rI s.1.Out)]]⟩), (o7, some ⟨31, 5, [[.osl 63 3 (encL rMachine_oo s.2.Harts), .osl 93 2 (encL rBox s.2.Boxes), .int .i64 s.2.Turn, .int .i64 s.2.Idle, .osl 3 1 (encL rI s.2.Out)]]⟩)] M3) (AAct.keep a [4, 6]) σ | .inr s => x = .ret ∧ ∃ vs, resA T σ a [.cell 4 31, .tmp 5] = some vs ∧ ∃ d, thawA (fun _ => true) σ d (tupA vs) = .tup [.agg [.fsl (encL rMachine s.1.Harts), .fsl (encL rBox s.1.Boxes), .int .i64 s.1.Turn, .int .i64 s.1.Idle, .fsl (encL rI s.1.Out)], .bool s.2]) hse1 ?_ ?_ ?_
  ·refine Rc.kp [1, 4, 6, 7] [(1, .int .i64 p1), (4, .ptr (N0 + 1) 0 0), (6, .ptr (N0 + 13) 0 0), (7, .int .i64 0)] rfl ?_
   refine gP Rc_ref (N0 + 13) 0 0 ?_
   refine gP Rc_ref (N0 + 13) 0 1 ?_
   refine gP Rc_ref (N0 + 13) 0 4 ?_
   exact Rf ⟨M1 + 1, (N0 + 1), (N0 + 13), (by omega), (by omega), (by omega), (by omega), (by omega), (by omega), rfl, rfl⟩
  ·clear H hse1
   rintro ⟨s5, s6, s7⟩ fl a σ H ⟨M2, o4, o5, fM2_0, fM2_1, fM2_2, fM2_3, fM2_4, fM2_5, rfl, rfl⟩ K3 O3 hK3 hO3
   unfold s_SquadRun_L1 at H; dsimp only at H
   refine AWP_sq [1, 4, 6, 7] fun K4 hK4 => ?_
   refine gU AWP_ref o5 0 0 ?_
   obtain ⟨g10, hg10, H⟩ := bindE H
   refine Sx tok [] [1, 4, 6, 7, 29] (X := [(1, .int .i64 p1), (4, .ptr o4 0 0), (6, .ptr o5 0 0), (7, .int .i64 s5), (29, .bool g10)]) (Y := hp E0 [(o4, some ⟨31, 5, [[.fsl (encL rMachine s6.Harts), .fsl (encL rBox s6.Boxes), .int .i64 s6.Turn, .int .i64 s6.Idle, .fsl (encL rI s6.Out)]]⟩), (o5, some ⟨31, 5, [[.sl M2 0 s7.Harts.length, .osl 93 2 (encL rBox s7.Boxes), .int .i64 s7.Turn, .int .i64 s7.Idle, .osl 3 1 (encL rI s7.Out)]]⟩), (M2, some ⟨63, 3, encL rMachine_oo s7.Harts⟩)] (M2 + 12)) (by
    intro K k
    have e0 := nQ o4 o5
    have e1 := nQ o4 M2
    have e2 := nQ o5 M2
    simp -dsimp -implicitDefEqProofs [e0, e1, e2]
    cases hbg10 : ilt s5 p1
    ·replace hg10 := ifF hbg10 hg10
     replace hg10 := Option.some.inj hg10; subst hg10
     try simp -dsimp -implicitDefEqProofs [e0, e1, e2, hbg10]
     exact k
    ·replace hg10 := ifT hbg10 hg10
     replace hg10 := Option.some.inj hg10; subst hg10
     try simp -dsimp -implicitDefEqProofs [e0, e1, e2, hbg10]
     exact k) ?_
   refine Cd (fun C2 => ?_) fun C2 => ?_
   ·replace H := ifT C2 H
    refine AWP_skip (Jn hK4 ?_)
    refine AWP_sq [1, 4, 6, 7] fun K5 hK5 => ?_
    refine AWP_block (AWP_thenB ?_)
    refine gP AWP_ref o5 0 0 ?_
    obtain ⟨r11, hr11, H⟩ := bindE H
    refine AWP_sr tok [] [1, 4, 6, 7, 33] (fun a σ => ∃ M4 : Nat, M2 + 14 ≤ M4 ∧ a = [(1, .int .i64 p1), (4, .ptr o4 0 0), (6, .ptr o5 0 0), (7, .int .i64 s5), (33, .bool (bnot r11.1))] ∧ σ = hp E0 [(o4, some ⟨31, 5, [[.fsl (encL rMachine s6.Harts), .fsl (encL rBox s6.Boxes), .int .i64 s6.Turn, .int .i64 s6.Idle, .fsl (encL rI s6.Out)]]⟩), (o5, some ⟨31, 5, [[.osl 63 3 (encL rMachine_oo r11.2.Harts), .osl 93 2 (encL rBox r11.2.Boxes), .int .i64 r11.2.Turn, .int .i64 r11.2.Idle, .osl 3 1 (encL rI r11.2.Out)]]⟩)] M4) (fun K hK => ?_) ?_
    ·skip
     have e0 := nQ o4 o5
     simp -dsimp -implicitDefEqProofs [e0]
     refine (c23 (W0 := [[.osl 63 3 (encL rMachine_oo s7.Harts), .osl 93 2 (encL rBox s7.Boxes), .int .i64 s7.Turn, .int .i64 s7.Idle, .osl 3 1 (encL rI s7.Out)]]) (r0_ := 0) (H := hr11) (by simp [e0]) (by simp [e0])).mono ?_; rintro _ _ ⟨M4, fM4_0, rfl, rfl⟩; simp only [hp_next] at fM4_0
     try simp -dsimp -implicitDefEqProofs [e0, hp_over_some, hp_over_none]
     exact hK _ _ ⟨M4, (by omega), rfl, rfl⟩
    rintro a σ ⟨M4, fM4_0, rfl, rfl⟩
    refine Cd (fun C3 => ?_) fun C3 => ?_
    ·replace H := ifT C3 H
     refine Sx tok [] [4, 5] (by
      intro K k
      have e0 := nQ o4 o5
      simp -dsimp -implicitDefEqProofs [e0]
      exact k) ?_
     obtain rfl := oi H
     refine Kp [4, 5] ?_
     have z0 := nQ o4 o5
     refine AWP_ret (hO3 _ _ _ _ rfl ⟨rfl, ?_⟩)
     exact ⟨[.agg [.fsl [], .fsl [], .int .i64 0, .int .i64 0, .fsl []], .bool false], by simp [z0], 4, by simp [encL_nil, z0]⟩
    ·replace H := ifF C3 H
     refine AWP_skip (Jn hK5 ?_)
     refine Rt tok [] [1, 4, 6, 7] (by
      intro K k
      have e0 := nQ o4 o5
      simp -dsimp -implicitDefEqProofs [e0]
      exact k) fun a ha => ?_
     obtain rfl := oi H
     refine hK3 _ _ _ rfl ?_; rw [ha]
     exact Rf ⟨M4 + 3, o4, o5, (by omega), (by omega), (by omega), (by omega), (by omega), (by omega), rfl, rfl⟩
   ·obtain rfl := oi (ifF C2 H)
    refine AWP_exit (hO3 _ _ _ _ rfl ⟨rfl, ?_⟩)
    refine Rc.rw (l := [4, 6]) (X := [(4, .ptr o4 0 0), (6, .ptr o5 0 0)]) rfl ?_
    refine gP Rc_ref o5 0 0 ?_
    exact Rf ⟨M2 + 12, o4, o5, (by omega), (by omega), (by omega), (by omega), (by omega), (by omega), rfl, rfl⟩
  ·intro x a σ hx
   rcases e1 with ⟨y8, y9⟩ | r0
   ·obtain ⟨rfl, b, τ, hr, M3, o6, o7, fM3_0, fM3_1, fM3_2, fM3_3, fM3_4, fM3_5, rfl, rfl⟩ := hx
    dsimp only at H
    show K2 _ _
    refine hK2 _ _ (Rc_ref hr ?_)
    refine Rc.mk ?_
    refine gU AWP_ref o7 0 0 ?_
    refine gU AWP_ref o7 0 1 ?_
    refine gU AWP_ref o7 0 4 ?_
    refine Sx tok [] [4, 5] (by
     intro K k
     have e0 := nQ o6 o7
     have e1 := nQ o6 M3
     have e2 := nQ o6 (M3 + 1)
     have e3 := nQ o6 (M3 + 2)
     have e4 := nQ o7 M3
     have e5 := nQ o7 (M3 + 1)
     have e6 := nQ o7 (M3 + 2)
     simp -dsimp -implicitDefEqProofs [e0, e1, e2, e3, e4, e5, e6]
     exact k) ?_
    obtain rfl := oi H
    refine Kp [4, 5] ?_
    have z1 := nQ o6 o7
    have z2 := nQ o6 M3
    have z3 := nQ o6 (M3 + 1)
    have z4 := nQ o6 (M3 + 2)
    have z5 := nQ o7 M3
    have z6 := nQ o7 (M3 + 1)
    have z7 := nQ o7 (M3 + 2)
    refine AWP_ret ?_
    exact ⟨[.agg [.sl M3 0 y9.Harts.length, .sl (M3 + 1) 0 y9.Boxes.length, .int .i64 y9.Turn, .int .i64 y9.Idle, .sl (M3 + 2) 0 y9.Out.length], .bool true], by simp [z1, z2, z3, z4, z5, z6, z7], 4, by simp [encL_nil, z1, z2, z3, z4, z5, z6, z7]⟩
   ·obtain ⟨rfl, hx2⟩ := hx
    dsimp only at H
    obtain rfl := oi H; first | exact hx2 | (simp only [List.set_set] at hx2 ⊢; exact hx2)
theorem c97 {p0 : Int} {r : Bool} (H : i_WordValid p0 = some r) : APure Tryz.prog G 97 [.int .i64 p0] (.bool r) := by
 refine APure_fn (fun N0 => ?_) (by simp)
 refine fnK tok Tryz.func97 Tryz.ntmps97 Tryz.results97 ?_
 simp only [argsA, Nat.reduceAdd, hp_next]
 unfold i_WordValid at H
 refine S0 tok [] [0] ?_
 obtain ⟨g1, hg1, H⟩ := bindE H
 refine Sx tok [] [2] (X := [(2, .bool g1)]) (Y := hp E0 [] (N0 + 8)) (by
  intro K k
  simp -dsimp -implicitDefEqProofs
  cases hbg1 : ige p0 (-2147483648)
  ·replace hg1 := ifF hbg1 hg1
   replace hg1 := Option.some.inj hg1; subst hg1
   try simp -dsimp -implicitDefEqProofs [hbg1]
   exact k
  ·replace hg1 := ifT hbg1 hg1
   replace hg1 := Option.some.inj hg1; subst hg1
   try simp -dsimp -implicitDefEqProofs [hbg1]
   exact k) ?_
 obtain rfl := oi H; exact AWP_ret ⟨_, rfl, 4, by simp [encL_nil]⟩
theorem c106 {p0 : (List Int)} {r : Bool} (H : i_areWords p0 = some r) : APure Tryz.prog G 106 [.fsl (encL rI p0)] (.bool r) := by
 refine APure_fn (fun N0 => ?_) (by simp)
 refine fnK tok Tryz.func106 Tryz.ntmps106 Tryz.results106 ?_
 simp only [argsA, Nat.reduceAdd, hp_next]
 unfold i_areWords at H
 refine S0 tok [] [0] ?_
 refine AWP_sq [] fun K1 hK1 => ?_
 refine S0 tok [] [5, 6, 7] ?_
 refine AWP_block (AWP_thenB ?_)
 obtain ⟨e1, hse1, H⟩ := bindE H
 refine AWP_lp [5, 6, 7] (fun s a σ => ∃ M1 : Nat, N0 ≤ M1 ∧ a = [(5, .fsl (encL rI p0)), (6, .int .i64 (ilen p0)), (7, .int .i64 s)] ∧ σ = hp E0 [] M1) (fun e x a σ => match e with | .inl s => x = .exit 0 ∧ Rc G 15 N0 (fun a σ => ∃ M2 : Nat, N0 ≤ M2 ∧ a = [] ∧ σ = hp E0 [] M2) (AAct.keep a []) σ | .inr s => x = .ret ∧ ∃ vs, resA T σ a [.tmp 2] = some vs ∧ ∃ d, thawA (fun _ => true) σ d (tupA vs) = .bool s) hse1 ?_ ?_ ?_
 ·refine Rc.kp [5, 6, 7] [(5, .fsl (encL rI p0)), (6, .int .i64 (ilen p0)), (7, .int .i64 0)] rfl ?_
  exact Rf ⟨N0 + 4, (by omega), rfl, rfl⟩
 ·clear H hse1
  rintro s1 fl a σ H ⟨M1, fM1_0, rfl, rfl⟩ K2 O2 hK2 hO2
  unfold i_areWords_L1 at H; dsimp only at H
  refine S0 tok [] [5, 6, 7, 8] ?_
  refine AWP_sq [5, 6, 7] fun K3 hK3 => ?_
  refine Cd (fun C1 => ?_) fun C1 => ?_
  ·replace H := ifT C1 H
   refine AWP_skip (Jn hK3 ?_)
   refine AWP_sq [5, 6, 7] fun K4 hK4 => ?_
   refine AWP_block (AWP_thenB ?_)
   obtain ⟨v2, hv2, H⟩ := bindE H
   refine Sx tok [] [4, 5, 6, 7] (by intro K k; simp -dsimp -implicitDefEqProofs [ix24 hv2]; exact k) ?_
   obtain ⟨r3, hr3, H⟩ := bindE H
   refine Sx tok [] [5, 6, 7, 13] (by intro K k; (repeat first | simp -dsimp -implicitDefEqProofs | refine (c97 hr3).app ?_); exact k) ?_
   refine Cd (fun C2 => ?_) fun C2 => ?_
   ·replace H := ifT C2 H
    refine S0 tok [] [2] ?_
    obtain rfl := oi H
    refine Kp [2] ?_
    refine AWP_ret (hO2 _ _ _ _ rfl ⟨rfl, ?_⟩)
    exact ⟨[.bool false], by simp, 4, by simp [encL_nil]⟩
   ·replace H := ifF C2 H
    refine AWP_skip (Jn hK4 ?_)
    refine Rt0 tok [] [5, 6, 7] fun a ha => ?_
    obtain rfl := oi H
    refine hK2 _ _ _ rfl ?_; rw [ha]
    exact Rf ⟨M1 + 9, (by omega), rfl, rfl⟩
  ·obtain rfl := oi (ifF C1 H)
   refine AWP_exit (hO2 _ _ _ _ rfl ⟨rfl, ?_⟩)
   refine Rc.rw (l := []) (X := []) rfl ?_
   exact Rf ⟨M1 + 1, (by omega), rfl, rfl⟩
 ·intro x a σ hx
  rcases e1 with ⟨⟩ | r0
  ·obtain ⟨rfl, b, τ, hr, M2, fM2_0, rfl, rfl⟩ := hx
   dsimp only at H
   show K1 _ _
   refine hK1 _ _ (Rc_ref hr ?_)
   refine Rc.mk ?_
   refine S0 tok [] [2] ?_
   obtain rfl := oi H; exact AWP_ret ⟨_, rfl, 4, by simp [encL_nil]⟩
  ·obtain ⟨rfl, hx2⟩ := hx
   dsimp only at H
   obtain rfl := oi H; first | exact hx2 | (simp only [List.set_set] at hx2 ⊢; exact hx2)
theorem c63 {p0 : Int} {p1 : Int} {p2 : Int} {p3 : (List Int)} {r : Bool} (H : i_turnsValid p0 p1 p2 p3 = some r) : APure Tryz.prog G 63 [.int .i64 p0, .int .i64 p1, .int .i64 p2, .fsl (encL rI p3)] (.bool r) := by
 refine APure_fn (fun N0 => ?_) (by simp)
 refine fnK tok Tryz.func63 Tryz.ntmps63 Tryz.results63 ?_
 simp only [argsA, Nat.reduceAdd, hp_next]
 unfold i_turnsValid at H
 refine S0 tok [] [0, 1, 2, 3] ?_
 obtain ⟨g1, hg1, H⟩ := bindE H
 obtain ⟨g2, hg2, H⟩ := bindE H
 obtain ⟨g3, hg3, H⟩ := bindE H
 obtain ⟨g4, hg4, H⟩ := bindE H
 obtain ⟨g5, hg5, H⟩ := bindE H
 obtain ⟨g7, hg7, H⟩ := bindE H
 refine Sx tok [] [8] (X := [(8, .bool g7)]) (Y := hp E0 [] (N0 + 30)) (by
  intro K k
  simp -dsimp -implicitDefEqProofs
  cases hbg1 : ige p0 1
  ·replace hg1 := ifF hbg1 hg1
   replace hg1 := Option.some.inj hg1; subst hg1
   try simp -dsimp -implicitDefEqProofs [hbg1]
   replace hg2 := ifF rfl hg2
   replace hg2 := Option.some.inj hg2; subst hg2
   try simp -dsimp -implicitDefEqProofs [hbg1]
   replace hg3 := ifF rfl hg3
   replace hg3 := Option.some.inj hg3; subst hg3
   try simp -dsimp -implicitDefEqProofs [hbg1]
   replace hg4 := ifF rfl hg4
   replace hg4 := Option.some.inj hg4; subst hg4
   try simp -dsimp -implicitDefEqProofs [hbg1]
   replace hg5 := ifF rfl hg5
   replace hg5 := Option.some.inj hg5; subst hg5
   try simp -dsimp -implicitDefEqProofs [hbg1]
   replace hg7 := ifF rfl hg7
   replace hg7 := Option.some.inj hg7; subst hg7
   try simp -dsimp -implicitDefEqProofs [hbg1]
   exact k
  ·replace hg1 := ifT hbg1 hg1
   replace hg1 := Option.some.inj hg1; subst hg1
   try simp -dsimp -implicitDefEqProofs [hbg1]
   cases hbg2 : (ile p0 3)
   ·replace hg2 := ifF hbg2 hg2
    replace hg2 := Option.some.inj hg2; subst hg2
    try simp -dsimp -implicitDefEqProofs [hbg1, hbg2]
    replace hg3 := ifF rfl hg3
    replace hg3 := Option.some.inj hg3; subst hg3
    try simp -dsimp -implicitDefEqProofs [hbg1, hbg2]
    replace hg4 := ifF rfl hg4
    replace hg4 := Option.some.inj hg4; subst hg4
    try simp -dsimp -implicitDefEqProofs [hbg1, hbg2]
    replace hg5 := ifF rfl hg5
    replace hg5 := Option.some.inj hg5; subst hg5
    try simp -dsimp -implicitDefEqProofs [hbg1, hbg2]
    replace hg7 := ifF rfl hg7
    replace hg7 := Option.some.inj hg7; subst hg7
    try simp -dsimp -implicitDefEqProofs [hbg1, hbg2]
    exact k
   ·replace hg2 := ifT hbg2 hg2
    replace hg2 := Option.some.inj hg2; subst hg2
    try simp -dsimp -implicitDefEqProofs [hbg1, hbg2]
    cases hbg3 : (ige p1 0)
    ·replace hg3 := ifF hbg3 hg3
     replace hg3 := Option.some.inj hg3; subst hg3
     try simp -dsimp -implicitDefEqProofs [hbg1, hbg2, hbg3]
     replace hg4 := ifF rfl hg4
     replace hg4 := Option.some.inj hg4; subst hg4
     try simp -dsimp -implicitDefEqProofs [hbg1, hbg2, hbg3]
     replace hg5 := ifF rfl hg5
     replace hg5 := Option.some.inj hg5; subst hg5
     try simp -dsimp -implicitDefEqProofs [hbg1, hbg2, hbg3]
     replace hg7 := ifF rfl hg7
     replace hg7 := Option.some.inj hg7; subst hg7
     try simp -dsimp -implicitDefEqProofs [hbg1, hbg2, hbg3]
     exact k
    ·replace hg3 := ifT hbg3 hg3
     replace hg3 := Option.some.inj hg3; subst hg3
     try simp -dsimp -implicitDefEqProofs [hbg1, hbg2, hbg3]
     cases hbg4 : (ilt p1 p0)
     ·replace hg4 := ifF hbg4 hg4
      replace hg4 := Option.some.inj hg4; subst hg4
      try simp -dsimp -implicitDefEqProofs [hbg1, hbg2, hbg3, hbg4]
      replace hg5 := ifF rfl hg5
      replace hg5 := Option.some.inj hg5; subst hg5
      try simp -dsimp -implicitDefEqProofs [hbg1, hbg2, hbg3, hbg4]
      replace hg7 := ifF rfl hg7
      replace hg7 := Option.some.inj hg7; subst hg7
      try simp -dsimp -implicitDefEqProofs [hbg1, hbg2, hbg3, hbg4]
      exact k
     ·replace hg4 := ifT hbg4 hg4
      replace hg4 := Option.some.inj hg4; subst hg4
      try simp -dsimp -implicitDefEqProofs [hbg1, hbg2, hbg3, hbg4]
      cases hbg5 : (ige p2 0)
      ·replace hg5 := ifF hbg5 hg5
       replace hg5 := Option.some.inj hg5; subst hg5
       try simp -dsimp -implicitDefEqProofs [hbg1, hbg2, hbg3, hbg4, hbg5]
       replace hg7 := ifF rfl hg7
       replace hg7 := Option.some.inj hg7; subst hg7
       try simp -dsimp -implicitDefEqProofs [hbg1, hbg2, hbg3, hbg4, hbg5]
       exact k
      ·replace hg5 := ifT hbg5 hg5
       replace hg5 := Option.some.inj hg5; subst hg5
       try simp -dsimp -implicitDefEqProofs [hbg1, hbg2, hbg3, hbg4, hbg5]
       cases hbg7 : (ile p2 p0)
       ·replace hg7 := ifF hbg7 hg7
        replace hg7 := Option.some.inj hg7; subst hg7
        try simp -dsimp -implicitDefEqProofs [hbg1, hbg2, hbg3, hbg4, hbg5, hbg7]
        exact k
       ·replace hg7 := ifT hbg7 hg7
        obtain ⟨r6, hr6, hg7⟩ := bindE hg7
        replace hg7 := Option.some.inj hg7; subst hg7
        try simp -dsimp -implicitDefEqProofs [hbg1, hbg2, hbg3, hbg4, hbg5, hbg7]
        refine (c106 hr6).app ?_; try simp -dsimp -implicitDefEqProofs [hbg1, hbg2, hbg3, hbg4, hbg5, hbg7]
        exact k) ?_
 obtain rfl := oi H; exact AWP_ret ⟨_, rfl, 4, by simp [encL_nil]⟩
theorem c107 {p0 : gBox} {r : Bool} (H : i_BoxValid p0 = some r) : APure Tryz.prog G 107 [.agg [.int .i64 p0.Room, .fsl (encL rI p0.Items)]] (.bool r) := by
 refine APure_fn (fun N0 => ?_) (by simp)
 refine fnK tok Tryz.func107 Tryz.ntmps107 Tryz.results107 ?_
 simp only [argsA, Nat.reduceAdd, hp_next]
 unfold i_BoxValid at H
 refine S0 tok [0] [1] ?_
 obtain ⟨g1, hg1, H⟩ := bindE H
 obtain ⟨g2, hg2, H⟩ := bindE H
 obtain ⟨g4, hg4, H⟩ := bindE H
 refine Sx tok [] [2] (X := [(2, .bool g4)]) (Y := hp E0 [] (N0 + 24)) (by
  intro K k
  simp -dsimp -implicitDefEqProofs
  cases hbg1 : ige p0.Room 1
  ·replace hg1 := ifF hbg1 hg1
   replace hg1 := Option.some.inj hg1; subst hg1
   try simp -dsimp -implicitDefEqProofs [hbg1]
   replace hg2 := ifF rfl hg2
   replace hg2 := Option.some.inj hg2; subst hg2
   try simp -dsimp -implicitDefEqProofs [hbg1]
   replace hg4 := ifF rfl hg4
   replace hg4 := Option.some.inj hg4; subst hg4
   try simp -dsimp -implicitDefEqProofs [hbg1]
   exact k
  ·replace hg1 := ifT hbg1 hg1
   replace hg1 := Option.some.inj hg1; subst hg1
   try simp -dsimp -implicitDefEqProofs [hbg1]
   cases hbg2 : (ile p0.Room 4)
   ·replace hg2 := ifF hbg2 hg2
    replace hg2 := Option.some.inj hg2; subst hg2
    try simp -dsimp -implicitDefEqProofs [hbg1, hbg2]
    replace hg4 := ifF rfl hg4
    replace hg4 := Option.some.inj hg4; subst hg4
    try simp -dsimp -implicitDefEqProofs [hbg1, hbg2]
    exact k
   ·replace hg2 := ifT hbg2 hg2
    replace hg2 := Option.some.inj hg2; subst hg2
    try simp -dsimp -implicitDefEqProofs [hbg1, hbg2]
    cases hbg4 : (ile (ilen p0.Items) p0.Room)
    ·replace hg4 := ifF hbg4 hg4
     replace hg4 := Option.some.inj hg4; subst hg4
     try simp -dsimp -implicitDefEqProofs [hbg1, hbg2, hbg4]
     exact k
    ·replace hg4 := ifT hbg4 hg4
     obtain ⟨r3, hr3, hg4⟩ := bindE hg4
     replace hg4 := Option.some.inj hg4; subst hg4
     try simp -dsimp -implicitDefEqProofs [hbg1, hbg2, hbg4]
     refine (c106 hr3).app ?_; try simp -dsimp -implicitDefEqProofs [hbg1, hbg2, hbg4]
     exact k) ?_
 obtain rfl := oi H; exact AWP_ret ⟨_, rfl, 4, by simp [encL_nil]⟩
theorem c64 {p0 : (List gBox)} {r : Bool} (H : i_boxesValid p0 = some r) : APure Tryz.prog G 64 [.fsl (encL rBox p0)] (.bool r) := by
 refine APure_fn (fun N0 => ?_) (by simp)
 refine fnK tok Tryz.func64 Tryz.ntmps64 Tryz.results64 ?_
 simp only [argsA, Nat.reduceAdd, hp_next]
 unfold i_boxesValid at H
 refine S0 tok [] [0] ?_
 refine AWP_sq [0] fun K1 hK1 => ?_
 refine S0 tok [] [0, 5, 6, 7] ?_
 refine AWP_block (AWP_thenB ?_)
 obtain ⟨e1, hse1, H⟩ := bindE H
 refine AWP_lp [0, 5, 6, 7] (fun s a σ => ∃ M1 : Nat, N0 ≤ M1 ∧ a = [(0, .fsl (encL rBox p0)), (5, .fsl (encL rBox p0)), (6, .int .i64 (ilen p0)), (7, .int .i64 s)] ∧ σ = hp E0 [] M1) (fun e x a σ => match e with | .inl s => x = .exit 0 ∧ Rc G 18 N0 (fun a σ => ∃ M2 : Nat, N0 ≤ M2 ∧ a = [(0, .fsl (encL rBox p0))] ∧ σ = hp E0 [] M2) (AAct.keep a [0]) σ | .inr s => x = .ret ∧ ∃ vs, resA T σ a [.tmp 2] = some vs ∧ ∃ d, thawA (fun _ => true) σ d (tupA vs) = .bool s) hse1 ?_ ?_ ?_
 ·refine Rc.kp [0, 5, 6, 7] [(0, .fsl (encL rBox p0)), (5, .fsl (encL rBox p0)), (6, .int .i64 (ilen p0)), (7, .int .i64 0)] rfl ?_
  exact Rf ⟨N0 + 4, (by omega), rfl, rfl⟩
 ·clear H hse1
  rintro s1 fl a σ H ⟨M1, fM1_0, rfl, rfl⟩ K2 O2 hK2 hO2
  unfold i_boxesValid_L1 at H; dsimp only at H
  refine S0 tok [] [0, 5, 6, 7, 8] ?_
  refine AWP_sq [0, 5, 6, 7] fun K3 hK3 => ?_
  refine Cd (fun C1 => ?_) fun C1 => ?_
  ·replace H := ifT C1 H
   refine AWP_skip (Jn hK3 ?_)
   refine AWP_sq [0, 5, 6, 7] fun K4 hK4 => ?_
   refine AWP_block (AWP_thenB ?_)
   obtain ⟨v2, hv2, H⟩ := bindE H
   refine Sx tok [] [0, 4, 5, 6, 7] (by intro K k; simp -dsimp -implicitDefEqProofs [ix29 hv2]; exact k) ?_
   obtain ⟨r3, hr3, H⟩ := bindE H
   refine Sx tok [] [0, 5, 6, 7, 13] (by intro K k; (repeat first | simp -dsimp -implicitDefEqProofs | refine (c107 hr3).app ?_); exact k) ?_
   refine Cd (fun C2 => ?_) fun C2 => ?_
   ·replace H := ifT C2 H
    refine S0 tok [] [2] ?_
    obtain rfl := oi H
    refine Kp [2] ?_
    refine AWP_ret (hO2 _ _ _ _ rfl ⟨rfl, ?_⟩)
    exact ⟨[.bool false], by simp, 4, by simp [encL_nil]⟩
   ·replace H := ifF C2 H
    refine AWP_skip (Jn hK4 ?_)
    refine Rt0 tok [] [0, 5, 6, 7] fun a ha => ?_
    obtain rfl := oi H
    refine hK2 _ _ _ rfl ?_; rw [ha]
    exact Rc.fin (AHeap.Sub.trans (AHeap.Sub.refl _) (hp_drop rfl (by simp; try omega))) ⟨M1 + 10, (by omega), rfl, rfl⟩
  ·obtain rfl := oi (ifF C1 H)
   refine AWP_exit (hO2 _ _ _ _ rfl ⟨rfl, ?_⟩)
   refine Rc.rw (l := [0]) (X := [(0, .fsl (encL rBox p0))]) rfl ?_
   exact Rf ⟨M1 + 1, (by omega), rfl, rfl⟩
 ·intro x a σ hx
  rcases e1 with ⟨⟩ | r0
  ·obtain ⟨rfl, b, τ, hr, M2, fM2_0, rfl, rfl⟩ := hx
   dsimp only at H
   show K1 _ _
   refine hK1 _ _ (Rc_ref hr ?_)
   refine Rc.mk ?_
   refine S0 tok [] [2] ?_
   obtain rfl := oi H; exact AWP_ret ⟨_, rfl, 4, by simp [encL_nil]⟩
  ·obtain ⟨rfl, hx2⟩ := hx
   dsimp only at H
   obtain rfl := oi H; first | exact hx2 | (simp only [List.set_set] at hx2 ⊢; exact hx2)
theorem c67 {p0 : gMachine} {r : Bool} (H : i_MachineValid p0 = some r) : APure Tryz.prog G 67 [.agg [.fsl (encL rI p0.Regs), .int .i64 p0.Pc, .fsl (encL rI p0.Mem)]] (.bool r) := by
 refine APure_fn (fun N0 => ?_) (by simp)
 refine fnK tok Tryz.func67 Tryz.ntmps67 Tryz.results67 ?_
 simp only [argsA, Nat.reduceAdd, hp_next]
 unfold i_MachineValid at H
 refine S0 tok [0] [1] ?_
 obtain ⟨g2, hg2, H⟩ := bindE H
 obtain ⟨g4, hg4, H⟩ := bindE H
 obtain ⟨g6, hg6, H⟩ := bindE H
 obtain ⟨g7, hg7, H⟩ := bindE H
 obtain ⟨g9, hg9, H⟩ := bindE H
 refine Sx tok [] [2] (X := [(2, .bool g9)]) (Y := hp E0 [] (N0 + 35)) (by
  intro K k
  simp -dsimp -implicitDefEqProofs
  cases hbg2 : ieq (ilen p0.Regs) 32
  ·replace hg2 := ifF hbg2 hg2
   replace hg2 := Option.some.inj hg2; subst hg2
   try simp -dsimp -implicitDefEqProofs [hbg2]
   replace hg4 := ifF rfl hg4
   replace hg4 := Option.some.inj hg4; subst hg4
   try simp -dsimp -implicitDefEqProofs [hbg2]
   replace hg6 := ifF rfl hg6
   replace hg6 := Option.some.inj hg6; subst hg6
   try simp -dsimp -implicitDefEqProofs [hbg2]
   replace hg7 := ifF rfl hg7
   replace hg7 := Option.some.inj hg7; subst hg7
   try simp -dsimp -implicitDefEqProofs [hbg2]
   replace hg9 := ifF rfl hg9
   replace hg9 := Option.some.inj hg9; subst hg9
   try simp -dsimp -implicitDefEqProofs [hbg2]
   exact k
  ·replace hg2 := ifT hbg2 hg2
   obtain ⟨r1, hr1, hg2⟩ := bindE hg2
   replace hg2 := Option.some.inj hg2; subst hg2
   try simp -dsimp -implicitDefEqProofs [hbg2]
   refine (c106 hr1).app ?_; try simp -dsimp -implicitDefEqProofs [hbg2]
   cases hbg4 : r1
   ·replace hg4 := ifF hbg4 hg4
    replace hg4 := Option.some.inj hg4; subst hg4
    try simp -dsimp -implicitDefEqProofs [hbg2, hbg4]
    replace hg6 := ifF rfl hg6
    replace hg6 := Option.some.inj hg6; subst hg6
    try simp -dsimp -implicitDefEqProofs [hbg2, hbg4]
    replace hg7 := ifF rfl hg7
    replace hg7 := Option.some.inj hg7; subst hg7
    try simp -dsimp -implicitDefEqProofs [hbg2, hbg4]
    replace hg9 := ifF rfl hg9
    replace hg9 := Option.some.inj hg9; subst hg9
    try simp -dsimp -implicitDefEqProofs [hbg2, hbg4]
    exact k
   ·replace hg4 := ifT hbg4 hg4
    obtain ⟨v3, hv3, hg4⟩ := bindE hg4
    replace hg4 := Option.some.inj hg4; subst hg4
    try simp -dsimp -implicitDefEqProofs [hbg2, hbg4, ix24 hv3]
    cases hbg6 : (ieq v3 0)
    ·replace hg6 := ifF hbg6 hg6
     replace hg6 := Option.some.inj hg6; subst hg6
     try simp -dsimp -implicitDefEqProofs [hbg2, hbg4, ix24 hv3, hbg6]
     replace hg7 := ifF rfl hg7
     replace hg7 := Option.some.inj hg7; subst hg7
     try simp -dsimp -implicitDefEqProofs [hbg2, hbg4, ix24 hv3, hbg6]
     replace hg9 := ifF rfl hg9
     replace hg9 := Option.some.inj hg9; subst hg9
     try simp -dsimp -implicitDefEqProofs [hbg2, hbg4, ix24 hv3, hbg6]
     exact k
    ·replace hg6 := ifT hbg6 hg6
     obtain ⟨r5, hr5, hg6⟩ := bindE hg6
     replace hg6 := Option.some.inj hg6; subst hg6
     try simp -dsimp -implicitDefEqProofs [hbg2, hbg4, ix24 hv3, hbg6]
     refine (c97 hr5).app ?_; try simp -dsimp -implicitDefEqProofs [hbg2, hbg4, ix24 hv3, hbg6]
     cases hbg7 : r5
     ·replace hg7 := ifF hbg7 hg7
      replace hg7 := Option.some.inj hg7; subst hg7
      try simp -dsimp -implicitDefEqProofs [hbg2, hbg4, ix24 hv3, hbg6, hbg7]
      replace hg9 := ifF rfl hg9
      replace hg9 := Option.some.inj hg9; subst hg9
      try simp -dsimp -implicitDefEqProofs [hbg2, hbg4, ix24 hv3, hbg6, hbg7]
      exact k
     ·replace hg7 := ifT hbg7 hg7
      replace hg7 := Option.some.inj hg7; subst hg7
      try simp -dsimp -implicitDefEqProofs [hbg2, hbg4, ix24 hv3, hbg6, hbg7]
      cases hbg9 : (ile (ilen p0.Mem) 10000)
      ·replace hg9 := ifF hbg9 hg9
       replace hg9 := Option.some.inj hg9; subst hg9
       try simp -dsimp -implicitDefEqProofs [hbg2, hbg4, ix24 hv3, hbg6, hbg7, hbg9]
       exact k
      ·replace hg9 := ifT hbg9 hg9
       obtain ⟨r8, hr8, hg9⟩ := bindE hg9
       replace hg9 := Option.some.inj hg9; subst hg9
       try simp -dsimp -implicitDefEqProofs [hbg2, hbg4, ix24 hv3, hbg6, hbg7, hbg9]
       refine (c106 hr8).app ?_; try simp -dsimp -implicitDefEqProofs [hbg2, hbg4, ix24 hv3, hbg6, hbg7, hbg9]
       exact k) ?_
 obtain rfl := oi H; exact AWP_ret ⟨_, rfl, 4, by simp [encL_nil]⟩
end Go.Proofs.YtlcilhmkbmgkeaaGreatDoor
