/- The contracts of functions of the program, part 3: each computes what its mirror computes. No conditions. -/
import Derived.Test.YtlcilhmkbmgkeaaGreatDoorNZT2
set_option linter.unusedSimpArgs false
set_option linter.unusedVariables false
set_option maxRecDepth 20000
set_option maxHeartbeats 4000000
namespace Go.Proofs.YtlcilhmkbmgkeaaGreatDoor
open Go Go.Abs Go.RowKit

theorem c32 {p0 : Int} {pf0 : gSquad} {r : Int × gSquad} (H : i_SquadRun_1 p0 pf0 = some r) {σ : AHeap} {wf0 : Nat} {Wf0 : List (List AV)} {rf0_ : Nat} (qf0 : σ.objs wf0 = some ⟨31, 5, Wf0⟩) (gf0 : Wf0[rf0_]? = some [.osl 63 3 (encL rMachine_oo pf0.Harts), .osl 93 2 (encL rBox_o pf0.Boxes), .int .i64 pf0.Turn, .int .i64 pf0.Idle, .osl 3 1 (encL rI pf0.Out)]) : ACalls Tryz.prog G 32 [.int .i64 p0, .ptr wf0 rf0_ 0] σ (fun v σ' => ∃ M : Nat, σ.next ≤ M ∧ v = .int .i64 r.1 ∧ σ' = hp σ.objs [(wf0, some ⟨31, 5, Wf0.set rf0_ [.osl 63 3 (encL rMachine_oo r.2.Harts), .osl 93 2 (encL rBox_o r.2.Boxes), .int .i64 r.2.Turn, .int .i64 r.2.Idle, .osl 3 1 (encL rI r.2.Out)]⟩)] M) := by
 refine ACalls_fr (L := [(wf0, some ⟨31, 5, Wf0⟩)]) (Q1 := fun v σ' => ∃ M : Nat, σ.next ≤ M ∧ v = .int .i64 r.1 ∧ σ' = hp E0 [(wf0, some ⟨31, 5, Wf0.set rf0_ [.osl 63 3 (encL rMachine_oo r.2.Harts), .osl 93 2 (encL rBox_o r.2.Boxes), .int .i64 r.2.Turn, .int .i64 r.2.Idle, .osl 3 1 (encL rI r.2.Out)]⟩)] M) (by simp [qf0]) (fun hlt => ?_) ?_ ⟨_, Tryz.func32, rfl, rfl⟩
 rotate_left
 ·rintro v σ1 ⟨M, h0, rfl, rfl⟩
  exact ⟨_, M, rfl, by simp, by simp; try omega, M, h0, rfl, rfl⟩
 generalize σ.next = N0 at hlt ⊢
 have lwf0 : wf0 < N0 := hlt _ (.head _) rfl
 have gs_Wf0 : ∀ x, (Wf0.set rf0_ x)[rf0_]? = some x := gsetW gf0
 rw [← set_same gf0]
 refine fnK tok Tryz.func32 Tryz.ntmps32 Tryz.results32 ?_
 simp only [argsA, Nat.reduceAdd, hp_next]
 unfold i_SquadRun_1 at H
 refine Sx tok [] [0, 1] (by intro K k; simp -dsimp -implicitDefEqProofs [gs_Wf0, List.set_set]; exact k) ?_
 refine gU AWP_ref wf0 rf0_ 0 ?_ (hr := by exact gs_Wf0 _)
 obtain ⟨v1, hv1, H⟩ := bindE H
 refine Sx tok [] [1, 4] (by
  intro K k
  have e0 := nQ wf0 (N0 + 1)
  simp -dsimp -implicitDefEqProofs [e0, gs_Wf0, List.set_set, ixo28 hv1, (idx_lt3 hv1).2.2]
  exact k) ?_
 refine AWP_sq [] fun K1 hK1 => ?_
 refine AWP_block (AWP_thenB ?_)
 refine Sx tok [] [1, 4, 9] (by
  intro K k
  have e0 := nQ wf0 (N0 + 1)
  simp -dsimp -implicitDefEqProofs [e0, gs_Wf0, List.set_set, (idx_lt3 hv1).2.2]
  exact k) ?_
 refine Cd (fun C1 => ?_) fun C1 => ?_
 ·replace H := ifT C1 H
  refine gU AWP_ref wf0 rf0_ 1 ?_ (hr := by exact gs_Wf0 _)
  obtain ⟨r2, hr2, H⟩ := bindE H
  obtain ⟨l3, hl3, H⟩ := bindE H
  refine AWP_sr tok [] [3] (fun a σ => ∃ M1 : Nat, N0 + 20 ≤ M1 ∧ r2.2.2.1.length = pf0.Boxes.length ∧ a = [(3, .int .i64 r2.1)] ∧ σ = hp E0 [(wf0, some ⟨31, 5, Wf0.set rf0_ [.sl (N0 + 1) 0 pf0.Harts.length, .sl (N0 + 13) 0 pf0.Boxes.length, .int .i64 pf0.Turn, .int .i64 pf0.Idle, .osl 3 1 (encL rI r2.2.2.2)]⟩), (N0 + 1, some ⟨63, 3, encL rMachine_oo l3⟩), (N0 + 13, some ⟨93, 2, encL rBox_o r2.2.2.1⟩)] M1) (fun K hK => ?_) ?_
  ·skip
   have e0 := nQ wf0 (N0 + 1)
   have e1 := nQ wf0 (N0 + 13)
   simp -dsimp -implicitDefEqProofs [e0, e1, gs_Wf0, List.set_set, (idx_lt3 hv1).2.2, (setx_iff.1 hl3).2.symm, set_rMachine_oo]
   refine (c33_moo (W0 := encL rMachine_oo pf0.Harts) (r0_ := p0.toNat) (W2 := Wf0.set rf0_ [.sl (N0 + 1) 0 pf0.Harts.length, .sl (N0 + 13) 0 pf0.Boxes.length, .int .i64 pf0.Turn, .int .i64 pf0.Idle, .osl 3 1 (encL rI pf0.Out)]) (r2_ := rf0_) (x2_ := [.sl (N0 + 1) 0 pf0.Harts.length, .sl (N0 + 13) 0 pf0.Boxes.length, .int .i64 pf0.Turn, .int .i64 pf0.Idle, .osl 3 1 (encL rI pf0.Out)]) (i2_ := 4) (t2_ := 31) (s2_ := 5) (H := hr2) (by simp [e0, e1, gs_Wf0, List.set_set, (idx_lt3 hv1).2.2, (setx_iff.1 hl3).2.symm, set_rMachine_oo]) (by simp [e0, e1, gs_Wf0, List.set_set, (idx_lt3 hv1).2.2, (setx_iff.1 hl3).2.symm, set_rMachine_oo]) (by simp [e0, e1, gs_Wf0, List.set_set, (idx_lt3 hv1).2.2, (setx_iff.1 hl3).2.symm, set_rMachine_oo]) (by simp [e0, e1, gs_Wf0, List.set_set, (idx_lt3 hv1).2.2, (setx_iff.1 hl3).2.symm, set_rMachine_oo]) (by simp [e0, e1, gs_Wf0, List.set_set, (idx_lt3 hv1).2.2, (setx_iff.1 hl3).2.symm, set_rMachine_oo]) (by simp [e0, e1, gs_Wf0, List.set_set, (idx_lt3 hv1).2.2, (setx_iff.1 hl3).2.symm, set_rMachine_oo]) (by simp [e0, e1, gs_Wf0, List.set_set, (idx_lt3 hv1).2.2, (setx_iff.1 hl3).2.symm, set_rMachine_oo]) (by simp [e0, e1, gs_Wf0, List.set_set, (idx_lt3 hv1).2.2, (setx_iff.1 hl3).2.symm, set_rMachine_oo]) (by simp [e0, e1, gs_Wf0, List.set_set, (idx_lt3 hv1).2.2, (setx_iff.1 hl3).2.symm, set_rMachine_oo])).mono ?_; rintro _ _ ⟨M1, fM1_0, fM1_1, rfl, rfl⟩; simp only [hp_next] at fM1_0
   try simp -dsimp -implicitDefEqProofs [e0, e1, gs_Wf0, List.set_set, (idx_lt3 hv1).2.2, (setx_iff.1 hl3).2.symm, set_rMachine_oo, hp_over_some, hp_over_none]
   exact hK _ _ ⟨M1, (by omega), fM1_1, rfl, rfl⟩
  rintro a σ ⟨M1, fM1_0, fM1_1, rfl, rfl⟩
  try rw [← setx_len hl3]
  try rw [← fM1_1]
  obtain rfl := oi H
  refine Kp [3] ?_
  refine gP AWP_ref wf0 rf0_ 0 ?_ (hr := by exact gs_Wf0 _)
  refine gP AWP_ref wf0 rf0_ 1 ?_ (hr := by exact gs_Wf0 _)
  refine AWP_ret ?_
  refine ⟨[.int .i64 r2.1], by simp [gs_Wf0], M1, by omega, ?_, ?_⟩
  ·simp [encL_nil]
  ·first | rfl | simp [List.set_set]
 ·replace H := ifF C1 H
  obtain ⟨r4, hr4, H⟩ := bindE H
  obtain ⟨l5, hl5, H⟩ := bindE H
  refine AWP_sr tok [] [20] (fun a σ => ∃ M2 : Nat, N0 + 17 ≤ M2 ∧ a = [(20, .bool (ieq r4.1 1))] ∧ σ = hp E0 [(wf0, some ⟨31, 5, Wf0.set rf0_ [.sl (N0 + 1) 0 pf0.Harts.length, .osl 93 2 (encL rBox_o pf0.Boxes), .int .i64 pf0.Turn, .int .i64 pf0.Idle, .osl 3 1 (encL rI pf0.Out)]⟩), (N0 + 1, some ⟨63, 3, encL rMachine_oo l5⟩)] M2) (fun K hK => ?_) ?_
  ·skip
   have e0 := nQ wf0 (N0 + 1)
   simp -dsimp -implicitDefEqProofs [e0, gs_Wf0, List.set_set, (idx_lt3 hv1).2.2, (setx_iff.1 hl5).2.symm, set_rMachine_oo]
   refine (c34 (W0 := encL rMachine_oo pf0.Harts) (r0_ := p0.toNat) (H := hr4) (by simp [e0, gs_Wf0, List.set_set, (idx_lt3 hv1).2.2, (setx_iff.1 hl5).2.symm, set_rMachine_oo]) (by simp [e0, gs_Wf0, List.set_set, (idx_lt3 hv1).2.2, (setx_iff.1 hl5).2.symm, set_rMachine_oo])).mono ?_; rintro _ _ ⟨M2, fM2_0, rfl, rfl⟩; simp only [hp_next] at fM2_0
   try simp -dsimp -implicitDefEqProofs [e0, gs_Wf0, List.set_set, (idx_lt3 hv1).2.2, (setx_iff.1 hl5).2.symm, set_rMachine_oo, hp_over_some, hp_over_none]
   exact hK _ _ ⟨M2, (by omega), rfl, rfl⟩
  rintro a σ ⟨M2, fM2_0, rfl, rfl⟩
  try rw [← setx_len hl5]
  refine Cd (fun C2 => ?_) fun C2 => ?_
  ·replace H := ifT C2 H
   refine Sx tok [] [3] (by
    intro K k
    have e0 := nQ wf0 (N0 + 1)
    simp -dsimp -implicitDefEqProofs [e0, gs_Wf0, List.set_set]
    exact k) ?_
   obtain rfl := oi H
   refine Kp [3] ?_
   refine gP AWP_ref wf0 rf0_ 0 ?_ (hr := by exact gs_Wf0 _)
   refine AWP_ret ?_
   refine ⟨[.int .i64 1], by simp [gs_Wf0], M2 + 1, by omega, ?_, ?_⟩
   ·simp [encL_nil]
   ·first | rfl | simp [List.set_set]
  ·replace H := ifF C2 H
   refine AWP_skip (Jn hK1 ?_)
   refine Sx tok [] [3] (by
    intro K k
    have e0 := nQ wf0 (N0 + 1)
    simp -dsimp -implicitDefEqProofs [e0, gs_Wf0, List.set_set]
    exact k) ?_
   obtain rfl := oi H
   refine Kp [3] ?_
   refine gP AWP_ref wf0 rf0_ 0 ?_ (hr := by exact gs_Wf0 _)
   refine AWP_ret ?_
   refine ⟨[.int .i64 0], by simp [gs_Wf0], M2 + 1, by omega, ?_, ?_⟩
   ·simp [encL_nil]
   ·first | rfl | simp [List.set_set]
theorem c68 {p0 : Int} {p1 : Int} {p2 : Int} {p3 : Int} {r : Int × Int × Bool} (H : i_NextTurn p0 p1 p2 p3 = some r) : APure Tryz.prog G 68 [.int .i64 p0, .int .i64 p1, .int .i64 p2, .int .i64 p3] (.tup [.int .i64 r.1, .int .i64 r.2.1, .bool r.2.2]) := by
 refine APure_fn (fun N0 => ?_) (by simp)
 refine fnK tok Tryz.func68 Tryz.ntmps68 Tryz.results68 ?_
 simp only [argsA, Nat.reduceAdd, hp_next]
 unfold i_NextTurn at H
 refine S0 tok [] [0, 1, 2, 3] ?_
 refine AWP_sq [0, 1, 2, 3] fun K1 hK1 => ?_
 obtain ⟨g1, hg1, H⟩ := bindE H
 obtain ⟨g2, hg2, H⟩ := bindE H
 obtain ⟨g3, hg3, H⟩ := bindE H
 obtain ⟨g4, hg4, H⟩ := bindE H
 obtain ⟨g5, hg5, H⟩ := bindE H
 refine Sx tok [] [0, 1, 2, 3, 34] (X := [(0, .int .i64 p0), (1, .int .i64 p1), (2, .int .i64 p2), (3, .int .i64 p3), (34, .bool g5)]) (Y := hp E0 [] (N0 + 27)) (by
  intro K k
  simp -dsimp -implicitDefEqProofs
  cases hbg1 : ilt p0 1
  ·replace hg1 := ifF hbg1 hg1
   replace hg1 := Option.some.inj hg1; subst hg1
   try simp -dsimp -implicitDefEqProofs [hbg1]
   cases hbg2 : (igt p0 3)
   ·replace hg2 := ifF hbg2 hg2
    replace hg2 := Option.some.inj hg2; subst hg2
    try simp -dsimp -implicitDefEqProofs [hbg1, hbg2]
    cases hbg3 : (ilt p1 0)
    ·replace hg3 := ifF hbg3 hg3
     replace hg3 := Option.some.inj hg3; subst hg3
     try simp -dsimp -implicitDefEqProofs [hbg1, hbg2, hbg3]
     cases hbg4 : (ige p1 p0)
     ·replace hg4 := ifF hbg4 hg4
      replace hg4 := Option.some.inj hg4; subst hg4
      try simp -dsimp -implicitDefEqProofs [hbg1, hbg2, hbg3, hbg4]
      cases hbg5 : (ilt p2 0)
      ·replace hg5 := ifF hbg5 hg5
       replace hg5 := Option.some.inj hg5; subst hg5
       try simp -dsimp -implicitDefEqProofs [hbg1, hbg2, hbg3, hbg4, hbg5]
       exact k
      ·replace hg5 := ifT hbg5 hg5
       replace hg5 := Option.some.inj hg5; subst hg5
       try simp -dsimp -implicitDefEqProofs [hbg1, hbg2, hbg3, hbg4, hbg5]
       exact k
     ·replace hg4 := ifT hbg4 hg4
      replace hg4 := Option.some.inj hg4; subst hg4
      try simp -dsimp -implicitDefEqProofs [hbg1, hbg2, hbg3, hbg4]
      replace hg5 := ifT rfl hg5
      replace hg5 := Option.some.inj hg5; subst hg5
      try simp -dsimp -implicitDefEqProofs [hbg1, hbg2, hbg3, hbg4]
      exact k
    ·replace hg3 := ifT hbg3 hg3
     replace hg3 := Option.some.inj hg3; subst hg3
     try simp -dsimp -implicitDefEqProofs [hbg1, hbg2, hbg3]
     replace hg4 := ifT rfl hg4
     replace hg4 := Option.some.inj hg4; subst hg4
     try simp -dsimp -implicitDefEqProofs [hbg1, hbg2, hbg3]
     replace hg5 := ifT rfl hg5
     replace hg5 := Option.some.inj hg5; subst hg5
     try simp -dsimp -implicitDefEqProofs [hbg1, hbg2, hbg3]
     exact k
   ·replace hg2 := ifT hbg2 hg2
    replace hg2 := Option.some.inj hg2; subst hg2
    try simp -dsimp -implicitDefEqProofs [hbg1, hbg2]
    replace hg3 := ifT rfl hg3
    replace hg3 := Option.some.inj hg3; subst hg3
    try simp -dsimp -implicitDefEqProofs [hbg1, hbg2]
    replace hg4 := ifT rfl hg4
    replace hg4 := Option.some.inj hg4; subst hg4
    try simp -dsimp -implicitDefEqProofs [hbg1, hbg2]
    replace hg5 := ifT rfl hg5
    replace hg5 := Option.some.inj hg5; subst hg5
    try simp -dsimp -implicitDefEqProofs [hbg1, hbg2]
    exact k
  ·replace hg1 := ifT hbg1 hg1
   replace hg1 := Option.some.inj hg1; subst hg1
   try simp -dsimp -implicitDefEqProofs [hbg1]
   replace hg2 := ifT rfl hg2
   replace hg2 := Option.some.inj hg2; subst hg2
   try simp -dsimp -implicitDefEqProofs [hbg1]
   replace hg3 := ifT rfl hg3
   replace hg3 := Option.some.inj hg3; subst hg3
   try simp -dsimp -implicitDefEqProofs [hbg1]
   replace hg4 := ifT rfl hg4
   replace hg4 := Option.some.inj hg4; subst hg4
   try simp -dsimp -implicitDefEqProofs [hbg1]
   replace hg5 := ifT rfl hg5
   replace hg5 := Option.some.inj hg5; subst hg5
   try simp -dsimp -implicitDefEqProofs [hbg1]
   exact k) ?_
 refine Cd (fun C1 => ?_) fun C1 => ?_
 ·replace H := ifT C1 H
  refine S0 tok [] [8, 9, 10] ?_
  obtain rfl := oi H; exact AWP_ret ⟨_, rfl, 4, by simp [encL_nil]⟩
 ·replace H := ifF C1 H
  refine AWP_skip (Jn hK1 ?_)
  refine AWP_sq [] fun K2 hK2 => ?_
  refine S0 tok [] [0, 1, 2, 35] ?_
  refine AWP_block (AWP_thenB ?_)
  refine S0 tok [] [0, 1, 2, 35, 36] ?_
  refine Cd (fun C2 => ?_) fun C2 => ?_
  ·replace H := ifT C2 H
   refine S0 tok [] [8, 9, 10] ?_
   obtain rfl := oi H; exact AWP_ret ⟨_, rfl, 4, by simp [encL_nil]⟩
  ·replace H := ifF C2 H
   refine S0 tok [] [0, 1, 2, 35, 39] ?_
   refine Cd (fun C3 => ?_) fun C3 => ?_
   ·replace H := ifT C3 H
    obtain ⟨v6, hv6, H⟩ := bindE H
    refine Sx tok [] [8, 9, 10] (by intro K k; simp -dsimp -implicitDefEqProofs [hv6]; exact k) ?_
    obtain rfl := oi H; exact AWP_ret ⟨_, rfl, 4, by simp [encL_nil]⟩
   ·replace H := ifF C3 H
    obtain ⟨j1, hj1, H⟩ := bindE H
    refine AWP_seq (AWP_named fun K3 hK3 => ?_)
    have hJ1 : ∀ a σ, Rc G 54 N0 (fun a σ => ∃ M1 : Nat, N0 ≤ M1 ∧ a = [(0, .int .i64 p0), (1, .int .i64 p1), (2, .int .i64 p2), (45, .bool j1)] ∧ σ = hp E0 [] M1) (a.keep [0, 1, 2, 45]) σ → K3 a σ := by
     rintro a σ ⟨b, τ, hr, M1, fM1_0, rfl, rfl⟩
     refine hK3 _ _ (AWP_keep [0, 1, 2, 45] (AWP_ref hr ?_))
     refine Cd (fun C4 => ?_) fun C4 => ?_
     ·replace H := ifT C4 H
      obtain ⟨v8, hv8, H⟩ := bindE H
      refine Sx tok [] [8, 9, 10] (by intro K k; simp -dsimp -implicitDefEqProofs [hv8]; exact k) ?_
      obtain rfl := oi H; exact AWP_ret ⟨_, rfl, 4, by simp [encL_nil]⟩
     ·replace H := ifF C4 H
      refine AWP_skip (Jn hK2 ?_)
      refine S0 tok [] [8, 9, 10] ?_
      obtain rfl := oi H; exact AWP_ret ⟨_, rfl, 4, by simp [encL_nil]⟩
    replace H := hj1
    refine S0 tok [] [0, 1, 2, 35, 45] ?_
    refine Cd (fun C5 => ?_) fun C5 => ?_
    ·replace H := ifT C5 H
     refine AWP_skip ?_
     show K3 _ _
     refine kE [0, 1, 2, 45] fun a' ha => ?_
     obtain rfl := oi H
     refine hJ1 _ _ ?_; rw [ha]
     exact Rf ⟨N0 + 34, (by omega), rfl, rfl⟩
    ·replace H := ifF C5 H
     refine Rt0 tok [] [0, 1, 2, 45] fun a ha => ?_
     obtain rfl := oi H
     refine hJ1 _ _ ?_; rw [ha]
     exact Rf ⟨N0 + 36, (by omega), rfl, rfl⟩
theorem c29_o {p0 : (List Int)} {r : (List Int)} (H : slices_Clone_int_int_o p0 = some r) {σ : AHeap} : ACalls Tryz.prog G 29 [.fsl (encL rI p0)] σ (fun v σ' => ∃ M n0 : Nat, σ.next ≤ M ∧ σ.next ≤ n0 ∧ n0 < M ∧ v = .sl n0 0 r.length ∧ σ' = hp σ.objs [(n0, some ⟨3, 1, encL rI r⟩)] M) := by
 refine ACalls_fr (L := []) (Q1 := fun v σ' => ∃ M n0 : Nat, σ.next ≤ M ∧ σ.next ≤ n0 ∧ n0 < M ∧ v = .sl n0 0 r.length ∧ σ' = hp E0 [(n0, some ⟨3, 1, encL rI r⟩)] M) (by simp []) (fun hlt => ?_) ?_ ⟨_, Tryz.func29, rfl, rfl⟩
 rotate_left
 ·rintro v σ1 ⟨M, n0, h0, h1, h2, rfl, rfl⟩
  exact ⟨_, M, rfl, by simp, by simp; try omega, M, n0, h0, h1, h2, rfl, rfl⟩
 generalize σ.next = N0 at hlt ⊢
 refine fnK tok Tryz.func29 Tryz.ntmps29 Tryz.results29 ?_
 simp only [argsA, Nat.reduceAdd, hp_next]
 unfold slices_Clone_int_int_o at H
 refine S0 tok [] [0] ?_
 refine AWP_sq [0] fun K1 hK1 => ?_
 refine AWP_isnil tok [4, 0] ([(0, .fsl (encL rI p0))]) rfl rfl (by decide) (by decide) (by decide) (fun _ => rfl) (fun n0 => ?_) ?_
 ·replace n0 : p0 = [] := encL_isnil n0
  replace H : (if true = true then   some ([] : List Int) else   (appx 8 ([] : List Int) p0).bind fun l2 =>   some l2 : Option ((List Int))) = some r := by simpa [n0, appx] using H
  refine Cd (fun C2 => ?_) fun C2 => ?_
  ·replace H := ifT C2 H
   refine S0 tok [] [2] ?_
   obtain rfl := oi H
   refine Kp [2] ?_
   refine gNilS AWP_ref 2 3 1 [(N0 + 2, some ⟨3, 1, encL rI ([] : List Int)⟩)] [(2, .sl (N0 + 2) 0 ([] : List Int).length)] (by simp (disch := omega)) (by simp (disch := omega) [encL_nil]) [2] rfl ?_
   refine AWP_ret ?_
   refine ⟨[.sl (N0 + 2) 0 ([] : List Int).length], by simp, N0 + 3, N0 + 2, by omega, by omega, by omega, ?_, ?_⟩
   ·simp [encL_nil]
   ·first | rfl | simp [List.set_set]
  ·replace H := ifF C2 H
   refine AWP_skip (Jn hK1 ?_)
   obtain ⟨l2, hl2, H⟩ := bindE H
   have q2 : ∀ σ i, buildSliceA T 24 true i 0 [] σ = some (.esl, σ) := fun _ _ => rfl
   refine Sx tok [0] [2] (by intro K k; simp -dsimp -implicitDefEqProofs [q2, appe24 hl2]; exact k) ?_
   obtain rfl := oi H
   refine Kp [2] ?_
   refine AWP_ret ?_
   refine ⟨[.sl (N0 + 3) 0 l2.length], by simp, N0 + 5, N0 + 3, by omega, by omega, by omega, ?_, ?_⟩
   ·simp [encL_nil]
   ·first | rfl | simp [List.set_set]
 ·
  refine Cd (fun C1 => ?_) fun C1 => ?_
  ·replace H := ifT C1 H
   refine S0 tok [] [2] ?_
   obtain rfl := oi H
   refine Kp [2] ?_
   refine gNilS AWP_ref 2 3 1 [(N0 + 2, some ⟨3, 1, encL rI ([] : List Int)⟩)] [(2, .sl (N0 + 2) 0 ([] : List Int).length)] (by simp (disch := omega)) (by simp (disch := omega) [encL_nil]) [2] rfl ?_
   refine AWP_ret ?_
   refine ⟨[.sl (N0 + 2) 0 ([] : List Int).length], by simp, N0 + 3, N0 + 2, by omega, by omega, by omega, ?_, ?_⟩
   ·simp [encL_nil]
   ·first | rfl | simp [List.set_set]
  ·replace H := ifF C1 H
   refine AWP_skip (Jn hK1 ?_)
   obtain ⟨l1, hl1, H⟩ := bindE H
   have q1 : ∀ σ i, buildSliceA T 24 true i 0 [] σ = some (.esl, σ) := fun _ _ => rfl
   refine Sx tok [0] [2] (by intro K k; simp -dsimp -implicitDefEqProofs [q1, appe24 hl1]; exact k) ?_
   obtain rfl := oi H
   refine Kp [2] ?_
   refine AWP_ret ?_
   refine ⟨[.sl (N0 + 3) 0 l1.length], by simp, N0 + 5, N0 + 3, by omega, by omega, by omega, ?_, ?_⟩
   ·simp [encL_nil]
   ·first | rfl | simp [List.set_set]
theorem c30_o2 {p0 : gMachine} {r : gMachine} (H : i_machineCopy_o2 p0 = some r) {σ : AHeap} : ACalls Tryz.prog G 30 [.agg [.fsl (encL rI p0.Regs), .int .i64 p0.Pc, .fsl (encL rI p0.Mem)]] σ (fun v σ' => ∃ M n0 n1 : Nat, σ.next ≤ M ∧ σ.next ≤ n0 ∧ n0 < M ∧ σ.next ≤ n1 ∧ n1 < M ∧ ¬ n0 = n1 ∧ v = .agg [.sl n0 0 r.Regs.length, .int .i64 r.Pc, .sl n1 0 r.Mem.length] ∧ σ' = hp σ.objs [(n0, some ⟨3, 1, encL rI r.Regs⟩), (n1, some ⟨3, 1, encL rI r.Mem⟩)] M) := by
 refine ACalls_fr (L := []) (Q1 := fun v σ' => ∃ M n0 n1 : Nat, σ.next ≤ M ∧ σ.next ≤ n0 ∧ n0 < M ∧ σ.next ≤ n1 ∧ n1 < M ∧ ¬ n0 = n1 ∧ v = .agg [.sl n0 0 r.Regs.length, .int .i64 r.Pc, .sl n1 0 r.Mem.length] ∧ σ' = hp E0 [(n0, some ⟨3, 1, encL rI r.Regs⟩), (n1, some ⟨3, 1, encL rI r.Mem⟩)] M) (by simp []) (fun hlt => ?_) ?_ ⟨_, Tryz.func30, rfl, rfl⟩
 rotate_left
 ·rintro v σ1 ⟨M, n0, n1, h0, h1, h2, h3, h4, h5, rfl, rfl⟩
  exact ⟨_, M, rfl, by simp, by simp; try omega, M, n0, n1, h0, h1, h2, h3, h4, h5, rfl, rfl⟩
 generalize σ.next = N0 at hlt ⊢
 refine ACalls_thaw 4 ?_
 refine fnK tok Tryz.func30 Tryz.ntmps30 Tryz.results30 ?_
 simp only [argsA, Nat.reduceAdd, hp_next]
 unfold i_machineCopy_o2 at H
 refine S0 tok [0] [1, 2] ?_
 refine gP0 AWP_ref (N0 + 1) 0 0 3 1 (encL rI ([] : List Int)) ?_
 refine gP0 AWP_ref (N0 + 1) 0 2 3 1 (encL rI ([] : List Int)) ?_
 obtain ⟨r1, hr1, H⟩ := bindE H
 obtain ⟨r2, hr2, H⟩ := bindE H
 refine AWP_sd tok tokM [] [2, 7, 9] [0, 1, 3, 4, 5, 6, 2, 7, 8, 9] [2] (fun a σ => ∃ M1 o1 : Nat, ∃ M2 o2 : Nat, N0 + 12 ≤ M1 ∧ N0 + 12 ≤ o1 ∧ o1 < M1 ∧ M1 ≤ M2 ∧ M1 ≤ o2 ∧ o2 < M2 ∧ a = [(2, .ptr (N0 + 1) 0 0)] ∧ σ = hp E0 [(N0 + 1, some ⟨63, 3, [[.sl o1 0 r1.length, .int .i64 p0.Pc, .sl o2 0 r2.length]]⟩), (o1, some ⟨3, 1, encL rI r1⟩), (o2, some ⟨3, 1, encL rI r2⟩)] M2) (by decide) (fun K hK => ?_) ?_
 ·simp only [pickL, nthO_succ, nthO_zero]
  simp -dsimp -implicitDefEqProofs
  refine (c29_o (H := hr1) ).mono ?_; rintro _ _ ⟨M1, o1, fM1_0, fM1_1, fM1_2, rfl, rfl⟩; simp only [hp_next] at fM1_0 fM1_1 fM1_2
  have eM1_0 := nQ o1 (N0 + 1)
  try simp -dsimp -implicitDefEqProofs [eM1_0, hp_over_some, hp_over_none]
  refine (c29_o (H := hr2) ).mono ?_; rintro _ _ ⟨M2, o2, fM2_0, fM2_1, fM2_2, rfl, rfl⟩; simp only [hp_next] at fM2_0 fM2_1 fM2_2
  have eM2_0 := nQ o2 (N0 + 1)
  have eM2_1 := nQ o2 o1
  try simp -dsimp -implicitDefEqProofs [eM1_0, hp_over_some, hp_over_none, eM2_0, eM2_1, hp_over_some, hp_over_none]
  exact hK _ _ ⟨M1, o1, M2, o2, (by omega), (by omega), (by omega), (by omega), (by omega), (by omega), rfl, rfl⟩
 rintro a σ ⟨M1, o1, M2, o2, fM1_0, fM1_1, fM1_2, fM2_0, fM2_1, fM2_2, rfl, rfl⟩
 obtain rfl := oi H
 refine Kp [2] ?_
 refine gP AWP_ref (N0 + 1) 0 0 ?_
 refine gP AWP_ref (N0 + 1) 0 2 ?_
 refine gU AWP_ref (N0 + 1) 0 0 ?_
 refine gU AWP_ref (N0 + 1) 0 2 ?_
 have z0 := nQ (N0 + 1) M2
 have z1 := nQ (N0 + 1) (M2 + 1)
 have z2 := nQ N0 M2
 refine AWP_ret ?_
 refine ⟨[.agg [.sl M2 0 r1.length, .int .i64 p0.Pc, .sl (M2 + 1) 0 r2.length]], by simp [z0, z1, z2], (fun o => [N0 + 1].contains o), M2 + 2, M2, M2 + 1, by omega, by omega, by omega, by omega, by omega, by omega, ?_, ?_⟩
 ·simp [encL_nil, z0, z1, z2]
 ·rw [cutD (L' := [(M2, some ⟨3, 1, encL rI r1⟩), (M2 + 1, some ⟨3, 1, encL rI r2⟩)]) (by simp [z0, z1, z2])]
  first | done | rfl | simp [List.set_set]
theorem c28_o2 {p0 : (List gBox)} {r : (List gBox)} (H : i_boxesCopy_o2 p0 = some r) {σ : AHeap} : ACalls Tryz.prog G 28 [.fsl (encL rBox p0)] σ (fun v σ' => ∃ M n0 : Nat, σ.next ≤ M ∧ σ.next ≤ n0 ∧ n0 < M ∧ v = .sl n0 0 r.length ∧ σ' = hp σ.objs [(n0, some ⟨93, 2, encL rBox_o r⟩)] M) := by
 refine ACalls_fr (L := []) (Q1 := fun v σ' => ∃ M n0 : Nat, σ.next ≤ M ∧ σ.next ≤ n0 ∧ n0 < M ∧ v = .sl n0 0 r.length ∧ σ' = hp E0 [(n0, some ⟨93, 2, encL rBox_o r⟩)] M) (by simp []) (fun hlt => ?_) ?_ ⟨_, Tryz.func28, rfl, rfl⟩
 rotate_left
 ·rintro v σ1 ⟨M, n0, h0, h1, h2, rfl, rfl⟩
  exact ⟨_, M, rfl, by simp, by simp; try omega, M, n0, h0, h1, h2, rfl, rfl⟩
 generalize σ.next = N0 at hlt ⊢
 refine fnK tok Tryz.func28 Tryz.ntmps28 Tryz.results28 ?_
 simp only [argsA, Nat.reduceAdd, hp_next]
 unfold i_boxesCopy_o2 at H
 refine S0 tok [] [0] ?_
 refine S0 tok [] [0, 3] ?_
 refine AWP_sq [3] fun K1 hK1 => ?_
 refine S0 tok [] [3, 6, 7, 8] ?_
 refine AWP_block (AWP_thenB ?_)
 obtain ⟨e1, hse1, H⟩ := bindE H
 refine AWP_lp [3, 6, 7, 8] (fun s a σ => ∃ M1 o1 : Nat, N0 ≤ M1 ∧ N0 ≤ o1 ∧ o1 < M1 ∧ a = [(3, .sl o1 0 s.2.length), (6, .fsl (encL rBox p0)), (7, .int .i64 (ilen p0)), (8, .int .i64 s.1)] ∧ σ = hp E0 [(o1, some ⟨93, 2, encL rBox_o s.2⟩)] M1) (fun s x a σ => x = .exit 0 ∧ Rc G 23 N0 (fun a σ => ∃ M2 o2 : Nat, N0 ≤ M2 ∧ N0 ≤ o2 ∧ o2 < M2 ∧ a = [(3, .sl o2 0 s.length)] ∧ σ = hp E0 [(o2, some ⟨93, 2, encL rBox_o s⟩)] M2) (AAct.keep a [3]) σ) hse1 ?_ ?_ ?_
 ·refine Rc.kp [3, 6, 7, 8] [(3, .nilsl), (6, .fsl (encL rBox p0)), (7, .int .i64 (ilen p0)), (8, .int .i64 0)] rfl ?_
  refine gNilS Rc_ref 3 93 2 [(N0 + 5, some ⟨93, 2, encL rBox_o ([] : List gBox)⟩)] [(3, .sl (N0 + 5) 0 ([] : List gBox).length), (6, .fsl (encL rBox p0)), (7, .int .i64 (ilen p0)), (8, .int .i64 0)] (by simp (disch := omega)) (by simp (disch := omega) [encL_nil]) [3, 6, 7, 8] rfl ?_
  exact Rf ⟨N0 + 6, (N0 + 5), (by omega), (by omega), (by omega), rfl, rfl⟩
 ·clear H hse1
  rintro ⟨s1, s2⟩ fl a σ H ⟨M1, o1, fM1_0, fM1_1, fM1_2, rfl, rfl⟩ K2 O2 hK2 hO2
  unfold i_boxesCopy_o2_L1 at H; dsimp only at H
  refine S0 tok [] [3, 6, 7, 8, 9] ?_
  refine AWP_sq [3, 6, 7, 8] fun K3 hK3 => ?_
  refine Cd (fun C1 => ?_) fun C1 => ?_
  ·replace H := ifT C1 H
   refine AWP_skip (Jn hK3 ?_)
   refine AWP_sq [3, 6, 7, 8] fun K4 hK4 => ?_
   refine AWP_block (AWP_thenB ?_)
   obtain ⟨v4, hv4, H⟩ := bindE H
   refine Sx tok [] [3, 5, 6, 7, 8] (by
    intro K k
    have e0 := nQ o1 (M1 + 3)
    simp -dsimp -implicitDefEqProofs [e0, ix29 hv4]
    exact k) ?_
   obtain ⟨r5, hr5, H⟩ := bindE H
   obtain ⟨l6, hl6, H⟩ := bindE H
   have q0 : ∀ (a0 : Int) (a1 : Nat) (a2 : Nat) σ i, buildSliceA T 29 true i 1 [(0, .agg [.int .i64 a0, .sl a1 0 a2])] σ = some (.fsl [[.int .i64 a0, .sl a1 0 a2]], σ) := fun _ _ _ _ _ => rfl
   refine AWP_ry tok tokM [7] [2, 4, 5, 8] [0, 1, 3, 2, 4, 5, 6, 7, 8, 9] [(5, [2])] [3, 6, 7, 8] (fun a σ => ∃ M3 o3 : Nat, M1 + 15 ≤ M3 ∧ M1 + 15 ≤ o3 ∧ o3 < M3 ∧ a = [(3, .sl (M1 + 13) 0 l6.length), (6, .fsl (encL rBox p0)), (7, .int .i64 (ilen p0)), (8, .int .i64 s1)] ∧ σ = hp E0 [(M1 + 3, some ⟨93, 2, [[.int .i64 v4.Room, .fsl (encL rI v4.Items)]]⟩), (o3, some ⟨3, 1, encL rI r5⟩), (M1 + 13, some ⟨93, 2, encL rBox_o s2 ++ [[.int .i64 v4.Room, .sl o3 0 r5.length]]⟩)] M3) (by decide) (fun K hK => ?_) ?_
   ·simp only [pickL, nthO_succ, nthO_zero]
    have e0 := nQ o1 (M1 + 3)
    have e1 := nQ o1 (M1 + 13)
    simp -dsimp -implicitDefEqProofs [e0, e1, q0, apr29 rBox_o hl6]
    refine (c29_o (H := hr5) ).mono ?_; rintro _ _ ⟨M3, o3, fM3_0, fM3_1, fM3_2, rfl, rfl⟩; simp only [hp_next] at fM3_0 fM3_1 fM3_2
    have eM3_0 := nQ o3 o1
    have eM3_1 := nQ o3 (M1 + 3)
    have eM3_2 := nQ o3 (M1 + 13)
    try simp -dsimp -implicitDefEqProofs [e0, e1, q0, apr29 rBox_o hl6, eM3_0, eM3_1, eM3_2, hp_over_some, hp_over_none]
    exact hK _ _ ⟨M3, o3, (by omega), (by omega), (by omega), rfl, rfl⟩
   rintro a σ ⟨M3, o3, fM3_0, fM3_1, fM3_2, ha, rfl⟩
   refine hK4 _ _ ?_; rw [ha]
   refine Rc.mk ?_
   refine gP AWP_ref (M1 + 13) s2.length 1 ?_ (hr := by exact app_get _ _ _)
   rw [show hp E0 [(M1 + 3, some ⟨93, 2, [[.int .i64 v4.Room, .fsl (encL rI v4.Items)]]⟩), (M1 + 13, some ⟨93, 2, encL rBox_o s2 ++ [[.int .i64 v4.Room, .osl 3 1 (encL rI r5)]]⟩)] M3 = hp E0 [(M1 + 3, some ⟨93, 2, [[.int .i64 v4.Room, .fsl (encL rI v4.Items)]]⟩), (M1 + 13, some ⟨93, 2, encL rBox_o l6⟩)] M3 from by rw [← app_enc (f := rBox_o) (c := [.int .i64 v4.Room, .osl 3 1 (encL rI r5)]) hl6 rfl]]
   refine Rt0 tok [] [3, 6, 7, 8] fun a ha => ?_
   obtain rfl := oi H
   refine hK2 _ _ _ rfl ?_; rw [ha]
   exact Rc.fin (AHeap.Sub.trans (hp_skip (AHeap.Sub.refl _)) (hp_drop rfl (by simp; try omega))) ⟨M3 + 2, (M1 + 13), (by omega), (by omega), (by omega), rfl, rfl⟩
  ·obtain rfl := oi (ifF C1 H)
   refine AWP_exit (hO2 _ _ _ _ rfl ⟨rfl, ?_⟩)
   refine Rc.rw (l := [3]) (X := [(3, .sl o1 0 s2.length)]) rfl ?_
   exact Rf ⟨M1 + 1, o1, (by omega), (by omega), (by omega), rfl, rfl⟩
 ·intro x a σ hx
  obtain ⟨y3, rfl⟩ : ∃ x, x = e1 := ⟨_, rfl⟩
  obtain ⟨rfl, b, τ, hr, M2, o2, fM2_0, fM2_1, fM2_2, rfl, rfl⟩ := hx
  dsimp only at H
  show K1 _ _
  refine hK1 _ _ (Rc_ref hr ?_)
  refine Rc.mk ?_
  refine S0 tok [] [2] ?_
  obtain rfl := oi H
  refine Kp [2] ?_
  refine AWP_ret ?_
  refine ⟨[.sl o2 0 y3.length], by simp, M2 + 2, o2, by omega, by omega, by omega, ?_, ?_⟩
  ·simp [encL_nil]
  ·first | rfl | simp [List.set_set]
theorem c31_i_SquadRun_1_c4_0_0 {p0 : Int} {p1 : Int} {p2 : Int} {p3 : Int} {p4_0 : gSquad} {r : Int × Int × Bool × gSquad} (H : i_takeTurns_i_SquadRun_1_c4_0_0 p0 p1 p2 p3 p4_0 = some r) {σ : AHeap} {w4_0 : Nat} {W4_0 : List (List AV)} {r4_0_ : Nat} {w4_0c0 : Nat} (q4_0 : σ.objs w4_0 = some ⟨31, 5, W4_0⟩) (g4_0 : W4_0[r4_0_]? = some [.sl w4_0c0 0 p4_0.Harts.length, .osl 93 2 (encL rBox_o p4_0.Boxes), .int .i64 p4_0.Turn, .int .i64 p4_0.Idle, .osl 3 1 (encL rI p4_0.Out)]) (q4_0c0 : σ.objs w4_0c0 = some ⟨63, 3, encL rMachine_oo p4_0.Harts⟩) (d0_1 : ¬ w4_0 = w4_0c0) : ACalls Tryz.prog G 31 [.int .i64 p0, .int .i64 p1, .int .i64 p2, .int .i64 p3, .clo 32 [] [.ptr w4_0 r4_0_ 0]] σ (fun v σ' => ∃ M : Nat, σ.next ≤ M ∧ v = .tup [.int .i64 r.1, .int .i64 r.2.1, .bool r.2.2.1] ∧ σ' = hp σ.objs [(w4_0, some ⟨31, 5, W4_0.set r4_0_ [.osl 63 3 (encL rMachine_oo r.2.2.2.Harts), .osl 93 2 (encL rBox_o r.2.2.2.Boxes), .int .i64 r.2.2.2.Turn, .int .i64 r.2.2.2.Idle, .osl 3 1 (encL rI r.2.2.2.Out)]⟩), (w4_0c0, none)] M) := by
 refine ACalls_fr (L := [(w4_0, some ⟨31, 5, W4_0⟩), (w4_0c0, some ⟨63, 3, encL rMachine_oo p4_0.Harts⟩)]) (Q1 := fun v σ' => ∃ M : Nat, σ.next ≤ M ∧ v = .tup [.int .i64 r.1, .int .i64 r.2.1, .bool r.2.2.1] ∧ σ' = hp E0 [(w4_0, some ⟨31, 5, W4_0.set r4_0_ [.osl 63 3 (encL rMachine_oo r.2.2.2.Harts), .osl 93 2 (encL rBox_o r.2.2.2.Boxes), .int .i64 r.2.2.2.Turn, .int .i64 r.2.2.2.Idle, .osl 3 1 (encL rI r.2.2.2.Out)]⟩), (w4_0c0, none)] M) (by simp [q4_0, q4_0c0]) (fun hlt => ?_) ?_ ⟨_, Tryz.func31, rfl, rfl⟩
 rotate_left
 ·rintro v σ1 ⟨M, h0, rfl, rfl⟩
  exact ⟨_, M, rfl, by simp, by simp; try omega, M, h0, rfl, rfl⟩
 generalize σ.next = N0 at hlt ⊢
 have lw4_0 : w4_0 < N0 := hlt _ (.head _) rfl
 have lw4_0c0 : w4_0c0 < N0 := hlt _ (.tail _ (.head _)) rfl
 have gs_W4_0 : ∀ x, (W4_0.set r4_0_ x)[r4_0_]? = some x := gsetW g4_0
 rw [← set_same g4_0]
 refine fnK tok Tryz.func31 Tryz.ntmps31 Tryz.results31 ?_
 simp only [argsA, Nat.reduceAdd, hp_next]
 unfold i_takeTurns_i_SquadRun_1_c4_0_0 at H
 refine Sx tok [] [0, 1, 2, 3, 4] (by
  intro K k
  have e0 := nQ w4_0 w4_0c0
  simp -dsimp -implicitDefEqProofs [e0, gs_W4_0, List.set_set]
  exact k) ?_
 refine AWP_sq [2, 3] fun K1 hK1 => ?_
 refine AWP_block (AWP_thenB ?_)
 obtain ⟨e1, hse1, H⟩ := bindE H
 refine AWP_lp [0, 1, 2, 3, 4] (fun s a σ => ∃ M1 : Nat, N0 ≤ M1 ∧ a = [(0, .int .i64 s.1), (1, .int .i64 p1), (2, .int .i64 s.2.1), (3, .int .i64 s.2.2.1), (4, .clo 32 [] [.ptr w4_0 r4_0_ 0])] ∧ σ = hp E0 [(w4_0, some ⟨31, 5, W4_0.set r4_0_ [.osl 63 3 (encL rMachine_oo s.2.2.2.Harts), .osl 93 2 (encL rBox_o s.2.2.2.Boxes), .int .i64 s.2.2.2.Turn, .int .i64 s.2.2.2.Idle, .osl 3 1 (encL rI s.2.2.2.Out)]⟩)] M1) (fun e x a σ => match e with | .inl s => x = .exit 0 ∧ Rc G 42 N0 (fun a σ => ∃ M2 : Nat, N0 ≤ M2 ∧ a = [(2, .int .i64 s.1), (3, .int .i64 s.2.1)] ∧ σ = hp E0 [(w4_0, some ⟨31, 5, W4_0.set r4_0_ [.osl 63 3 (encL rMachine_oo s.2.2.Harts), .osl 93 2 (encL rBox_o s.2.2.Boxes), .int .i64 s.2.2.Turn, .int .i64 s.2.2.Idle, .osl 3 1 (encL rI s.2.2.Out)]⟩)] M2) (AAct.keep a [2, 3]) σ | .inr s => x = .ret ∧ ∃ vs, resA T σ a [.tmp 10, .tmp 11, .tmp 12] = some vs ∧ ∃ M : Nat, N0 ≤ M ∧ (tupA vs) = .tup [.int .i64 s.1, .int .i64 s.2.1, .bool s.2.2.1] ∧ σ = hp E0 [(w4_0, some ⟨31, 5, W4_0.set r4_0_ [.osl 63 3 (encL rMachine_oo s.2.2.2.Harts), .osl 93 2 (encL rBox_o s.2.2.2.Boxes), .int .i64 s.2.2.2.Turn, .int .i64 s.2.2.2.Idle, .osl 3 1 (encL rI s.2.2.2.Out)]⟩), (w4_0c0, none)] M) hse1 ?_ ?_ ?_
 ·refine Rc.kp [0, 1, 2, 3, 4] [(0, .int .i64 p0), (1, .int .i64 p1), (2, .int .i64 p2), (3, .int .i64 p3), (4, .clo 32 [] [.ptr w4_0 r4_0_ 0])] rfl ?_
  refine gP Rc_ref w4_0 r4_0_ 0 ?_ (hr := by exact gs_W4_0 _)
  exact Rf ⟨N0 + 3, (by omega), rfl, rfl⟩
 ·clear H hse1
  rintro ⟨s1, s2, s3, s4⟩ fl a σ H ⟨M1, fM1_0, rfl, rfl⟩ K2 O2 hK2 hO2
  unfold i_takeTurns_i_SquadRun_1_c4_0_0_L1 at H; dsimp only at H
  refine AWP_sq [0, 1, 2, 3, 4] fun K3 hK3 => ?_
  obtain ⟨g8, hg8, H⟩ := bindE H
  refine Sx tok [] [0, 1, 2, 3, 4, 22] (X := [(0, .int .i64 s1), (1, .int .i64 p1), (2, .int .i64 s2), (3, .int .i64 s3), (4, .clo 32 [] [.ptr w4_0 r4_0_ 0]), (22, .bool g8)]) (Y := hp E0 [(w4_0, some ⟨31, 5, W4_0.set r4_0_ [.osl 63 3 (encL rMachine_oo s4.Harts), .osl 93 2 (encL rBox_o s4.Boxes), .int .i64 s4.Turn, .int .i64 s4.Idle, .osl 3 1 (encL rI s4.Out)]⟩)] (M1 + 7)) (by
   intro K k
   simp -dsimp -implicitDefEqProofs [gs_W4_0, List.set_set]
   cases hbg8 : igt s1 0
   ·replace hg8 := ifF hbg8 hg8
    replace hg8 := Option.some.inj hg8; subst hg8
    try simp -dsimp -implicitDefEqProofs [gs_W4_0, List.set_set, hbg8]
    exact k
   ·replace hg8 := ifT hbg8 hg8
    replace hg8 := Option.some.inj hg8; subst hg8
    try simp -dsimp -implicitDefEqProofs [gs_W4_0, List.set_set, hbg8]
    exact k) ?_
  refine Cd (fun C1 => ?_) fun C1 => ?_
  ·replace H := ifT C1 H
   refine AWP_skip (Jn hK3 ?_)
   refine AWP_sq [0, 1, 2, 3, 4] fun K4 hK4 => ?_
   refine AWP_block (AWP_thenB ?_)
   obtain ⟨r9, hr9, H⟩ := bindE H
   obtain ⟨r10, hr10, H⟩ := bindE H
   refine AWP_sr tok [] [0, 1, 4, 13, 14, 15] (fun a σ => ∃ M3 : Nat, M1 + 21 ≤ M3 ∧ a = [(0, .int .i64 s1), (1, .int .i64 p1), (4, .clo 32 [] [.ptr w4_0 r4_0_ 0]), (13, .int .i64 r10.1), (14, .int .i64 r10.2.1), (15, .bool r10.2.2)] ∧ σ = hp E0 [(w4_0, some ⟨31, 5, W4_0.set r4_0_ [.osl 63 3 (encL rMachine_oo r9.2.Harts), .osl 93 2 (encL rBox_o r9.2.Boxes), .int .i64 r9.2.Turn, .int .i64 r9.2.Idle, .osl 3 1 (encL rI r9.2.Out)]⟩)] M3) (fun K hK => ?_) ?_
   ·skip
    simp -dsimp -implicitDefEqProofs [gs_W4_0, List.set_set]
    refine (c32 (Wf0 := W4_0.set r4_0_ [.osl 63 3 (encL rMachine_oo s4.Harts), .osl 93 2 (encL rBox_o s4.Boxes), .int .i64 s4.Turn, .int .i64 s4.Idle, .osl 3 1 (encL rI s4.Out)]) (rf0_ := r4_0_) (H := hr9) (by simp [gs_W4_0, List.set_set]) (by simp [gs_W4_0, List.set_set])).mono ?_; rintro _ _ ⟨M3, fM3_0, rfl, rfl⟩; simp only [hp_next] at fM3_0
    try simp -dsimp -implicitDefEqProofs [gs_W4_0, List.set_set, hp_over_some, hp_over_none]
    refine (c68 hr10).app ?_; try simp -dsimp -implicitDefEqProofs [gs_W4_0, List.set_set, hp_over_some, hp_over_none]
    exact hK _ _ ⟨M3, (by omega), rfl, rfl⟩
   rintro a σ ⟨M3, fM3_0, rfl, rfl⟩
   refine AWP_sq [0, 1, 4, 13, 14] fun K5 hK5 => ?_
   refine Sx tok [] [0, 1, 4, 13, 14, 37] (by intro K k; simp -dsimp -implicitDefEqProofs [gs_W4_0, List.set_set]; exact k) ?_
   refine Cd (fun C2 => ?_) fun C2 => ?_
   ·replace H := ifT C2 H
    refine Sx tok [] [10, 11, 12] (by intro K k; simp -dsimp -implicitDefEqProofs [gs_W4_0, List.set_set]; exact k) ?_
    obtain rfl := oi H
    refine Kp [10, 11, 12] ?_
    refine AWP_ret (hO2 _ _ _ _ rfl ⟨rfl, ?_⟩)
    refine ⟨[.int .i64 0, .int .i64 0, .bool false], by simp [gs_W4_0], M3 + 5, by omega, ?_, ?_⟩
    ·simp [encL_nil]
    ·symm; first | exact hp_tail (L := [(w4_0, some ⟨31, 5, W4_0.set r4_0_ [.osl 63 3 (encL rMachine_oo r9.2.Harts), .osl 93 2 (encL rBox_o r9.2.Boxes), .int .i64 r9.2.Turn, .int .i64 r9.2.Idle, .osl 3 1 (encL rI r9.2.Out)]⟩)]) | (simp only [List.set_set]; exact hp_tail (L := [(w4_0, some ⟨31, 5, W4_0.set r4_0_ [.osl 63 3 (encL rMachine_oo r9.2.Harts), .osl 93 2 (encL rBox_o r9.2.Boxes), .int .i64 r9.2.Turn, .int .i64 r9.2.Idle, .osl 3 1 (encL rI r9.2.Out)]⟩)]))
   ·replace H := ifF C2 H
    refine AWP_skip (Jn hK5 ?_)
    refine Rt tok [] [0, 1, 2, 3, 4] (by intro K k; simp -dsimp -implicitDefEqProofs [gs_W4_0, List.set_set]; exact k) fun a ha => ?_
    refine hK4 _ _ ?_; rw [ha]
    refine Rc.mk ?_
    refine Rt tok [] [0, 1, 2, 3, 4] (by intro K k; simp -dsimp -implicitDefEqProofs [gs_W4_0, List.set_set]; exact k) fun a ha => ?_
    obtain rfl := oi H
    refine hK2 _ _ _ rfl ?_; rw [ha]
    exact Rf ⟨M3 + 9, (by omega), rfl, rfl⟩
  ·obtain rfl := oi (ifF C1 H)
   refine AWP_exit (hO2 _ _ _ _ rfl ⟨rfl, ?_⟩)
   refine Rc.rw (l := [2, 3]) (X := [(2, .int .i64 s2), (3, .int .i64 s3)]) rfl ?_
   exact Rf ⟨M1 + 7, (by omega), rfl, rfl⟩
 ·intro x a σ hx
  rcases e1 with ⟨y5, y6, y7⟩ | r0
  ·obtain ⟨rfl, b, τ, hr, M2, fM2_0, rfl, rfl⟩ := hx
   dsimp only at H
   show K1 _ _
   refine hK1 _ _ (Rc_ref hr ?_)
   refine Rc.mk ?_
   refine Sx tok [] [10, 11, 12] (by intro K k; simp -dsimp -implicitDefEqProofs [gs_W4_0, List.set_set]; exact k) ?_
   obtain rfl := oi H
   refine Kp [10, 11, 12] ?_
   refine AWP_ret ?_
   refine ⟨[.int .i64 y5, .int .i64 y6, .bool true], by simp [gs_W4_0], M2 + 5, by omega, ?_, ?_⟩
   ·simp [encL_nil]
   ·symm; first | exact hp_tail (L := [(w4_0, some ⟨31, 5, W4_0.set r4_0_ [.osl 63 3 (encL rMachine_oo y7.Harts), .osl 93 2 (encL rBox_o y7.Boxes), .int .i64 y7.Turn, .int .i64 y7.Idle, .osl 3 1 (encL rI y7.Out)]⟩)]) | (simp only [List.set_set]; exact hp_tail (L := [(w4_0, some ⟨31, 5, W4_0.set r4_0_ [.osl 63 3 (encL rMachine_oo y7.Harts), .osl 93 2 (encL rBox_o y7.Boxes), .int .i64 y7.Turn, .int .i64 y7.Idle, .osl 3 1 (encL rI y7.Out)]⟩)]))
  ·obtain ⟨rfl, hx2⟩ := hx
   dsimp only at H
   obtain rfl := oi H; first | exact hx2 | (simp only [List.set_set] at hx2 ⊢; exact hx2)
theorem c8 {p0 : gSquad} {p1 : Int} {r : gSquad × Bool} (H : i_SquadRun p0 p1 = some r) : APure Tryz.prog G 8 [.agg [.fsl (encL rMachine p0.Harts), .fsl (encL rBox p0.Boxes), .int .i64 p0.Turn, .int .i64 p0.Idle, .fsl (encL rI p0.Out)], .int .i64 p1] (.tup [.agg [.fsl (encL rMachine r.1.Harts), .fsl (encL rBox r.1.Boxes), .int .i64 r.1.Turn, .int .i64 r.1.Idle, .fsl (encL rI r.1.Out)], .bool r.2]) := by
 refine APure_fn (fun N0 => ?_) (by simp)
 refine fnK tok Tryz.func8 Tryz.ntmps8 Tryz.results8 ?_
 simp only [argsA, Nat.reduceAdd, hp_next]
 unfold i_SquadRun at H
 refine S0 tok [0] [1, 2, 4] ?_
 refine AWP_sq [1, 2, 4] fun K1 hK1 => ?_
 refine gW AWP_ref (N0 + 1) 0 0 ?_
 refine gW AWP_ref (N0 + 1) 0 1 ?_
 refine gW AWP_ref (N0 + 1) 0 4 ?_
 obtain ⟨r1, hr1, H⟩ := bindE H
 obtain ⟨g2, hg2, H⟩ := bindE H
 obtain ⟨g3, hg3, H⟩ := bindE H
 refine Sx tok [] [1, 2, 4, 22] (X := [(1, .int .i64 p1), (2, .fptr [.fsl (encL rMachine p0.Harts), .fsl (encL rBox p0.Boxes), .int .i64 p0.Turn, .int .i64 p0.Idle, .fsl (encL rI p0.Out)] 0), (4, .ptr (N0 + 1) 0 0), (22, .bool g3)]) (Y := hp E0 [(N0 + 1, some ⟨31, 5, [[.fsl [], .fsl [], .int .i64 0, .int .i64 0, .fsl []]]⟩)] (N0 + 14)) (by
  intro K k
  simp -dsimp -implicitDefEqProofs
  refine (c27 hr1).app ?_; try simp -dsimp -implicitDefEqProofs
  cases hbg2 : bnot r1
  ·replace hg2 := ifF hbg2 hg2
   replace hg2 := Option.some.inj hg2; subst hg2
   try simp -dsimp -implicitDefEqProofs [hbg2]
   cases hbg3 : (ilt p1 0)
   ·replace hg3 := ifF hbg3 hg3
    replace hg3 := Option.some.inj hg3; subst hg3
    try simp -dsimp -implicitDefEqProofs [hbg2, hbg3]
    exact k
   ·replace hg3 := ifT hbg3 hg3
    replace hg3 := Option.some.inj hg3; subst hg3
    try simp -dsimp -implicitDefEqProofs [hbg2, hbg3]
    exact k
  ·replace hg2 := ifT hbg2 hg2
   replace hg2 := Option.some.inj hg2; subst hg2
   try simp -dsimp -implicitDefEqProofs [hbg2]
   replace hg3 := ifT rfl hg3
   replace hg3 := Option.some.inj hg3; subst hg3
   try simp -dsimp -implicitDefEqProofs [hbg2]
   exact k) ?_
 refine Cd (fun C1 => ?_) fun C1 => ?_
 ·replace H := ifT C1 H
  refine S0 tok [] [4, 5] ?_
  obtain rfl := oi H
  refine Kp [4, 5] ?_
  refine AWP_ret ?_
  exact ⟨[.agg [.fsl [], .fsl [], .int .i64 0, .int .i64 0, .fsl []], .bool false], by simp, 4, by simp [encL_nil]⟩
 ·replace H := ifF C1 H
  refine AWP_skip (Jn hK1 ?_)
  obtain ⟨r4, hr4, H⟩ := bindE H
  obtain ⟨r5, hr5, H⟩ := bindE H
  refine AWP_syC tok tokM [6] [2, 5, 7, 8] [0, 1, 3, 4, 2, 5, 6, 7, 8] [] [1, 2, 4, 6] (fun a σ => ∃ M1 o1 : Nat, ∃ M2 o2 : Nat, N0 + 23 ≤ M1 ∧ N0 + 23 ≤ o1 ∧ o1 < M1 ∧ M1 ≤ M2 ∧ M1 ≤ o2 ∧ o2 < M2 ∧ a = [(1, .int .i64 p1), (2, .fptr [.fsl (encL rMachine p0.Harts), .fsl (encL rBox p0.Boxes), .int .i64 p0.Turn, .int .i64 p0.Idle, .fsl (encL rI p0.Out)] 0), (4, .ptr (N0 + 1) 0 0), (6, .ptr (N0 + 21) 0 0)] ∧ σ = hp E0 [(N0 + 1, some ⟨31, 5, [[.fsl [], .fsl [], .int .i64 0, .int .i64 0, .fsl []]]⟩), (o1, some ⟨93, 2, encL rBox_o r4⟩), (o2, some ⟨3, 1, encL rI r5⟩), (N0 + 21, some ⟨31, 5, [[.nilsl, .sl o1 0 r4.length, .int .i64 0, .int .i64 0, .sl o2 0 r5.length]]⟩)] M2) (by decide) (by kernel_rfl) (fun K hK => ?_) ?_
  ·simp only [pickL, nthO_succ, nthO_zero]
   simp -dsimp -implicitDefEqProofs
   refine (c28_o2 (H := hr4) ).mono ?_; rintro _ _ ⟨M1, o1, fM1_0, fM1_1, fM1_2, rfl, rfl⟩; simp only [hp_next] at fM1_0 fM1_1 fM1_2
   have eM1_0 := nQ o1 (N0 + 1)
   have eM1_1 := nQ o1 (N0 + 21)
   try simp -dsimp -implicitDefEqProofs [eM1_0, eM1_1, hp_over_some, hp_over_none]
   refine (c29_o (H := hr5) ).mono ?_; rintro _ _ ⟨M2, o2, fM2_0, fM2_1, fM2_2, rfl, rfl⟩; simp only [hp_next] at fM2_0 fM2_1 fM2_2
   have eM2_0 := nQ o2 (N0 + 1)
   have eM2_1 := nQ o2 (N0 + 21)
   have eM2_2 := nQ o2 o1
   try simp -dsimp -implicitDefEqProofs [eM1_0, eM1_1, hp_over_some, hp_over_none, eM2_0, eM2_1, eM2_2, hp_over_some, hp_over_none]
   exact hK _ _ ⟨M1, o1, M2, o2, (by omega), (by omega), (by omega), (by omega), (by omega), (by omega), rfl, rfl⟩
  rintro a σ ⟨M1, o1, M2, o2, fM1_0, fM1_1, fM1_2, fM2_0, fM2_1, fM2_2, rfl, rfl⟩
  refine AWP_sq [1, 2, 4, 6] fun K2 hK2 => ?_
  refine Sx tok [] [1, 2, 4, 6, 32, 33, 34] (by
   intro K k
   have e0 := nQ (N0 + 1) o1
   have e1 := nQ (N0 + 1) o2
   have e2 := nQ o1 o2
   have e3 := nQ o1 (N0 + 21)
   have e4 := nQ o2 (N0 + 21)
   simp -dsimp -implicitDefEqProofs [e0, e1, e2, e3, e4]
   exact k) ?_
  refine AWP_block (AWP_thenB ?_)
  obtain ⟨e1, hse1, H⟩ := bindE H
  refine AWP_lp [1, 2, 4, 6, 32, 33, 34] (fun s a σ => ∃ M3 o3 o4 : Nat, N0 ≤ M3 ∧ N0 ≤ o3 ∧ o3 < M3 ∧ N0 ≤ o4 ∧ o4 < M3 ∧ ¬ o3 = o4 ∧ a = [(1, .int .i64 p1), (2, .fptr [.fsl (encL rMachine p0.Harts), .fsl (encL rBox p0.Boxes), .int .i64 p0.Turn, .int .i64 p0.Idle, .fsl (encL rI p0.Out)] 0), (4, .ptr o3 0 0), (6, .ptr o4 0 0), (32, .fsl (encL rMachine p0.Harts)), (33, .int .i64 (ilen p0.Harts)), (34, .int .i64 s.1)] ∧ σ = hp E0 [(o3, some ⟨31, 5, [[.fsl (encL rMachine s.2.1.Harts), .fsl (encL rBox s.2.1.Boxes), .int .i64 s.2.1.Turn, .int .i64 s.2.1.Idle, .fsl (encL rI s.2.1.Out)]]⟩), (o4, some ⟨31, 5, [[.osl 63 3 (encL rMachine_oo s.2.2.Harts), .osl 93 2 (encL rBox_o s.2.2.Boxes), .int .i64 s.2.2.Turn, .int .i64 s.2.2.Idle, .osl 3 1 (encL rI s.2.2.Out)]]⟩)] M3) (fun s x a σ => x = .exit 0 ∧ Rc G 68 N0 (fun a σ => ∃ M4 o5 o6 : Nat, N0 ≤ M4 ∧ N0 ≤ o5 ∧ o5 < M4 ∧ N0 ≤ o6 ∧ o6 < M4 ∧ ¬ o5 = o6 ∧ a = [(1, .int .i64 p1), (2, .fptr [.fsl (encL rMachine p0.Harts), .fsl (encL rBox p0.Boxes), .int .i64 p0.Turn, .int .i64 p0.Idle, .fsl (encL rI p0.Out)] 0), (4, .ptr o5 0 0), (6, .ptr o6 0 0)] ∧ σ = hp E0 [(o5, some ⟨31, 5, [[.fsl (encL rMachine s.1.Harts), .fsl (encL rBox s.1.Boxes), .int .i64 s.1.Turn, .int .i64 s.1.Idle, .fsl (encL rI s.1.Out)]]⟩), (o6, some ⟨31, 5, [[.osl 63 3 (encL rMachine_oo s.2.Harts), .osl 93 2 (encL rBox_o s.2.Boxes), .int .i64 s.2.Turn, .int .i64 s.2.Idle, .osl 3 1 (encL rI s.2.Out)]]⟩)] M4) (AAct.keep a [1, 2, 4, 6]) σ) hse1 ?_ ?_ ?_
  ·refine Rc.kp [1, 2, 4, 6, 32, 33, 34] [(1, .int .i64 p1), (2, .fptr [.fsl (encL rMachine p0.Harts), .fsl (encL rBox p0.Boxes), .int .i64 p0.Turn, .int .i64 p0.Idle, .fsl (encL rI p0.Out)] 0), (4, .ptr (N0 + 1) 0 0), (6, .ptr (N0 + 21) 0 0), (32, .fsl (encL rMachine p0.Harts)), (33, .int .i64 (ilen p0.Harts)), (34, .int .i64 0)] rfl ?_
   refine gP0 Rc_ref (N0 + 21) 0 0 63 3 (encL rMachine_oo ([] : List gMachine)) ?_
   refine gP Rc_ref (N0 + 21) 0 1 ?_
   refine gP Rc_ref (N0 + 21) 0 4 ?_
   exact Rf ⟨M2 + 4, (N0 + 1), (N0 + 21), (by omega), (by omega), (by omega), (by omega), (by omega), (by omega), rfl, rfl⟩
  ·clear H hse1
   rintro ⟨s6, s7, s8⟩ fl a σ H ⟨M3, o3, o4, fM3_0, fM3_1, fM3_2, fM3_3, fM3_4, fM3_5, rfl, rfl⟩ K3 O3 hK3 hO3
   unfold i_SquadRun_L1 at H; dsimp only at H
   refine Sx tok [] [1, 2, 4, 6, 32, 33, 34, 35] (by
    intro K k
    have e0 := nQ o3 o4
    simp -dsimp -implicitDefEqProofs [e0]
    exact k) ?_
   refine AWP_sq [1, 2, 4, 6, 32, 33, 34] fun K4 hK4 => ?_
   refine Cd (fun C2 => ?_) fun C2 => ?_
   ·replace H := ifT C2 H
    refine AWP_skip (Jn hK4 ?_)
    refine AWP_sq [1, 2, 4, 6, 32, 33, 34] fun K5 hK5 => ?_
    refine AWP_block (AWP_thenB ?_)
    obtain ⟨v11, hv11, H⟩ := bindE H
    refine Sx tok [] [1, 2, 4, 6, 8, 32, 33, 34] (by
     intro K k
     have e0 := nQ o3 o4
     have e1 := nQ o3 (M3 + 3)
     have e2 := nQ o4 (M3 + 3)
     simp -dsimp -implicitDefEqProofs [e0, e1, e2, ix28 hv11]
     exact k) ?_
    refine gU AWP_ref o4 0 0 ?_
    obtain ⟨r12, hr12, H⟩ := bindE H
    obtain ⟨l13, hl13, H⟩ := bindE H
    have q0 : ∀ (a0 : Nat) (a1 : Nat) (a2 : Int) (a3 : Nat) (a4 : Nat) σ i, buildSliceA T 28 true i 1 [(0, .agg [.sl a0 0 a1, .int .i64 a2, .sl a3 0 a4])] σ = some (.fsl [[.sl a0 0 a1, .int .i64 a2, .sl a3 0 a4]], σ) := fun _ _ _ _ _ _ _ => rfl
    refine AWP_ry tok tokM [4] [1, 2, 3, 4, 5, 7] [0, 1, 2, 3, 4, 5, 6, 7] [(3, [1]), (4, [1])] [1, 2, 4, 6, 32, 33, 34] (fun a σ => ∃ M5 o7 o8 : Nat, M3 + 14 ≤ M5 ∧ M3 + 14 ≤ o7 ∧ o7 < M5 ∧ M3 + 14 ≤ o8 ∧ o8 < M5 ∧ ¬ o7 = o8 ∧ a = [(1, .int .i64 p1), (2, .fptr [.fsl (encL rMachine p0.Harts), .fsl (encL rBox p0.Boxes), .int .i64 p0.Turn, .int .i64 p0.Idle, .fsl (encL rI p0.Out)] 0), (4, .ptr o3 0 0), (6, .ptr o4 0 0), (32, .fsl (encL rMachine p0.Harts)), (33, .int .i64 (ilen p0.Harts)), (34, .int .i64 s6)] ∧ σ = hp E0 [(o3, some ⟨31, 5, [[.fsl (encL rMachine s7.Harts), .fsl (encL rBox s7.Boxes), .int .i64 s7.Turn, .int .i64 s7.Idle, .fsl (encL rI s7.Out)]]⟩), (o4, some ⟨31, 5, [[.sl (M3 + 11) 0 l13.length, .osl 93 2 (encL rBox_o s8.Boxes), .int .i64 s8.Turn, .int .i64 s8.Idle, .osl 3 1 (encL rI s8.Out)]]⟩), (M3 + 3, some ⟨63, 3, [[.fsl (encL rI v11.Regs), .int .i64 v11.Pc, .fsl (encL rI v11.Mem)]]⟩), (o7, some ⟨3, 1, encL rI r12.Regs⟩), (o8, some ⟨3, 1, encL rI r12.Mem⟩), (M3 + 11, some ⟨63, 3, encL rMachine_oo s8.Harts ++ [[.sl o7 0 r12.Regs.length, .int .i64 r12.Pc, .sl o8 0 r12.Mem.length]]⟩)] M5) (by decide) (fun K hK => ?_) ?_
    ·simp only [pickL, nthO_succ, nthO_zero]
     have e0 := nQ o3 o4
     have e1 := nQ o3 (M3 + 3)
     have e2 := nQ o3 (M3 + 5)
     have e3 := nQ o3 (M3 + 11)
     have e4 := nQ o4 (M3 + 3)
     have e5 := nQ o4 (M3 + 5)
     have e6 := nQ o4 (M3 + 11)
     simp -dsimp -implicitDefEqProofs [e0, e1, e2, e3, e4, e5, e6, q0, apr28 rMachine_oo hl13]
     refine (c30_o2 (H := hr12) ).mono ?_; rintro _ _ ⟨M5, o7, o8, fM5_0, fM5_1, fM5_2, fM5_3, fM5_4, fM5_5, rfl, rfl⟩; simp only [hp_next] at fM5_0 fM5_1 fM5_2 fM5_3 fM5_4 fM5_5
     have eM5_0 := nQ o7 o3
     have eM5_1 := nQ o7 o4
     have eM5_2 := nQ o7 (M3 + 3)
     have eM5_3 := nQ o7 (M3 + 5)
     have eM5_4 := nQ o7 (M3 + 11)
     have eM5_5 := nQ o7 o8
     have eM5_6 := nQ o8 o3
     have eM5_7 := nQ o8 o4
     have eM5_8 := nQ o8 (M3 + 3)
     have eM5_9 := nQ o8 (M3 + 5)
     have eM5_10 := nQ o8 (M3 + 11)
     try simp -dsimp -implicitDefEqProofs [e0, e1, e2, e3, e4, e5, e6, q0, apr28 rMachine_oo hl13, eM5_0, eM5_1, eM5_2, eM5_3, eM5_4, eM5_5, eM5_6, eM5_7, eM5_8, eM5_9, eM5_10, hp_over_some, hp_over_none]
     exact hK _ _ ⟨M5, o7, o8, (by omega), (by omega), (by omega), (by omega), (by omega), (by omega), rfl, rfl⟩
    rintro a σ ⟨M5, o7, o8, fM5_0, fM5_1, fM5_2, fM5_3, fM5_4, fM5_5, ha, rfl⟩
    refine hK5 _ _ ?_; rw [ha]
    refine Rc.mk ?_
    refine gP AWP_ref (M3 + 11) s8.Harts.length 0 ?_ (hr := by exact app_get _ _ _)
    refine gP AWP_ref (M3 + 11) s8.Harts.length 2 ?_ (hr := by exact app_get _ _ _)
    rw [show hp E0 [(o3, some ⟨31, 5, [[.fsl (encL rMachine s7.Harts), .fsl (encL rBox s7.Boxes), .int .i64 s7.Turn, .int .i64 s7.Idle, .fsl (encL rI s7.Out)]]⟩), (o4, some ⟨31, 5, [[.sl (M3 + 11) 0 l13.length, .osl 93 2 (encL rBox_o s8.Boxes), .int .i64 s8.Turn, .int .i64 s8.Idle, .osl 3 1 (encL rI s8.Out)]]⟩), (M3 + 3, some ⟨63, 3, [[.fsl (encL rI v11.Regs), .int .i64 v11.Pc, .fsl (encL rI v11.Mem)]]⟩), (M3 + 11, some ⟨63, 3, encL rMachine_oo s8.Harts ++ [[.osl 3 1 (encL rI r12.Regs), .int .i64 r12.Pc, .osl 3 1 (encL rI r12.Mem)]]⟩)] M5 = hp E0 [(o3, some ⟨31, 5, [[.fsl (encL rMachine s7.Harts), .fsl (encL rBox s7.Boxes), .int .i64 s7.Turn, .int .i64 s7.Idle, .fsl (encL rI s7.Out)]]⟩), (o4, some ⟨31, 5, [[.sl (M3 + 11) 0 l13.length, .osl 93 2 (encL rBox_o s8.Boxes), .int .i64 s8.Turn, .int .i64 s8.Idle, .osl 3 1 (encL rI s8.Out)]]⟩), (M3 + 3, some ⟨63, 3, [[.fsl (encL rI v11.Regs), .int .i64 v11.Pc, .fsl (encL rI v11.Mem)]]⟩), (M3 + 11, some ⟨63, 3, encL rMachine_oo l13⟩)] M5 from by rw [← app_enc (f := rMachine_oo) (c := [.osl 3 1 (encL rI r12.Regs), .int .i64 r12.Pc, .osl 3 1 (encL rI r12.Mem)]) hl13 rfl]]
    refine Rt tok [] [1, 2, 4, 6, 32, 33, 34] (by
     intro K k
     have e0 := nQ o3 o4
     have e1 := nQ o3 (M3 + 3)
     have e2 := nQ o3 (M3 + 11)
     have e3 := nQ o4 (M3 + 3)
     have e4 := nQ o4 (M3 + 11)
     simp -dsimp -implicitDefEqProofs [e0, e1, e2, e3, e4]
     exact k) fun a ha => ?_
    obtain rfl := oi H
    refine hK3 _ _ _ rfl ?_; rw [ha]
    refine gP Rc_ref o4 0 0 ?_
    exact Rc.fin (hp_skip (hp_skip (AHeap.Sub.trans (AHeap.Sub.refl _) (hp_drop rfl (by simp; try omega))))) ⟨M5 + 2, o3, o4, (by omega), (by omega), (by omega), (by omega), (by omega), (by omega), rfl, rfl⟩
   ·obtain rfl := oi (ifF C2 H)
    refine AWP_exit (hO3 _ _ _ _ rfl ⟨rfl, ?_⟩)
    refine Rc.rw (l := [1, 2, 4, 6]) (X := [(1, .int .i64 p1), (2, .fptr [.fsl (encL rMachine p0.Harts), .fsl (encL rBox p0.Boxes), .int .i64 p0.Turn, .int .i64 p0.Idle, .fsl (encL rI p0.Out)] 0), (4, .ptr o3 0 0), (6, .ptr o4 0 0)]) rfl ?_
    exact Rf ⟨M3 + 1, o3, o4, (by omega), (by omega), (by omega), (by omega), (by omega), (by omega), rfl, rfl⟩
  ·intro x a σ hx
   obtain ⟨y9, y10⟩ := e1
   obtain ⟨rfl, b, τ, hr, M4, o5, o6, fM4_0, fM4_1, fM4_2, fM4_3, fM4_4, fM4_5, rfl, rfl⟩ := hx
   dsimp only at H
   show K2 _ _
   refine hK2 _ _ (Rc_ref hr ?_)
   refine Rc.mk ?_
   refine gU AWP_ref o6 0 0 ?_
   obtain ⟨r14, hr14, H⟩ := bindE H
   refine AWP_sr tok [] [4, 6, 9, 10, 11] (fun a σ => ∃ M6 : Nat, M4 + 18 ≤ M6 ∧ a = [(4, .ptr o5 0 0), (6, .ptr o6 0 0), (9, .int .i64 r14.1), (10, .int .i64 r14.2.1), (11, .bool r14.2.2.1)] ∧ σ = hp E0 [(o5, some ⟨31, 5, [[.fsl (encL rMachine y9.Harts), .fsl (encL rBox y9.Boxes), .int .i64 y9.Turn, .int .i64 y9.Idle, .fsl (encL rI y9.Out)]]⟩), (o6, some ⟨31, 5, [[.osl 63 3 (encL rMachine_oo r14.2.2.2.Harts), .osl 93 2 (encL rBox_o r14.2.2.2.Boxes), .int .i64 r14.2.2.2.Turn, .int .i64 r14.2.2.2.Idle, .osl 3 1 (encL rI r14.2.2.2.Out)]]⟩)] M6) (fun K hK => ?_) ?_
   ·skip
    have e0 := nQ o5 o6
    have e1 := nQ o5 M4
    have e2 := nQ o6 M4
    simp -dsimp -implicitDefEqProofs [e0, e1, e2]
    refine (c31_i_SquadRun_1_c4_0_0 (w4_0c0 := M4) (W4_0 := [[.sl M4 0 y10.Harts.length, .osl 93 2 (encL rBox_o y10.Boxes), .int .i64 y10.Turn, .int .i64 y10.Idle, .osl 3 1 (encL rI y10.Out)]]) (r4_0_ := 0) (H := hr14) (by simp [e0, e1, e2]) (by simp [e0, e1, e2]) (by simp [e0, e1, e2]) (by simp [e0, e1, e2])).mono ?_; rintro _ _ ⟨M6, fM6_0, rfl, rfl⟩; simp only [hp_next] at fM6_0
    try simp -dsimp -implicitDefEqProofs [e0, e1, e2, hp_over_some, hp_over_none]
    exact hK _ _ ⟨M6, (by omega), rfl, rfl⟩
   rintro a σ ⟨M6, fM6_0, rfl, rfl⟩
   refine AWP_sq [4, 6, 9, 10] fun K6 hK6 => ?_
   refine Sx tok [] [4, 6, 9, 10, 61] (by
    intro K k
    have e0 := nQ o5 o6
    simp -dsimp -implicitDefEqProofs [e0]
    exact k) ?_
   refine Cd (fun C3 => ?_) fun C3 => ?_
   ·replace H := ifT C3 H
    refine Sx tok [] [4, 5] (by
     intro K k
     have e0 := nQ o5 o6
     simp -dsimp -implicitDefEqProofs [e0]
     exact k) ?_
    obtain rfl := oi H
    refine Kp [4, 5] ?_
    have z0 := nQ o5 o6
    refine AWP_ret ?_
    exact ⟨[.agg [.fsl [], .fsl [], .int .i64 0, .int .i64 0, .fsl []], .bool false], by simp [z0], 4, by simp [encL_nil, z0]⟩
   ·replace H := ifF C3 H
    refine AWP_skip (Jn hK6 ?_)
    refine Sx tok [] [4, 6] (by
     intro K k
     have e0 := nQ o5 o6
     simp -dsimp -implicitDefEqProofs [e0]
     exact k) ?_
    refine gU AWP_ref o6 0 0 ?_
    refine gU AWP_ref o6 0 1 ?_
    refine gU AWP_ref o6 0 4 ?_
    refine Sx tok [] [4, 5] (by
     intro K k
     have e0 := nQ o5 o6
     have e1 := nQ o5 (M6 + 8)
     have e2 := nQ o5 (M6 + 9)
     have e3 := nQ o5 (M6 + 10)
     have e4 := nQ o6 (M6 + 8)
     have e5 := nQ o6 (M6 + 9)
     have e6 := nQ o6 (M6 + 10)
     simp -dsimp -implicitDefEqProofs [e0, e1, e2, e3, e4, e5, e6]
     exact k) ?_
    obtain rfl := oi H
    refine Kp [4, 5] ?_
    have z1 := nQ o5 o6
    have z2 := nQ o5 (M6 + 8)
    have z3 := nQ o5 (M6 + 9)
    have z4 := nQ o5 (M6 + 10)
    have z5 := nQ o6 (M6 + 8)
    have z6 := nQ o6 (M6 + 9)
    have z7 := nQ o6 (M6 + 10)
    refine AWP_ret ?_
    exact ⟨[.agg [.sl (M6 + 8) 0 r14.2.2.2.Harts.length, .sl (M6 + 9) 0 r14.2.2.2.Boxes.length, .int .i64 r14.1, .int .i64 r14.2.1, .sl (M6 + 10) 0 r14.2.2.2.Out.length], .bool true], by simp [z1, z2, z3, z4, z5, z6, z7], 4, by simp [encL_nil, z1, z2, z3, z4, z5, z6, z7]⟩
theorem c37 {p0 : (List Int)} {p1 : (List Int)} {r : Bool} (H : l_eqIntS p0 p1 = some r) : APure Tryz.prog G 37 [.fsl (encL rI p0), .fsl (encL rI p1)] (.bool r) := by
 refine APure_fn (fun N0 => ?_) (by simp)
 refine fnK tok Tryz.func37 Tryz.ntmps37 Tryz.results37 ?_
 simp only [argsA, Nat.reduceAdd, hp_next]
 unfold l_eqIntS at H
 refine S0 tok [] [0, 1] ?_
 refine AWP_sq [0, 1] fun K1 hK1 => ?_
 refine S0 tok [] [0, 1, 10] ?_
 refine Cd (fun C1 => ?_) fun C1 => ?_
 ·replace H := ifT C1 H
  refine S0 tok [] [4] ?_
  obtain rfl := oi H; exact AWP_ret ⟨_, rfl, 4, by simp [encL_nil]⟩
 ·replace H := ifF C1 H
  refine AWP_skip (Jn hK1 ?_)
  refine AWP_sq [] fun K2 hK2 => ?_
  refine S0 tok [] [0, 1, 5] ?_
  refine AWP_block (AWP_thenB ?_)
  obtain ⟨e1, hse1, H⟩ := bindE H
  refine AWP_lp [0, 1, 5] (fun s a σ => ∃ M1 : Nat, N0 ≤ M1 ∧ a = [(0, .fsl (encL rI p0)), (1, .fsl (encL rI p1)), (5, .int .i64 s)] ∧ σ = hp E0 [] M1) (fun e x a σ => match e with | .inl s => x = .exit 0 ∧ Rc G 26 N0 (fun a σ => ∃ M2 : Nat, N0 ≤ M2 ∧ a = [] ∧ σ = hp E0 [] M2) (AAct.keep a []) σ | .inr s => x = .ret ∧ ∃ vs, resA T σ a [.tmp 4] = some vs ∧ ∃ d, thawA (fun _ => true) σ d (tupA vs) = .bool s) hse1 ?_ ?_ ?_
  ·refine Rc.kp [0, 1, 5] [(0, .fsl (encL rI p0)), (1, .fsl (encL rI p1)), (5, .int .i64 0)] rfl ?_
   exact Rf ⟨N0 + 7, (by omega), rfl, rfl⟩
  ·clear H hse1
   rintro s1 fl a σ H ⟨M1, fM1_0, rfl, rfl⟩ K3 O3 hK3 hO3
   unfold l_eqIntS_L1 at H; dsimp only at H
   refine AWP_sq [0, 1, 5] fun K4 hK4 => ?_
   refine S0 tok [] [0, 1, 5, 14] ?_
   refine Cd (fun C2 => ?_) fun C2 => ?_
   ·replace H := ifT C2 H
    refine AWP_skip (Jn hK4 ?_)
    refine AWP_sq [0, 1, 5] fun K5 hK5 => ?_
    refine AWP_block (AWP_thenB ?_)
    obtain ⟨v2, hv2, H⟩ := bindE H
    obtain ⟨v3, hv3, H⟩ := bindE H
    refine Sd tok tokM [] [] [0, 1, 2, 3, 4, 5, 6, 7, 8] [0, 1, 5, 25] (by
     intro K k
     simp only [pickL, nthO_succ, nthO_zero]
     simp -dsimp -implicitDefEqProofs [ix24 hv2, ix24 hv3]
     exact k) ?_
    refine Cd (fun C3 => ?_) fun C3 => ?_
    ·replace H := ifT C3 H
     refine S0 tok [] [4] ?_
     obtain rfl := oi H
     refine Kp [4] ?_
     refine AWP_ret (hO3 _ _ _ _ rfl ⟨rfl, ?_⟩)
     exact ⟨[.bool false], by simp, 4, by simp [encL_nil]⟩
    ·replace H := ifF C3 H
     refine AWP_skip (Jn hK5 ?_)
     refine Rt0 tok [] [0, 1, 5] fun a ha => ?_
     obtain rfl := oi H
     refine hK3 _ _ _ rfl ?_; rw [ha]
     exact Rf ⟨M1 + 16, (by omega), rfl, rfl⟩
   ·obtain rfl := oi (ifF C2 H)
    refine AWP_exit (hO3 _ _ _ _ rfl ⟨rfl, ?_⟩)
    refine Rc.rw (l := []) (X := []) rfl ?_
    exact Rf ⟨M1 + 4, (by omega), rfl, rfl⟩
  ·intro x a σ hx
   rcases e1 with ⟨⟩ | r0
   ·obtain ⟨rfl, b, τ, hr, M2, fM2_0, rfl, rfl⟩ := hx
    dsimp only at H
    show K2 _ _
    refine hK2 _ _ (Rc_ref hr ?_)
    refine Rc.mk ?_
    refine S0 tok [] [4] ?_
    obtain rfl := oi H; exact AWP_ret ⟨_, rfl, 4, by simp [encL_nil]⟩
   ·obtain ⟨rfl, hx2⟩ := hx
    dsimp only at H
    obtain rfl := oi H; first | exact hx2 | (simp only [List.set_set] at hx2 ⊢; exact hx2)
theorem c78 {p0 : gMachine} {p1 : gMachine} {r : Bool} (H : l_eqMachine p0 p1 = some r) : APure Tryz.prog G 78 [.agg [.fsl (encL rI p0.Regs), .int .i64 p0.Pc, .fsl (encL rI p0.Mem)], .agg [.fsl (encL rI p1.Regs), .int .i64 p1.Pc, .fsl (encL rI p1.Mem)]] (.bool r) := by
 refine APure_fn (fun N0 => ?_) (by simp)
 refine fnK tok Tryz.func78 Tryz.ntmps78 Tryz.results78 ?_
 simp only [argsA, Nat.reduceAdd, hp_next]
 unfold l_eqMachine at H
 refine S0 tok [0, 1] [2, 3] ?_
 refine AWP_sq [2, 3] fun K1 hK1 => ?_
 obtain ⟨r1, hr1, H⟩ := bindE H
 refine Sx tok [] [2, 3, 10] (by intro K k; (repeat first | simp -dsimp -implicitDefEqProofs | refine (c37 hr1).app ?_); exact k) ?_
 refine Cd (fun C1 => ?_) fun C1 => ?_
 ·replace H := ifT C1 H
  refine S0 tok [] [4] ?_
  obtain rfl := oi H; exact AWP_ret ⟨_, rfl, 4, by simp [encL_nil]⟩
 ·replace H := ifF C1 H
  refine AWP_skip (Jn hK1 ?_)
  refine AWP_sq [2, 3] fun K2 hK2 => ?_
  refine S0 tok [] [2, 3, 15] ?_
  refine Cd (fun C2 => ?_) fun C2 => ?_
  ·replace H := ifT C2 H
   refine S0 tok [] [4] ?_
   obtain rfl := oi H; exact AWP_ret ⟨_, rfl, 4, by simp [encL_nil]⟩
  ·replace H := ifF C2 H
   refine AWP_skip (Jn hK2 ?_)
   refine AWP_sq [] fun K3 hK3 => ?_
   obtain ⟨r2, hr2, H⟩ := bindE H
   refine Sx tok [] [21] (by intro K k; (repeat first | simp -dsimp -implicitDefEqProofs | refine (c37 hr2).app ?_); exact k) ?_
   refine Cd (fun C3 => ?_) fun C3 => ?_
   ·replace H := ifT C3 H
    refine S0 tok [] [4] ?_
    obtain rfl := oi H; exact AWP_ret ⟨_, rfl, 4, by simp [encL_nil]⟩
   ·replace H := ifF C3 H
    refine AWP_skip (Jn hK3 ?_)
    refine S0 tok [] [4] ?_
    obtain rfl := oi H; exact AWP_ret ⟨_, rfl, 4, by simp [encL_nil]⟩
theorem c35 {p0 : (List gMachine)} {p1 : (List gMachine)} {r : Bool} (H : l_eqMachineS p0 p1 = some r) : APure Tryz.prog G 35 [.fsl (encL rMachine p0), .fsl (encL rMachine p1)] (.bool r) := by
 refine APure_fn (fun N0 => ?_) (by simp)
 refine fnK tok Tryz.func35 Tryz.ntmps35 Tryz.results35 ?_
 simp only [argsA, Nat.reduceAdd, hp_next]
 unfold l_eqMachineS at H
 refine S0 tok [] [0, 1] ?_
 refine AWP_sq [0, 1] fun K1 hK1 => ?_
 refine S0 tok [] [0, 1, 10] ?_
 refine Cd (fun C1 => ?_) fun C1 => ?_
 ·replace H := ifT C1 H
  refine S0 tok [] [4] ?_
  obtain rfl := oi H; exact AWP_ret ⟨_, rfl, 4, by simp [encL_nil]⟩
 ·replace H := ifF C1 H
  refine AWP_skip (Jn hK1 ?_)
  refine AWP_sq [] fun K2 hK2 => ?_
  refine S0 tok [] [0, 1, 5] ?_
  refine AWP_block (AWP_thenB ?_)
  obtain ⟨e1, hse1, H⟩ := bindE H
  refine AWP_lp [0, 1, 5] (fun s a σ => ∃ M1 : Nat, N0 ≤ M1 ∧ a = [(0, .fsl (encL rMachine p0)), (1, .fsl (encL rMachine p1)), (5, .int .i64 s)] ∧ σ = hp E0 [] M1) (fun e x a σ => match e with | .inl s => x = .exit 0 ∧ Rc G 27 N0 (fun a σ => ∃ M2 : Nat, N0 ≤ M2 ∧ a = [] ∧ σ = hp E0 [] M2) (AAct.keep a []) σ | .inr s => x = .ret ∧ ∃ vs, resA T σ a [.tmp 4] = some vs ∧ ∃ d, thawA (fun _ => true) σ d (tupA vs) = .bool s) hse1 ?_ ?_ ?_
  ·refine Rc.kp [0, 1, 5] [(0, .fsl (encL rMachine p0)), (1, .fsl (encL rMachine p1)), (5, .int .i64 0)] rfl ?_
   exact Rf ⟨N0 + 7, (by omega), rfl, rfl⟩
  ·clear H hse1
   rintro s1 fl a σ H ⟨M1, fM1_0, rfl, rfl⟩ K3 O3 hK3 hO3
   unfold l_eqMachineS_L1 at H; dsimp only at H
   refine AWP_sq [0, 1, 5] fun K4 hK4 => ?_
   refine S0 tok [] [0, 1, 5, 14] ?_
   refine Cd (fun C2 => ?_) fun C2 => ?_
   ·replace H := ifT C2 H
    refine AWP_skip (Jn hK4 ?_)
    refine AWP_sq [0, 1, 5] fun K5 hK5 => ?_
    refine AWP_block (AWP_thenB ?_)
    obtain ⟨v2, hv2, H⟩ := bindE H
    obtain ⟨v3, hv3, H⟩ := bindE H
    obtain ⟨r4, hr4, H⟩ := bindE H
    refine Sd tok tokM [] [] [0, 1, 2, 3, 4, 5, 6, 7, 8, 9] [0, 1, 5, 26] (by
     intro K k
     simp only [pickL, nthO_succ, nthO_zero]
     repeat first | simp -dsimp -implicitDefEqProofs [ix28 hv2, ix28 hv3] | refine Pc.mk (c78 hr4) ?_
     exact k) ?_
    refine Cd (fun C3 => ?_) fun C3 => ?_
    ·replace H := ifT C3 H
     refine S0 tok [] [4] ?_
     obtain rfl := oi H
     refine Kp [4] ?_
     refine AWP_ret (hO3 _ _ _ _ rfl ⟨rfl, ?_⟩)
     exact ⟨[.bool false], by simp, 4, by simp [encL_nil]⟩
    ·replace H := ifF C3 H
     refine AWP_skip (Jn hK5 ?_)
     refine Rt0 tok [] [0, 1, 5] fun a ha => ?_
     obtain rfl := oi H
     refine hK3 _ _ _ rfl ?_; rw [ha]
     exact Rf ⟨M1 + 17, (by omega), rfl, rfl⟩
   ·obtain rfl := oi (ifF C2 H)
    refine AWP_exit (hO3 _ _ _ _ rfl ⟨rfl, ?_⟩)
    refine Rc.rw (l := []) (X := []) rfl ?_
    exact Rf ⟨M1 + 4, (by omega), rfl, rfl⟩
  ·intro x a σ hx
   rcases e1 with ⟨⟩ | r0
   ·obtain ⟨rfl, b, τ, hr, M2, fM2_0, rfl, rfl⟩ := hx
    dsimp only at H
    show K2 _ _
    refine hK2 _ _ (Rc_ref hr ?_)
    refine Rc.mk ?_
    refine S0 tok [] [4] ?_
    obtain rfl := oi H; exact AWP_ret ⟨_, rfl, 4, by simp [encL_nil]⟩
   ·obtain ⟨rfl, hx2⟩ := hx
    dsimp only at H
    obtain rfl := oi H; first | exact hx2 | (simp only [List.set_set] at hx2 ⊢; exact hx2)
theorem c79 {p0 : gBox} {p1 : gBox} {r : Bool} (H : l_eqBox p0 p1 = some r) : APure Tryz.prog G 79 [.agg [.int .i64 p0.Room, .fsl (encL rI p0.Items)], .agg [.int .i64 p1.Room, .fsl (encL rI p1.Items)]] (.bool r) := by
 refine APure_fn (fun N0 => ?_) (by simp)
 refine fnK tok Tryz.func79 Tryz.ntmps79 Tryz.results79 ?_
 simp only [argsA, Nat.reduceAdd, hp_next]
 unfold l_eqBox at H
 refine S0 tok [0, 1] [2, 3] ?_
 refine AWP_sq [2, 3] fun K1 hK1 => ?_
 refine S0 tok [] [2, 3, 9] ?_
 refine Cd (fun C1 => ?_) fun C1 => ?_
 ·replace H := ifT C1 H
  refine S0 tok [] [4] ?_
  obtain rfl := oi H; exact AWP_ret ⟨_, rfl, 4, by simp [encL_nil]⟩
 ·replace H := ifF C1 H
  refine AWP_skip (Jn hK1 ?_)
  refine AWP_sq [] fun K2 hK2 => ?_
  obtain ⟨r1, hr1, H⟩ := bindE H
  refine Sx tok [] [15] (by intro K k; (repeat first | simp -dsimp -implicitDefEqProofs | refine (c37 hr1).app ?_); exact k) ?_
  refine Cd (fun C2 => ?_) fun C2 => ?_
  ·replace H := ifT C2 H
   refine S0 tok [] [4] ?_
   obtain rfl := oi H; exact AWP_ret ⟨_, rfl, 4, by simp [encL_nil]⟩
  ·replace H := ifF C2 H
   refine AWP_skip (Jn hK2 ?_)
   refine S0 tok [] [4] ?_
   obtain rfl := oi H; exact AWP_ret ⟨_, rfl, 4, by simp [encL_nil]⟩
theorem c36 {p0 : (List gBox)} {p1 : (List gBox)} {r : Bool} (H : l_eqBoxS p0 p1 = some r) : APure Tryz.prog G 36 [.fsl (encL rBox p0), .fsl (encL rBox p1)] (.bool r) := by
 refine APure_fn (fun N0 => ?_) (by simp)
 refine fnK tok Tryz.func36 Tryz.ntmps36 Tryz.results36 ?_
 simp only [argsA, Nat.reduceAdd, hp_next]
 unfold l_eqBoxS at H
 refine S0 tok [] [0, 1] ?_
 refine AWP_sq [0, 1] fun K1 hK1 => ?_
 refine S0 tok [] [0, 1, 10] ?_
 refine Cd (fun C1 => ?_) fun C1 => ?_
 ·replace H := ifT C1 H
  refine S0 tok [] [4] ?_
  obtain rfl := oi H; exact AWP_ret ⟨_, rfl, 4, by simp [encL_nil]⟩
 ·replace H := ifF C1 H
  refine AWP_skip (Jn hK1 ?_)
  refine AWP_sq [] fun K2 hK2 => ?_
  refine S0 tok [] [0, 1, 5] ?_
  refine AWP_block (AWP_thenB ?_)
  obtain ⟨e1, hse1, H⟩ := bindE H
  refine AWP_lp [0, 1, 5] (fun s a σ => ∃ M1 : Nat, N0 ≤ M1 ∧ a = [(0, .fsl (encL rBox p0)), (1, .fsl (encL rBox p1)), (5, .int .i64 s)] ∧ σ = hp E0 [] M1) (fun e x a σ => match e with | .inl s => x = .exit 0 ∧ Rc G 27 N0 (fun a σ => ∃ M2 : Nat, N0 ≤ M2 ∧ a = [] ∧ σ = hp E0 [] M2) (AAct.keep a []) σ | .inr s => x = .ret ∧ ∃ vs, resA T σ a [.tmp 4] = some vs ∧ ∃ d, thawA (fun _ => true) σ d (tupA vs) = .bool s) hse1 ?_ ?_ ?_
  ·refine Rc.kp [0, 1, 5] [(0, .fsl (encL rBox p0)), (1, .fsl (encL rBox p1)), (5, .int .i64 0)] rfl ?_
   exact Rf ⟨N0 + 7, (by omega), rfl, rfl⟩
  ·clear H hse1
   rintro s1 fl a σ H ⟨M1, fM1_0, rfl, rfl⟩ K3 O3 hK3 hO3
   unfold l_eqBoxS_L1 at H; dsimp only at H
   refine AWP_sq [0, 1, 5] fun K4 hK4 => ?_
   refine S0 tok [] [0, 1, 5, 14] ?_
   refine Cd (fun C2 => ?_) fun C2 => ?_
   ·replace H := ifT C2 H
    refine AWP_skip (Jn hK4 ?_)
    refine AWP_sq [0, 1, 5] fun K5 hK5 => ?_
    refine AWP_block (AWP_thenB ?_)
    obtain ⟨v2, hv2, H⟩ := bindE H
    obtain ⟨v3, hv3, H⟩ := bindE H
    obtain ⟨r4, hr4, H⟩ := bindE H
    refine Sd tok tokM [] [] [0, 1, 2, 3, 4, 5, 6, 7, 8, 9] [0, 1, 5, 26] (by
     intro K k
     simp only [pickL, nthO_succ, nthO_zero]
     repeat first | simp -dsimp -implicitDefEqProofs [ix29 hv2, ix29 hv3] | refine Pc.mk (c79 hr4) ?_
     exact k) ?_
    refine Cd (fun C3 => ?_) fun C3 => ?_
    ·replace H := ifT C3 H
     refine S0 tok [] [4] ?_
     obtain rfl := oi H
     refine Kp [4] ?_
     refine AWP_ret (hO3 _ _ _ _ rfl ⟨rfl, ?_⟩)
     exact ⟨[.bool false], by simp, 4, by simp [encL_nil]⟩
    ·replace H := ifF C3 H
     refine AWP_skip (Jn hK5 ?_)
     refine Rt0 tok [] [0, 1, 5] fun a ha => ?_
     obtain rfl := oi H
     refine hK3 _ _ _ rfl ?_; rw [ha]
     exact Rf ⟨M1 + 17, (by omega), rfl, rfl⟩
   ·obtain rfl := oi (ifF C2 H)
    refine AWP_exit (hO3 _ _ _ _ rfl ⟨rfl, ?_⟩)
    refine Rc.rw (l := []) (X := []) rfl ?_
    exact Rf ⟨M1 + 4, (by omega), rfl, rfl⟩
  ·intro x a σ hx
   rcases e1 with ⟨⟩ | r0
   ·obtain ⟨rfl, b, τ, hr, M2, fM2_0, rfl, rfl⟩ := hx
    dsimp only at H
    show K2 _ _
    refine hK2 _ _ (Rc_ref hr ?_)
    refine Rc.mk ?_
    refine S0 tok [] [4] ?_
    obtain rfl := oi H; exact AWP_ret ⟨_, rfl, 4, by simp [encL_nil]⟩
   ·obtain ⟨rfl, hx2⟩ := hx
    dsimp only at H
    obtain rfl := oi H; first | exact hx2 | (simp only [List.set_set] at hx2 ⊢; exact hx2)
theorem c9 {p0 : gSquad} {p1 : gSquad} {r : Bool} (H : l_eqSquad p0 p1 = some r) : APure Tryz.prog G 9 [.agg [.fsl (encL rMachine p0.Harts), .fsl (encL rBox p0.Boxes), .int .i64 p0.Turn, .int .i64 p0.Idle, .fsl (encL rI p0.Out)], .agg [.fsl (encL rMachine p1.Harts), .fsl (encL rBox p1.Boxes), .int .i64 p1.Turn, .int .i64 p1.Idle, .fsl (encL rI p1.Out)]] (.bool r) := by
 refine APure_fn (fun N0 => ?_) (by simp)
 refine fnK tok Tryz.func9 Tryz.ntmps9 Tryz.results9 ?_
 simp only [argsA, Nat.reduceAdd, hp_next]
 unfold l_eqSquad at H
 refine S0 tok [0, 1] [2, 3] ?_
 refine AWP_sq [2, 3] fun K1 hK1 => ?_
 obtain ⟨r1, hr1, H⟩ := bindE H
 refine Sx tok [] [2, 3, 10] (by intro K k; (repeat first | simp -dsimp -implicitDefEqProofs | refine (c35 hr1).app ?_); exact k) ?_
 refine Cd (fun C1 => ?_) fun C1 => ?_
 ·replace H := ifT C1 H
  refine S0 tok [] [4] ?_
  obtain rfl := oi H; exact AWP_ret ⟨_, rfl, 4, by simp [encL_nil]⟩
 ·replace H := ifF C1 H
  refine AWP_skip (Jn hK1 ?_)
  refine AWP_sq [2, 3] fun K2 hK2 => ?_
  obtain ⟨r2, hr2, H⟩ := bindE H
  refine Sx tok [] [2, 3, 16] (by intro K k; (repeat first | simp -dsimp -implicitDefEqProofs | refine (c36 hr2).app ?_); exact k) ?_
  refine Cd (fun C2 => ?_) fun C2 => ?_
  ·replace H := ifT C2 H
   refine S0 tok [] [4] ?_
   obtain rfl := oi H; exact AWP_ret ⟨_, rfl, 4, by simp [encL_nil]⟩
  ·replace H := ifF C2 H
   refine AWP_skip (Jn hK2 ?_)
   refine AWP_sq [2, 3] fun K3 hK3 => ?_
   refine S0 tok [] [2, 3, 21] ?_
   refine Cd (fun C3 => ?_) fun C3 => ?_
   ·replace H := ifT C3 H
    refine S0 tok [] [4] ?_
    obtain rfl := oi H; exact AWP_ret ⟨_, rfl, 4, by simp [encL_nil]⟩
   ·replace H := ifF C3 H
    refine AWP_skip (Jn hK3 ?_)
    refine AWP_sq [2, 3] fun K4 hK4 => ?_
    refine S0 tok [] [2, 3, 26] ?_
    refine Cd (fun C4 => ?_) fun C4 => ?_
    ·replace H := ifT C4 H
     refine S0 tok [] [4] ?_
     obtain rfl := oi H; exact AWP_ret ⟨_, rfl, 4, by simp [encL_nil]⟩
    ·replace H := ifF C4 H
     refine AWP_skip (Jn hK4 ?_)
     refine AWP_sq [] fun K5 hK5 => ?_
     obtain ⟨r3, hr3, H⟩ := bindE H
     refine Sx tok [] [32] (by intro K k; (repeat first | simp -dsimp -implicitDefEqProofs | refine (c37 hr3).app ?_); exact k) ?_
     refine Cd (fun C5 => ?_) fun C5 => ?_
     ·replace H := ifT C5 H
      refine S0 tok [] [4] ?_
      obtain rfl := oi H; exact AWP_ret ⟨_, rfl, 4, by simp [encL_nil]⟩
     ·replace H := ifF C5 H
      refine AWP_skip (Jn hK5 ?_)
      refine S0 tok [] [4] ?_
      obtain rfl := oi H; exact AWP_ret ⟨_, rfl, 4, by simp [encL_nil]⟩
theorem c40 {p0 : (List Int)} {p1 : Int} {r : Int × (List Int)} (H : l_markIntS p0 p1 = some r) {σ : AHeap} {w0 : Nat} (q0 : σ.objs w0 = some ⟨3, 1, encL rI p0⟩) : ACalls Tryz.prog G 40 [.sl w0 0 p0.length, .int .i64 p1] σ (fun v σ' => ∃ M : Nat, σ.next ≤ M ∧ r.2.length = p0.length ∧ v = .int .i64 r.1 ∧ σ' = hp σ.objs [(w0, some ⟨3, 1, encL rI r.2⟩)] M) := by
 refine ACalls_fr (L := [(w0, some ⟨3, 1, encL rI p0⟩)]) (Q1 := fun v σ' => ∃ M : Nat, σ.next ≤ M ∧ r.2.length = p0.length ∧ v = .int .i64 r.1 ∧ σ' = hp E0 [(w0, some ⟨3, 1, encL rI r.2⟩)] M) (by simp [q0]) (fun hlt => ?_) ?_ ⟨_, Tryz.func40, rfl, rfl⟩
 rotate_left
 ·rintro v σ1 ⟨M, h0, h1, rfl, rfl⟩
  exact ⟨_, M, rfl, by simp, by simp; try omega, M, h0, h1, rfl, rfl⟩
 generalize σ.next = N0 at hlt ⊢
 have lw0 : w0 < N0 := hlt _ (.head _) rfl
 refine fnK tok Tryz.func40 Tryz.ntmps40 Tryz.results40 ?_
 simp only [argsA, Nat.reduceAdd, hp_next]
 unfold l_markIntS at H
 refine S0 tok [] [0, 1] ?_
 refine AWP_sq [1] fun K1 hK1 => ?_
 refine S0 tok [] [0, 1, 5] ?_
 refine AWP_block (AWP_thenB ?_)
 obtain ⟨e1, hse1, H⟩ := bindE H
 refine AWP_lp [0, 1, 5] (fun s a σ => ∃ M1 : Nat, N0 ≤ M1 ∧ s.2.2.length = p0.length ∧ a = [(0, .sl w0 0 s.2.2.length), (1, .int .i64 s.1), (5, .int .i64 s.2.1)] ∧ σ = hp E0 [(w0, some ⟨3, 1, encL rI s.2.2⟩)] M1) (fun s x a σ => x = .exit 0 ∧ Rc G 19 N0 (fun a σ => ∃ M2 : Nat, N0 ≤ M2 ∧ s.2.length = p0.length ∧ a = [(1, .int .i64 s.1)] ∧ σ = hp E0 [(w0, some ⟨3, 1, encL rI s.2⟩)] M2) (AAct.keep a [1]) σ) hse1 ?_ ?_ ?_
 ·refine Rc.kp [0, 1, 5] [(0, .sl w0 0 p0.length), (1, .int .i64 p1), (5, .int .i64 0)] rfl ?_
  exact Rf ⟨N0 + 2, (by omega), (by first | rfl | exact rfl | omega), rfl, rfl⟩
 ·clear H hse1
  rintro ⟨s1, s2, s3⟩ fl a σ H ⟨M1, fM1_0, fM1_1, rfl, rfl⟩ K2 O2 hK2 hO2
  unfold l_markIntS_L1 at H; dsimp only at H
  refine AWP_sq [0, 1, 5] fun K3 hK3 => ?_
  refine S0 tok [] [0, 1, 5, 9] ?_
  refine Cd (fun C1 => ?_) fun C1 => ?_
  ·replace H := ifT C1 H
   refine AWP_skip (Jn hK3 ?_)
   refine AWP_sq [0, 1, 5] fun K4 hK4 => ?_
   refine AWP_block (AWP_thenB ?_)
   obtain ⟨v6, hv6, H⟩ := bindE H
   obtain ⟨l7, hl7, H⟩ := bindE H
   refine Sx tok [] [0, 1, 5] (by intro K k; simp -dsimp -implicitDefEqProofs [ixo24 hv6, (idx_lt3 hv6).2.2, (setx_iff.1 hl7).2.symm]; exact k) ?_
   try rw [← setx_len hl7]
   refine Rt0 tok [] [0, 1, 5] fun a ha => ?_
   refine hK4 _ _ ?_; rw [ha]
   refine Rc.mk ?_
   refine Rt0 tok [] [0, 1, 5] fun a ha => ?_
   obtain rfl := oi H
   refine hK2 _ _ _ rfl ?_; rw [ha]
   exact Rf ⟨M1 + 15, (by omega), (by first | rfl | exact ((setx_len hl7).trans fM1_1) | omega), rfl, rfl⟩
  ·obtain rfl := oi (ifF C1 H)
   refine AWP_exit (hO2 _ _ _ _ rfl ⟨rfl, ?_⟩)
   refine Rc.rw (l := [1]) (X := [(1, .int .i64 s1)]) rfl ?_
   exact Rf ⟨M1 + 4, (by omega), (by first | rfl | exact fM1_1 | omega), rfl, rfl⟩
 ·intro x a σ hx
  obtain ⟨y4, y5⟩ := e1
  obtain ⟨rfl, b, τ, hr, M2, fM2_0, fM2_1, rfl, rfl⟩ := hx
  dsimp only at H
  show K1 _ _
  refine hK1 _ _ (Rc_ref hr ?_)
  refine Rc.mk ?_
  refine S0 tok [] [4] ?_
  obtain rfl := oi H
  refine Kp [4] ?_
  refine AWP_ret ?_
  refine ⟨[.int .i64 y4], by simp, M2 + 2, by omega, by first | rfl | exact fM2_1 | omega, ?_, ?_⟩
  ·simp [encL_nil]
  ·first | rfl | simp [List.set_set]
theorem c38 {p0 : (List gMachine)} {p1 : Int} {r : Int × (List gMachine)} (H : l_markMachineS p0 p1 = some r) {σ : AHeap} {w0 : Nat} (q0 : σ.objs w0 = some ⟨63, 3, encL rMachine_oo p0⟩) : ACalls Tryz.prog G 38 [.sl w0 0 p0.length, .int .i64 p1] σ (fun v σ' => ∃ M : Nat, σ.next ≤ M ∧ r.2.length = p0.length ∧ v = .int .i64 r.1 ∧ σ' = hp σ.objs [(w0, some ⟨63, 3, encL rMachine_oo r.2⟩)] M) := by
 refine ACalls_fr (L := [(w0, some ⟨63, 3, encL rMachine_oo p0⟩)]) (Q1 := fun v σ' => ∃ M : Nat, σ.next ≤ M ∧ r.2.length = p0.length ∧ v = .int .i64 r.1 ∧ σ' = hp E0 [(w0, some ⟨63, 3, encL rMachine_oo r.2⟩)] M) (by simp [q0]) (fun hlt => ?_) ?_ ⟨_, Tryz.func38, rfl, rfl⟩
 rotate_left
 ·rintro v σ1 ⟨M, h0, h1, rfl, rfl⟩
  exact ⟨_, M, rfl, by simp, by simp; try omega, M, h0, h1, rfl, rfl⟩
 generalize σ.next = N0 at hlt ⊢
 have lw0 : w0 < N0 := hlt _ (.head _) rfl
 refine fnK tok Tryz.func38 Tryz.ntmps38 Tryz.results38 ?_
 simp only [argsA, Nat.reduceAdd, hp_next]
 unfold l_markMachineS at H
 refine S0 tok [] [0, 1] ?_
 refine AWP_sq [1] fun K1 hK1 => ?_
 refine S0 tok [] [0, 1, 5] ?_
 refine AWP_block (AWP_thenB ?_)
 obtain ⟨e1, hse1, H⟩ := bindE H
 refine AWP_lp [0, 1, 5] (fun s a σ => ∃ M1 : Nat, N0 ≤ M1 ∧ s.2.2.length = p0.length ∧ a = [(0, .sl w0 0 s.2.2.length), (1, .int .i64 s.1), (5, .int .i64 s.2.1)] ∧ σ = hp E0 [(w0, some ⟨63, 3, encL rMachine_oo s.2.2⟩)] M1) (fun s x a σ => x = .exit 0 ∧ Rc G 34 N0 (fun a σ => ∃ M2 : Nat, N0 ≤ M2 ∧ s.2.length = p0.length ∧ a = [(1, .int .i64 s.1)] ∧ σ = hp E0 [(w0, some ⟨63, 3, encL rMachine_oo s.2⟩)] M2) (AAct.keep a [1]) σ) hse1 ?_ ?_ ?_
 ·refine Rc.kp [0, 1, 5] [(0, .sl w0 0 p0.length), (1, .int .i64 p1), (5, .int .i64 0)] rfl ?_
  exact Rf ⟨N0 + 2, (by omega), (by first | rfl | exact rfl | omega), rfl, rfl⟩
 ·clear H hse1
  rintro ⟨s1, s2, s3⟩ fl a σ H ⟨M1, fM1_0, fM1_1, rfl, rfl⟩ K2 O2 hK2 hO2
  unfold l_markMachineS_L1 at H; dsimp only at H
  refine AWP_sq [0, 1, 5] fun K3 hK3 => ?_
  refine S0 tok [] [0, 1, 5, 9] ?_
  refine Cd (fun C1 => ?_) fun C1 => ?_
  ·replace H := ifT C1 H
   refine AWP_skip (Jn hK3 ?_)
   refine AWP_sq [0, 1, 5] fun K4 hK4 => ?_
   refine AWP_block (AWP_thenB ?_)
   obtain ⟨v6, hv6, H⟩ := bindE H
   refine gU AWP_ref w0 s2.toNat 0 ?_ (hr := by exact encL_at rMachine_oo hv6)
   obtain ⟨r7, hr7, H⟩ := bindE H
   refine AWP_sr tok [] [0, 1, 5] (fun a σ => ∃ M3 : Nat, M1 + 13 ≤ M3 ∧ r7.2.length = v6.Regs.length ∧ a = [(0, .sl w0 0 s3.length), (1, .int .i64 r7.1), (5, .int .i64 s2)] ∧ σ = hp E0 [(w0, some ⟨63, 3, (encL rMachine_oo s3).set s2.toNat [.sl (M1 + 4) 0 v6.Regs.length, .int .i64 v6.Pc, .osl 3 1 (encL rI v6.Mem)]⟩), (M1 + 4, some ⟨3, 1, encL rI r7.2⟩)] M3) (fun K hK => ?_) ?_
   ·skip
    have e0 := nQ w0 (M1 + 4)
    simp -dsimp -implicitDefEqProofs [e0, (gset hv6 _), List.set_set, ixo28 hv6, (idx_lt3 hv6).2.2]
    refine (c40 (H := hr7) (by simp [e0, (gset hv6 _), List.set_set, ixo28 hv6, (idx_lt3 hv6).2.2])).mono ?_; rintro _ _ ⟨M3, fM3_0, fM3_1, rfl, rfl⟩; simp only [hp_next] at fM3_0
    try simp -dsimp -implicitDefEqProofs [e0, (gset hv6 _), List.set_set, ixo28 hv6, (idx_lt3 hv6).2.2, hp_over_some, hp_over_none]
    exact hK _ _ ⟨M3, (by omega), fM3_1, rfl, rfl⟩
   rintro a σ ⟨M3, fM3_0, fM3_1, rfl, rfl⟩
   try rw [← fM3_1]
   refine Sx tok [] [0, 1, 5] (by
    intro K k
    have e0 := nQ w0 (M1 + 4)
    simp -dsimp -implicitDefEqProofs [e0, (gset hv6 _), List.set_set, ixo28 hv6, (idx_lt3 hv6).2.2]
    exact k) ?_
   refine Sx tok [] [0, 1, 5] (by
    intro K k
    have e0 := nQ w0 (M1 + 4)
    simp -dsimp -implicitDefEqProofs [e0, (gset hv6 _), List.set_set]
    exact k) ?_
   refine gP AWP_ref w0 s2.toNat 0 ?_ (hr := by exact gset hv6 _)
   obtain ⟨l8, hl8, H⟩ := bindE H
   rw [show hp E0 [(w0, some ⟨63, 3, (encL rMachine_oo s3).set s2.toNat [.osl 3 1 (encL rI r7.2), .int .i64 r7.1, .osl 3 1 (encL rI v6.Mem)]⟩)] (M3 + 9) = hp E0 [(w0, some ⟨63, 3, encL rMachine_oo l8⟩)] (M3 + 9) from by rw [(setx_iff.1 hl8).2, ← encL_set]; rfl]; (try rw [← setx_len hl8])
   obtain ⟨v9, hv9, H⟩ := bindE H
   refine gU AWP_ref w0 s2.toNat 2 ?_ (hr := by exact encL_at rMachine_oo hv9)
   obtain ⟨r10, hr10, H⟩ := bindE H
   refine AWP_rt tok [] [0, 1, 5] (fun a σ => ∃ M4 : Nat, M3 + 18 ≤ M4 ∧ r10.2.length = v9.Mem.length ∧ a = [(0, .sl w0 0 l8.length), (1, .int .i64 r10.1), (5, .int .i64 s2)] ∧ σ = hp E0 [(w0, some ⟨63, 3, (encL rMachine_oo l8).set s2.toNat [.osl 3 1 (encL rI v9.Regs), .int .i64 v9.Pc, .sl (M3 + 9) 0 v9.Mem.length]⟩), (M3 + 9, some ⟨3, 1, encL rI r10.2⟩)] M4) (fun K hK => ?_) ?_
   ·skip
    have e0 := nQ w0 (M3 + 9)
    simp -dsimp -implicitDefEqProofs [e0, (gset hv9 _), List.set_set, ixo28 hv9, (idx_lt3 hv9).2.2]
    refine (c40 (H := hr10) (by simp [e0, (gset hv9 _), List.set_set, ixo28 hv9, (idx_lt3 hv9).2.2])).mono ?_; rintro _ _ ⟨M4, fM4_0, fM4_1, rfl, rfl⟩; simp only [hp_next] at fM4_0
    try simp -dsimp -implicitDefEqProofs [e0, (gset hv9 _), List.set_set, ixo28 hv9, (idx_lt3 hv9).2.2, hp_over_some, hp_over_none]
    exact hK _ _ ⟨M4, (by omega), fM4_1, rfl, rfl⟩
   rintro a σ ⟨M4, fM4_0, fM4_1, ha, rfl⟩
   (try rw [← fM4_1] at ha); (try rw [← fM4_1])
   refine hK4 _ _ ?_; rw [ha]
   refine Rc.mk ?_
   refine Rt tok [] [0, 1, 5] (by
    intro K k
    have e0 := nQ w0 (M3 + 9)
    simp -dsimp -implicitDefEqProofs [e0, (gset hv9 _), List.set_set]
    exact k) fun a ha => ?_
   obtain ⟨l11, hl11, H⟩ := bindE H
   obtain rfl := oi H
   refine hK2 _ _ _ rfl ?_; rw [ha]
   refine gP Rc_ref w0 s2.toNat 2 ?_ (hr := by exact gset hv9 _)
   rw [show hp E0 [(w0, some ⟨63, 3, (encL rMachine_oo l8).set s2.toNat [.osl 3 1 (encL rI v9.Regs), .int .i64 v9.Pc, .osl 3 1 (encL rI r10.2)]⟩)] (M4 + 3) = hp E0 [(w0, some ⟨63, 3, encL rMachine_oo l11⟩)] (M4 + 3) from by rw [(setx_iff.1 hl11).2, ← encL_set]; rfl]; (try rw [← setx_len hl11])
   exact Rf ⟨M4 + 3, (by omega), (by first | rfl | exact ((setx_len hl11).trans ((setx_len hl8).trans fM1_1)) | omega), rfl, rfl⟩
  ·obtain rfl := oi (ifF C1 H)
   refine AWP_exit (hO2 _ _ _ _ rfl ⟨rfl, ?_⟩)
   refine Rc.rw (l := [1]) (X := [(1, .int .i64 s1)]) rfl ?_
   exact Rf ⟨M1 + 4, (by omega), (by first | rfl | exact fM1_1 | omega), rfl, rfl⟩
 ·intro x a σ hx
  obtain ⟨y4, y5⟩ := e1
  obtain ⟨rfl, b, τ, hr, M2, fM2_0, fM2_1, rfl, rfl⟩ := hx
  dsimp only at H
  show K1 _ _
  refine hK1 _ _ (Rc_ref hr ?_)
  refine Rc.mk ?_
  refine S0 tok [] [4] ?_
  obtain rfl := oi H
  refine Kp [4] ?_
  refine AWP_ret ?_
  refine ⟨[.int .i64 y4], by simp, M2 + 2, by omega, by first | rfl | exact fM2_1 | omega, ?_, ?_⟩
  ·simp [encL_nil]
  ·first | rfl | simp [List.set_set]
theorem c39 {p0 : (List gBox)} {p1 : Int} {r : Int × (List gBox)} (H : l_markBoxS p0 p1 = some r) {σ : AHeap} {w0 : Nat} (q0 : σ.objs w0 = some ⟨93, 2, encL rBox_o p0⟩) : ACalls Tryz.prog G 39 [.sl w0 0 p0.length, .int .i64 p1] σ (fun v σ' => ∃ M : Nat, σ.next ≤ M ∧ r.2.length = p0.length ∧ v = .int .i64 r.1 ∧ σ' = hp σ.objs [(w0, some ⟨93, 2, encL rBox_o r.2⟩)] M) := by
 refine ACalls_fr (L := [(w0, some ⟨93, 2, encL rBox_o p0⟩)]) (Q1 := fun v σ' => ∃ M : Nat, σ.next ≤ M ∧ r.2.length = p0.length ∧ v = .int .i64 r.1 ∧ σ' = hp E0 [(w0, some ⟨93, 2, encL rBox_o r.2⟩)] M) (by simp [q0]) (fun hlt => ?_) ?_ ⟨_, Tryz.func39, rfl, rfl⟩
 rotate_left
 ·rintro v σ1 ⟨M, h0, h1, rfl, rfl⟩
  exact ⟨_, M, rfl, by simp, by simp; try omega, M, h0, h1, rfl, rfl⟩
 generalize σ.next = N0 at hlt ⊢
 have lw0 : w0 < N0 := hlt _ (.head _) rfl
 refine fnK tok Tryz.func39 Tryz.ntmps39 Tryz.results39 ?_
 simp only [argsA, Nat.reduceAdd, hp_next]
 unfold l_markBoxS at H
 refine S0 tok [] [0, 1] ?_
 refine AWP_sq [1] fun K1 hK1 => ?_
 refine S0 tok [] [0, 1, 5] ?_
 refine AWP_block (AWP_thenB ?_)
 obtain ⟨e1, hse1, H⟩ := bindE H
 refine AWP_lp [0, 1, 5] (fun s a σ => ∃ M1 : Nat, N0 ≤ M1 ∧ s.2.2.length = p0.length ∧ a = [(0, .sl w0 0 s.2.2.length), (1, .int .i64 s.1), (5, .int .i64 s.2.1)] ∧ σ = hp E0 [(w0, some ⟨93, 2, encL rBox_o s.2.2⟩)] M1) (fun s x a σ => x = .exit 0 ∧ Rc G 27 N0 (fun a σ => ∃ M2 : Nat, N0 ≤ M2 ∧ s.2.length = p0.length ∧ a = [(1, .int .i64 s.1)] ∧ σ = hp E0 [(w0, some ⟨93, 2, encL rBox_o s.2⟩)] M2) (AAct.keep a [1]) σ) hse1 ?_ ?_ ?_
 ·refine Rc.kp [0, 1, 5] [(0, .sl w0 0 p0.length), (1, .int .i64 p1), (5, .int .i64 0)] rfl ?_
  exact Rf ⟨N0 + 2, (by omega), (by first | rfl | exact rfl | omega), rfl, rfl⟩
 ·clear H hse1
  rintro ⟨s1, s2, s3⟩ fl a σ H ⟨M1, fM1_0, fM1_1, rfl, rfl⟩ K2 O2 hK2 hO2
  unfold l_markBoxS_L1 at H; dsimp only at H
  refine AWP_sq [0, 1, 5] fun K3 hK3 => ?_
  refine S0 tok [] [0, 1, 5, 9] ?_
  refine Cd (fun C1 => ?_) fun C1 => ?_
  ·replace H := ifT C1 H
   refine AWP_skip (Jn hK3 ?_)
   refine AWP_sq [0, 1, 5] fun K4 hK4 => ?_
   refine AWP_block (AWP_thenB ?_)
   obtain ⟨v6, hv6, H⟩ := bindE H
   obtain ⟨l7, hl7, H⟩ := bindE H
   refine Sx tok [] [0, 1, 5] (by intro K k; simp -dsimp -implicitDefEqProofs [ixo29 hv6, (idx_lt3 hv6).2.2, (setx_iff.1 hl7).2.symm, set_rBox_o]; exact k) ?_
   try rw [← setx_len hl7]
   refine S0 tok [] [0, 1, 5] ?_
   obtain ⟨v8, hv8, H⟩ := bindE H
   refine gU AWP_ref w0 s2.toNat 1 ?_ (hr := by exact encL_at rBox_o hv8)
   obtain ⟨r9, hr9, H⟩ := bindE H
   refine AWP_rt tok [] [0, 1, 5] (fun a σ => ∃ M3 : Nat, M1 + 22 ≤ M3 ∧ r9.2.length = v8.Items.length ∧ a = [(0, .sl w0 0 l7.length), (1, .int .i64 r9.1), (5, .int .i64 s2)] ∧ σ = hp E0 [(w0, some ⟨93, 2, (encL rBox_o l7).set s2.toNat [.int .i64 v8.Room, .sl (M1 + 13) 0 v8.Items.length]⟩), (M1 + 13, some ⟨3, 1, encL rI r9.2⟩)] M3) (fun K hK => ?_) ?_
   ·skip
    have e0 := nQ w0 (M1 + 13)
    simp -dsimp -implicitDefEqProofs [e0, (gset hv8 _), List.set_set, ixo29 hv8, (idx_lt3 hv8).2.2]
    refine (c40 (H := hr9) (by simp [e0, (gset hv8 _), List.set_set, ixo29 hv8, (idx_lt3 hv8).2.2])).mono ?_; rintro _ _ ⟨M3, fM3_0, fM3_1, rfl, rfl⟩; simp only [hp_next] at fM3_0
    try simp -dsimp -implicitDefEqProofs [e0, (gset hv8 _), List.set_set, ixo29 hv8, (idx_lt3 hv8).2.2, hp_over_some, hp_over_none]
    exact hK _ _ ⟨M3, (by omega), fM3_1, rfl, rfl⟩
   rintro a σ ⟨M3, fM3_0, fM3_1, ha, rfl⟩
   (try rw [← fM3_1] at ha); (try rw [← fM3_1])
   refine hK4 _ _ ?_; rw [ha]
   refine Rc.mk ?_
   refine Rt tok [] [0, 1, 5] (by
    intro K k
    have e0 := nQ w0 (M1 + 13)
    simp -dsimp -implicitDefEqProofs [e0, (gset hv8 _), List.set_set]
    exact k) fun a ha => ?_
   obtain ⟨l10, hl10, H⟩ := bindE H
   obtain rfl := oi H
   refine hK2 _ _ _ rfl ?_; rw [ha]
   refine gP Rc_ref w0 s2.toNat 1 ?_ (hr := by exact gset hv8 _)
   rw [show hp E0 [(w0, some ⟨93, 2, (encL rBox_o l7).set s2.toNat [.int .i64 v8.Room, .osl 3 1 (encL rI r9.2)]⟩)] (M3 + 3) = hp E0 [(w0, some ⟨93, 2, encL rBox_o l10⟩)] (M3 + 3) from by rw [(setx_iff.1 hl10).2, ← encL_set]; rfl]; (try rw [← setx_len hl10])
   exact Rf ⟨M3 + 3, (by omega), (by first | rfl | exact ((setx_len hl10).trans ((setx_len hl7).trans fM1_1)) | omega), rfl, rfl⟩
  ·obtain rfl := oi (ifF C1 H)
   refine AWP_exit (hO2 _ _ _ _ rfl ⟨rfl, ?_⟩)
   refine Rc.rw (l := [1]) (X := [(1, .int .i64 s1)]) rfl ?_
   exact Rf ⟨M1 + 4, (by omega), (by first | rfl | exact fM1_1 | omega), rfl, rfl⟩
 ·intro x a σ hx
  obtain ⟨y4, y5⟩ := e1
  obtain ⟨rfl, b, τ, hr, M2, fM2_0, fM2_1, rfl, rfl⟩ := hx
  dsimp only at H
  show K1 _ _
  refine hK1 _ _ (Rc_ref hr ?_)
  refine Rc.mk ?_
  refine S0 tok [] [4] ?_
  obtain rfl := oi H
  refine Kp [4] ?_
  refine AWP_ret ?_
  refine ⟨[.int .i64 y4], by simp, M2 + 2, by omega, by first | rfl | exact fM2_1 | omega, ?_, ?_⟩
  ·simp [encL_nil]
  ·first | rfl | simp [List.set_set]
theorem c10 {p0 : gSquad} {p1 : Int} {r : Int × gSquad} (H : l_markSquad p0 p1 = some r) {σ : AHeap} {w0_0 : Nat} {w0_1 : Nat} {w0_2 : Nat} (q0_0 : σ.objs w0_0 = some ⟨63, 3, encL rMachine_oo p0.Harts⟩) (q0_1 : σ.objs w0_1 = some ⟨93, 2, encL rBox_o p0.Boxes⟩) (q0_2 : σ.objs w0_2 = some ⟨3, 1, encL rI p0.Out⟩) (d0_1 : ¬ w0_0 = w0_1) (d0_2 : ¬ w0_0 = w0_2) (d1_2 : ¬ w0_1 = w0_2) : ACalls Tryz.prog G 10 [.agg [.sl w0_0 0 p0.Harts.length, .sl w0_1 0 p0.Boxes.length, .int .i64 p0.Turn, .int .i64 p0.Idle, .sl w0_2 0 p0.Out.length], .int .i64 p1] σ (fun v σ' => ∃ M : Nat, σ.next ≤ M ∧ r.2.Harts.length = p0.Harts.length ∧ r.2.Boxes.length = p0.Boxes.length ∧ r.2.Out.length = p0.Out.length ∧ v = .int .i64 r.1 ∧ σ' = hp σ.objs [(w0_0, some ⟨63, 3, encL rMachine_oo r.2.Harts⟩), (w0_1, some ⟨93, 2, encL rBox_o r.2.Boxes⟩), (w0_2, some ⟨3, 1, encL rI r.2.Out⟩)] M) := by
 refine ACalls_fr (L := [(w0_0, some ⟨63, 3, encL rMachine_oo p0.Harts⟩), (w0_1, some ⟨93, 2, encL rBox_o p0.Boxes⟩), (w0_2, some ⟨3, 1, encL rI p0.Out⟩)]) (Q1 := fun v σ' => ∃ M : Nat, σ.next ≤ M ∧ r.2.Harts.length = p0.Harts.length ∧ r.2.Boxes.length = p0.Boxes.length ∧ r.2.Out.length = p0.Out.length ∧ v = .int .i64 r.1 ∧ σ' = hp E0 [(w0_0, some ⟨63, 3, encL rMachine_oo r.2.Harts⟩), (w0_1, some ⟨93, 2, encL rBox_o r.2.Boxes⟩), (w0_2, some ⟨3, 1, encL rI r.2.Out⟩)] M) (by simp [q0_0, q0_1, q0_2]) (fun hlt => ?_) ?_ ⟨_, Tryz.func10, rfl, rfl⟩
 rotate_left
 ·rintro v σ1 ⟨M, h0, h1, h2, h3, rfl, rfl⟩
  exact ⟨_, M, rfl, by simp, by simp; try omega, M, h0, h1, h2, h3, rfl, rfl⟩
 generalize σ.next = N0 at hlt ⊢
 have lw0_0 : w0_0 < N0 := hlt _ (.head _) rfl
 have lw0_1 : w0_1 < N0 := hlt _ (.tail _ (.head _)) rfl
 have lw0_2 : w0_2 < N0 := hlt _ (.tail _ (.tail _ (.head _))) rfl
 refine fnK tok Tryz.func10 Tryz.ntmps10 Tryz.results10 ?_
 simp only [argsA, Nat.reduceAdd, hp_next]
 unfold l_markSquad at H
 refine Sx tok [0] [1, 2] (by
  intro K k
  have e0 := nQ w0_0 w0_1
  have e1 := nQ w0_0 w0_2
  have e2 := nQ w0_1 w0_2
  simp -dsimp -implicitDefEqProofs [e0, e1, e2]
  exact k) ?_
 obtain ⟨r1, hr1, H⟩ := bindE H
 refine AWP_sr tok [] [1, 2] (fun a σ => ∃ M1 : Nat, N0 + 7 ≤ M1 ∧ r1.2.length = p0.Harts.length ∧ a = [(1, .int .i64 r1.1), (2, .fptr [.sl w0_0 0 p0.Harts.length, .sl w0_1 0 p0.Boxes.length, .int .i64 p0.Turn, .int .i64 p0.Idle, .sl w0_2 0 p0.Out.length] 0)] ∧ σ = hp E0 [(w0_0, some ⟨63, 3, encL rMachine_oo r1.2⟩), (w0_1, some ⟨93, 2, encL rBox_o p0.Boxes⟩), (w0_2, some ⟨3, 1, encL rI p0.Out⟩)] M1) (fun K hK => ?_) ?_
 ·skip
  have e0 := nQ w0_0 w0_1
  have e1 := nQ w0_0 w0_2
  have e2 := nQ w0_1 w0_2
  simp -dsimp -implicitDefEqProofs [e0, e1, e2]
  refine (c38 (H := hr1) (by simp [e0, e1, e2])).mono ?_; rintro _ _ ⟨M1, fM1_0, fM1_1, rfl, rfl⟩; simp only [hp_next] at fM1_0
  try simp -dsimp -implicitDefEqProofs [e0, e1, e2, hp_over_some, hp_over_none]
  exact hK _ _ ⟨M1, (by omega), fM1_1, rfl, rfl⟩
 rintro a σ ⟨M1, fM1_0, fM1_1, rfl, rfl⟩
 try rw [← fM1_1]
 obtain ⟨r2, hr2, H⟩ := bindE H
 refine AWP_sr tok [] [1, 2] (fun a σ => ∃ M2 : Nat, M1 + 5 ≤ M2 ∧ r2.2.length = p0.Boxes.length ∧ a = [(1, .int .i64 r2.1), (2, .fptr [.sl w0_0 0 r1.2.length, .sl w0_1 0 p0.Boxes.length, .int .i64 p0.Turn, .int .i64 p0.Idle, .sl w0_2 0 p0.Out.length] 0)] ∧ σ = hp E0 [(w0_0, some ⟨63, 3, encL rMachine_oo r1.2⟩), (w0_1, some ⟨93, 2, encL rBox_o r2.2⟩), (w0_2, some ⟨3, 1, encL rI p0.Out⟩)] M2) (fun K hK => ?_) ?_
 ·skip
  have e0 := nQ w0_0 w0_1
  have e1 := nQ w0_0 w0_2
  have e2 := nQ w0_1 w0_2
  simp -dsimp -implicitDefEqProofs [e0, e1, e2]
  refine (c39 (H := hr2) (by simp [e0, e1, e2])).mono ?_; rintro _ _ ⟨M2, fM2_0, fM2_1, rfl, rfl⟩; simp only [hp_next] at fM2_0
  try simp -dsimp -implicitDefEqProofs [e0, e1, e2, hp_over_some, hp_over_none]
  exact hK _ _ ⟨M2, (by omega), fM2_1, rfl, rfl⟩
 rintro a σ ⟨M2, fM2_0, fM2_1, rfl, rfl⟩
 try rw [← fM2_1]
 obtain ⟨r3, hr3, H⟩ := bindE H
 refine AWP_sr tok [] [1] (fun a σ => ∃ M3 : Nat, M2 + 5 ≤ M3 ∧ r3.2.length = p0.Out.length ∧ a = [(1, .int .i64 r3.1)] ∧ σ = hp E0 [(w0_0, some ⟨63, 3, encL rMachine_oo r1.2⟩), (w0_1, some ⟨93, 2, encL rBox_o r2.2⟩), (w0_2, some ⟨3, 1, encL rI r3.2⟩)] M3) (fun K hK => ?_) ?_
 ·skip
  have e0 := nQ w0_0 w0_1
  have e1 := nQ w0_0 w0_2
  have e2 := nQ w0_1 w0_2
  simp -dsimp -implicitDefEqProofs [e0, e1, e2]
  refine (c40 (H := hr3) (by simp [e0, e1, e2])).mono ?_; rintro _ _ ⟨M3, fM3_0, fM3_1, rfl, rfl⟩; simp only [hp_next] at fM3_0
  try simp -dsimp -implicitDefEqProofs [e0, e1, e2, hp_over_some, hp_over_none]
  exact hK _ _ ⟨M3, (by omega), fM3_1, rfl, rfl⟩
 rintro a σ ⟨M3, fM3_0, fM3_1, rfl, rfl⟩
 try rw [← fM3_1]
 refine Sx tok [] [4] (by
  intro K k
  have e0 := nQ w0_0 w0_1
  have e1 := nQ w0_0 w0_2
  have e2 := nQ w0_1 w0_2
  simp -dsimp -implicitDefEqProofs [e0, e1, e2]
  exact k) ?_
 obtain rfl := oi H
 refine Kp [4] ?_
 have z0 := nQ w0_0 w0_1
 have z1 := nQ w0_0 w0_2
 have z2 := nQ w0_1 w0_2
 refine AWP_ret ?_
 refine ⟨[.int .i64 r3.1], by simp [z0, z1, z2], M3 + 2, by omega, by first | rfl | exact (fM1_1) | omega, by first | rfl | exact (fM2_1) | omega, by first | rfl | exact (fM3_1) | omega, ?_, ?_⟩
 ·simp [encL_nil]
 ·first | rfl | simp [List.set_set]
theorem c8_o6 {p0 : gSquad} {p1 : Int} {r : gSquad × Bool} (H : i_SquadRun_o6 p0 p1 = some r) {σ : AHeap} : ACalls Tryz.prog G 8 [.agg [.fsl (encL rMachine p0.Harts), .fsl (encL rBox p0.Boxes), .int .i64 p0.Turn, .int .i64 p0.Idle, .fsl (encL rI p0.Out)], .int .i64 p1] σ (fun v σ' => ∃ M n0 n1 n2 : Nat, σ.next ≤ M ∧ σ.next ≤ n0 ∧ n0 < M ∧ σ.next ≤ n1 ∧ n1 < M ∧ σ.next ≤ n2 ∧ n2 < M ∧ ¬ n0 = n1 ∧ ¬ n0 = n2 ∧ ¬ n1 = n2 ∧ v = .tup [.agg [.sl n0 0 r.1.Harts.length, .sl n1 0 r.1.Boxes.length, .int .i64 r.1.Turn, .int .i64 r.1.Idle, .sl n2 0 r.1.Out.length], .bool r.2] ∧ σ' = hp σ.objs [(n0, some ⟨63, 3, encL rMachine_oo r.1.Harts⟩), (n1, some ⟨93, 2, encL rBox_o r.1.Boxes⟩), (n2, some ⟨3, 1, encL rI r.1.Out⟩)] M) := by
 refine ACalls_fr (L := []) (Q1 := fun v σ' => ∃ M n0 n1 n2 : Nat, σ.next ≤ M ∧ σ.next ≤ n0 ∧ n0 < M ∧ σ.next ≤ n1 ∧ n1 < M ∧ σ.next ≤ n2 ∧ n2 < M ∧ ¬ n0 = n1 ∧ ¬ n0 = n2 ∧ ¬ n1 = n2 ∧ v = .tup [.agg [.sl n0 0 r.1.Harts.length, .sl n1 0 r.1.Boxes.length, .int .i64 r.1.Turn, .int .i64 r.1.Idle, .sl n2 0 r.1.Out.length], .bool r.2] ∧ σ' = hp E0 [(n0, some ⟨63, 3, encL rMachine_oo r.1.Harts⟩), (n1, some ⟨93, 2, encL rBox_o r.1.Boxes⟩), (n2, some ⟨3, 1, encL rI r.1.Out⟩)] M) (by simp []) (fun hlt => ?_) ?_ ⟨_, Tryz.func8, rfl, rfl⟩
 rotate_left
 ·rintro v σ1 ⟨M, n0, n1, n2, h0, h1, h2, h3, h4, h5, h6, h7, h8, h9, rfl, rfl⟩
  exact ⟨_, M, rfl, by simp, by simp; try omega, M, n0, n1, n2, h0, h1, h2, h3, h4, h5, h6, h7, h8, h9, rfl, rfl⟩
 generalize σ.next = N0 at hlt ⊢
 refine ACalls_thaw 4 ?_
 refine fnK tok Tryz.func8 Tryz.ntmps8 Tryz.results8 ?_
 simp only [argsA, Nat.reduceAdd, hp_next]
 unfold i_SquadRun_o6 at H
 refine S0 tok [0] [1, 2, 4] ?_
 refine AWP_sq [1, 2, 4] fun K1 hK1 => ?_
 refine gP0 AWP_ref (N0 + 1) 0 0 63 3 (encL rMachine_oo ([] : List gMachine)) ?_
 refine gP0 AWP_ref (N0 + 1) 0 1 93 2 (encL rBox_o ([] : List gBox)) ?_
 refine gP0 AWP_ref (N0 + 1) 0 4 3 1 (encL rI ([] : List Int)) ?_
 obtain ⟨r1, hr1, H⟩ := bindE H
 obtain ⟨g2, hg2, H⟩ := bindE H
 obtain ⟨g3, hg3, H⟩ := bindE H
 refine Sx tok [] [1, 2, 4, 22] (X := [(1, .int .i64 p1), (2, .fptr [.fsl (encL rMachine p0.Harts), .fsl (encL rBox p0.Boxes), .int .i64 p0.Turn, .int .i64 p0.Idle, .fsl (encL rI p0.Out)] 0), (4, .ptr (N0 + 1) 0 0), (22, .bool g3)]) (Y := hp E0 [(N0 + 1, some ⟨31, 5, [[.osl 63 3 (encL rMachine_oo ([] : List gMachine)), .osl 93 2 (encL rBox_o ([] : List gBox)), .int .i64 0, .int .i64 0, .osl 3 1 (encL rI ([] : List Int))]]⟩)] (N0 + 14)) (by
  intro K k
  simp -dsimp -implicitDefEqProofs
  refine (c27 hr1).app ?_; try simp -dsimp -implicitDefEqProofs
  cases hbg2 : bnot r1
  ·replace hg2 := ifF hbg2 hg2
   replace hg2 := Option.some.inj hg2; subst hg2
   try simp -dsimp -implicitDefEqProofs [hbg2]
   cases hbg3 : (ilt p1 0)
   ·replace hg3 := ifF hbg3 hg3
    replace hg3 := Option.some.inj hg3; subst hg3
    try simp -dsimp -implicitDefEqProofs [hbg2, hbg3]
    exact k
   ·replace hg3 := ifT hbg3 hg3
    replace hg3 := Option.some.inj hg3; subst hg3
    try simp -dsimp -implicitDefEqProofs [hbg2, hbg3]
    exact k
  ·replace hg2 := ifT hbg2 hg2
   replace hg2 := Option.some.inj hg2; subst hg2
   try simp -dsimp -implicitDefEqProofs [hbg2]
   replace hg3 := ifT rfl hg3
   replace hg3 := Option.some.inj hg3; subst hg3
   try simp -dsimp -implicitDefEqProofs [hbg2]
   exact k) ?_
 refine Cd (fun C1 => ?_) fun C1 => ?_
 ·replace H := ifT C1 H
  refine S0 tok [0] [4, 5] ?_
  obtain rfl := oi H
  refine Kp [4, 5] ?_
  refine gP0 AWP_ref (N0 + 1) 0 0 63 3 (encL rMachine_oo ([] : List gMachine)) ?_
  refine gP0 AWP_ref (N0 + 1) 0 1 93 2 (encL rBox_o ([] : List gBox)) ?_
  refine gP0 AWP_ref (N0 + 1) 0 4 3 1 (encL rI ([] : List Int)) ?_
  refine gU AWP_ref (N0 + 1) 0 0 ?_
  refine gU AWP_ref (N0 + 1) 0 1 ?_
  refine gU AWP_ref (N0 + 1) 0 4 ?_
  refine AWP_ret ?_
  refine ⟨[.agg [.sl (N0 + 17) 0 ([] : List gMachine).length, .sl (N0 + 18) 0 ([] : List gBox).length, .int .i64 0, .int .i64 0, .sl (N0 + 19) 0 ([] : List Int).length], .bool false], by simp, (fun o => [N0 + 1].contains o), N0 + 20, N0 + 17, N0 + 18, N0 + 19, by omega, by omega, by omega, by omega, by omega, by omega, by omega, by omega, by omega, by omega, ?_, ?_⟩
  ·simp [encL_nil]
  ·rw [cutD (L' := [(N0 + 17, some ⟨63, 3, encL rMachine_oo ([] : List gMachine)⟩), (N0 + 18, some ⟨93, 2, encL rBox_o ([] : List gBox)⟩), (N0 + 19, some ⟨3, 1, encL rI ([] : List Int)⟩)]) (by simp)]
   first | done | rfl | simp [List.set_set]
 ·replace H := ifF C1 H
  refine AWP_skip (Jn hK1 ?_)
  obtain ⟨r4, hr4, H⟩ := bindE H
  obtain ⟨r5, hr5, H⟩ := bindE H
  refine AWP_syC tok tokM [6] [2, 5, 7, 8] [0, 1, 3, 4, 2, 5, 6, 7, 8] [] [1, 2, 4, 6] (fun a σ => ∃ M1 o1 : Nat, ∃ M2 o2 : Nat, N0 + 23 ≤ M1 ∧ N0 + 23 ≤ o1 ∧ o1 < M1 ∧ M1 ≤ M2 ∧ M1 ≤ o2 ∧ o2 < M2 ∧ a = [(1, .int .i64 p1), (2, .fptr [.fsl (encL rMachine p0.Harts), .fsl (encL rBox p0.Boxes), .int .i64 p0.Turn, .int .i64 p0.Idle, .fsl (encL rI p0.Out)] 0), (4, .ptr (N0 + 1) 0 0), (6, .ptr (N0 + 21) 0 0)] ∧ σ = hp E0 [(N0 + 1, some ⟨31, 5, [[.osl 63 3 (encL rMachine_oo ([] : List gMachine)), .osl 93 2 (encL rBox_o ([] : List gBox)), .int .i64 0, .int .i64 0, .osl 3 1 (encL rI ([] : List Int))]]⟩), (o1, some ⟨93, 2, encL rBox_o r4⟩), (o2, some ⟨3, 1, encL rI r5⟩), (N0 + 21, some ⟨31, 5, [[.nilsl, .sl o1 0 r4.length, .int .i64 0, .int .i64 0, .sl o2 0 r5.length]]⟩)] M2) (by decide) (by kernel_rfl) (fun K hK => ?_) ?_
  ·simp only [pickL, nthO_succ, nthO_zero]
   simp -dsimp -implicitDefEqProofs
   refine (c28_o2 (H := hr4) ).mono ?_; rintro _ _ ⟨M1, o1, fM1_0, fM1_1, fM1_2, rfl, rfl⟩; simp only [hp_next] at fM1_0 fM1_1 fM1_2
   have eM1_0 := nQ o1 (N0 + 1)
   have eM1_1 := nQ o1 (N0 + 21)
   try simp -dsimp -implicitDefEqProofs [eM1_0, eM1_1, hp_over_some, hp_over_none]
   refine (c29_o (H := hr5) ).mono ?_; rintro _ _ ⟨M2, o2, fM2_0, fM2_1, fM2_2, rfl, rfl⟩; simp only [hp_next] at fM2_0 fM2_1 fM2_2
   have eM2_0 := nQ o2 (N0 + 1)
   have eM2_1 := nQ o2 (N0 + 21)
   have eM2_2 := nQ o2 o1
   try simp -dsimp -implicitDefEqProofs [eM1_0, eM1_1, hp_over_some, hp_over_none, eM2_0, eM2_1, eM2_2, hp_over_some, hp_over_none]
   exact hK _ _ ⟨M1, o1, M2, o2, (by omega), (by omega), (by omega), (by omega), (by omega), (by omega), rfl, rfl⟩
  rintro a σ ⟨M1, o1, M2, o2, fM1_0, fM1_1, fM1_2, fM2_0, fM2_1, fM2_2, rfl, rfl⟩
  refine AWP_sq [1, 2, 4, 6] fun K2 hK2 => ?_
  refine Sx tok [] [1, 2, 4, 6, 32, 33, 34] (by
   intro K k
   have e0 := nQ (N0 + 1) o1
   have e1 := nQ (N0 + 1) o2
   have e2 := nQ o1 o2
   have e3 := nQ o1 (N0 + 21)
   have e4 := nQ o2 (N0 + 21)
   simp -dsimp -implicitDefEqProofs [e0, e1, e2, e3, e4]
   exact k) ?_
  refine AWP_block (AWP_thenB ?_)
  obtain ⟨e1, hse1, H⟩ := bindE H
  refine AWP_lp [1, 2, 4, 6, 32, 33, 34] (fun s a σ => ∃ M3 o3 o4 : Nat, N0 ≤ M3 ∧ N0 ≤ o3 ∧ o3 < M3 ∧ N0 ≤ o4 ∧ o4 < M3 ∧ ¬ o3 = o4 ∧ a = [(1, .int .i64 p1), (2, .fptr [.fsl (encL rMachine p0.Harts), .fsl (encL rBox p0.Boxes), .int .i64 p0.Turn, .int .i64 p0.Idle, .fsl (encL rI p0.Out)] 0), (4, .ptr o3 0 0), (6, .ptr o4 0 0), (32, .fsl (encL rMachine p0.Harts)), (33, .int .i64 (ilen p0.Harts)), (34, .int .i64 s.1)] ∧ σ = hp E0 [(o3, some ⟨31, 5, [[.osl 63 3 (encL rMachine_oo s.2.1.Harts), .osl 93 2 (encL rBox_o s.2.1.Boxes), .int .i64 s.2.1.Turn, .int .i64 s.2.1.Idle, .osl 3 1 (encL rI s.2.1.Out)]]⟩), (o4, some ⟨31, 5, [[.osl 63 3 (encL rMachine_oo s.2.2.Harts), .osl 93 2 (encL rBox_o s.2.2.Boxes), .int .i64 s.2.2.Turn, .int .i64 s.2.2.Idle, .osl 3 1 (encL rI s.2.2.Out)]]⟩)] M3) (fun s x a σ => x = .exit 0 ∧ Rc G 68 N0 (fun a σ => ∃ M4 o5 o6 : Nat, N0 ≤ M4 ∧ N0 ≤ o5 ∧ o5 < M4 ∧ N0 ≤ o6 ∧ o6 < M4 ∧ ¬ o5 = o6 ∧ a = [(1, .int .i64 p1), (2, .fptr [.fsl (encL rMachine p0.Harts), .fsl (encL rBox p0.Boxes), .int .i64 p0.Turn, .int .i64 p0.Idle, .fsl (encL rI p0.Out)] 0), (4, .ptr o5 0 0), (6, .ptr o6 0 0)] ∧ σ = hp E0 [(o5, some ⟨31, 5, [[.osl 63 3 (encL rMachine_oo s.1.Harts), .osl 93 2 (encL rBox_o s.1.Boxes), .int .i64 s.1.Turn, .int .i64 s.1.Idle, .osl 3 1 (encL rI s.1.Out)]]⟩), (o6, some ⟨31, 5, [[.osl 63 3 (encL rMachine_oo s.2.Harts), .osl 93 2 (encL rBox_o s.2.Boxes), .int .i64 s.2.Turn, .int .i64 s.2.Idle, .osl 3 1 (encL rI s.2.Out)]]⟩)] M4) (AAct.keep a [1, 2, 4, 6]) σ) hse1 ?_ ?_ ?_
  ·refine Rc.kp [1, 2, 4, 6, 32, 33, 34] [(1, .int .i64 p1), (2, .fptr [.fsl (encL rMachine p0.Harts), .fsl (encL rBox p0.Boxes), .int .i64 p0.Turn, .int .i64 p0.Idle, .fsl (encL rI p0.Out)] 0), (4, .ptr (N0 + 1) 0 0), (6, .ptr (N0 + 21) 0 0), (32, .fsl (encL rMachine p0.Harts)), (33, .int .i64 (ilen p0.Harts)), (34, .int .i64 0)] rfl ?_
   refine gP0 Rc_ref (N0 + 21) 0 0 63 3 (encL rMachine_oo ([] : List gMachine)) ?_
   refine gP Rc_ref (N0 + 21) 0 1 ?_
   refine gP Rc_ref (N0 + 21) 0 4 ?_
   exact Rf ⟨M2 + 4, (N0 + 1), (N0 + 21), (by omega), (by omega), (by omega), (by omega), (by omega), (by omega), rfl, rfl⟩
  ·clear H hse1
   rintro ⟨s6, s7, s8⟩ fl a σ H ⟨M3, o3, o4, fM3_0, fM3_1, fM3_2, fM3_3, fM3_4, fM3_5, rfl, rfl⟩ K3 O3 hK3 hO3
   unfold i_SquadRun_o6_L1 at H; dsimp only at H
   refine Sx tok [] [1, 2, 4, 6, 32, 33, 34, 35] (by
    intro K k
    have e0 := nQ o3 o4
    simp -dsimp -implicitDefEqProofs [e0]
    exact k) ?_
   refine AWP_sq [1, 2, 4, 6, 32, 33, 34] fun K4 hK4 => ?_
   refine Cd (fun C2 => ?_) fun C2 => ?_
   ·replace H := ifT C2 H
    refine AWP_skip (Jn hK4 ?_)
    refine AWP_sq [1, 2, 4, 6, 32, 33, 34] fun K5 hK5 => ?_
    refine AWP_block (AWP_thenB ?_)
    obtain ⟨v11, hv11, H⟩ := bindE H
    refine Sx tok [] [1, 2, 4, 6, 8, 32, 33, 34] (by
     intro K k
     have e0 := nQ o3 o4
     have e1 := nQ o3 (M3 + 3)
     have e2 := nQ o4 (M3 + 3)
     simp -dsimp -implicitDefEqProofs [e0, e1, e2, ix28 hv11]
     exact k) ?_
    refine gU AWP_ref o4 0 0 ?_
    obtain ⟨r12, hr12, H⟩ := bindE H
    obtain ⟨l13, hl13, H⟩ := bindE H
    have q0 : ∀ (a0 : Nat) (a1 : Nat) (a2 : Int) (a3 : Nat) (a4 : Nat) σ i, buildSliceA T 28 true i 1 [(0, .agg [.sl a0 0 a1, .int .i64 a2, .sl a3 0 a4])] σ = some (.fsl [[.sl a0 0 a1, .int .i64 a2, .sl a3 0 a4]], σ) := fun _ _ _ _ _ _ _ => rfl
    refine AWP_ry tok tokM [4] [1, 2, 3, 4, 5, 7] [0, 1, 2, 3, 4, 5, 6, 7] [(3, [1]), (4, [1])] [1, 2, 4, 6, 32, 33, 34] (fun a σ => ∃ M5 o7 o8 : Nat, M3 + 14 ≤ M5 ∧ M3 + 14 ≤ o7 ∧ o7 < M5 ∧ M3 + 14 ≤ o8 ∧ o8 < M5 ∧ ¬ o7 = o8 ∧ a = [(1, .int .i64 p1), (2, .fptr [.fsl (encL rMachine p0.Harts), .fsl (encL rBox p0.Boxes), .int .i64 p0.Turn, .int .i64 p0.Idle, .fsl (encL rI p0.Out)] 0), (4, .ptr o3 0 0), (6, .ptr o4 0 0), (32, .fsl (encL rMachine p0.Harts)), (33, .int .i64 (ilen p0.Harts)), (34, .int .i64 s6)] ∧ σ = hp E0 [(o3, some ⟨31, 5, [[.osl 63 3 (encL rMachine_oo s7.Harts), .osl 93 2 (encL rBox_o s7.Boxes), .int .i64 s7.Turn, .int .i64 s7.Idle, .osl 3 1 (encL rI s7.Out)]]⟩), (o4, some ⟨31, 5, [[.sl (M3 + 11) 0 l13.length, .osl 93 2 (encL rBox_o s8.Boxes), .int .i64 s8.Turn, .int .i64 s8.Idle, .osl 3 1 (encL rI s8.Out)]]⟩), (M3 + 3, some ⟨63, 3, [[.fsl (encL rI v11.Regs), .int .i64 v11.Pc, .fsl (encL rI v11.Mem)]]⟩), (o7, some ⟨3, 1, encL rI r12.Regs⟩), (o8, some ⟨3, 1, encL rI r12.Mem⟩), (M3 + 11, some ⟨63, 3, encL rMachine_oo s8.Harts ++ [[.sl o7 0 r12.Regs.length, .int .i64 r12.Pc, .sl o8 0 r12.Mem.length]]⟩)] M5) (by decide) (fun K hK => ?_) ?_
    ·simp only [pickL, nthO_succ, nthO_zero]
     have e0 := nQ o3 o4
     have e1 := nQ o3 (M3 + 3)
     have e2 := nQ o3 (M3 + 5)
     have e3 := nQ o3 (M3 + 11)
     have e4 := nQ o4 (M3 + 3)
     have e5 := nQ o4 (M3 + 5)
     have e6 := nQ o4 (M3 + 11)
     simp -dsimp -implicitDefEqProofs [e0, e1, e2, e3, e4, e5, e6, q0, apr28 rMachine_oo hl13]
     refine (c30_o2 (H := hr12) ).mono ?_; rintro _ _ ⟨M5, o7, o8, fM5_0, fM5_1, fM5_2, fM5_3, fM5_4, fM5_5, rfl, rfl⟩; simp only [hp_next] at fM5_0 fM5_1 fM5_2 fM5_3 fM5_4 fM5_5
     have eM5_0 := nQ o7 o3
     have eM5_1 := nQ o7 o4
     have eM5_2 := nQ o7 (M3 + 3)
     have eM5_3 := nQ o7 (M3 + 5)
     have eM5_4 := nQ o7 (M3 + 11)
     have eM5_5 := nQ o7 o8
     have eM5_6 := nQ o8 o3
     have eM5_7 := nQ o8 o4
     have eM5_8 := nQ o8 (M3 + 3)
     have eM5_9 := nQ o8 (M3 + 5)
     have eM5_10 := nQ o8 (M3 + 11)
     try simp -dsimp -implicitDefEqProofs [e0, e1, e2, e3, e4, e5, e6, q0, apr28 rMachine_oo hl13, eM5_0, eM5_1, eM5_2, eM5_3, eM5_4, eM5_5, eM5_6, eM5_7, eM5_8, eM5_9, eM5_10, hp_over_some, hp_over_none]
     exact hK _ _ ⟨M5, o7, o8, (by omega), (by omega), (by omega), (by omega), (by omega), (by omega), rfl, rfl⟩
    rintro a σ ⟨M5, o7, o8, fM5_0, fM5_1, fM5_2, fM5_3, fM5_4, fM5_5, ha, rfl⟩
    refine hK5 _ _ ?_; rw [ha]
    refine Rc.mk ?_
    refine gP AWP_ref (M3 + 11) s8.Harts.length 0 ?_ (hr := by exact app_get _ _ _)
    refine gP AWP_ref (M3 + 11) s8.Harts.length 2 ?_ (hr := by exact app_get _ _ _)
    rw [show hp E0 [(o3, some ⟨31, 5, [[.osl 63 3 (encL rMachine_oo s7.Harts), .osl 93 2 (encL rBox_o s7.Boxes), .int .i64 s7.Turn, .int .i64 s7.Idle, .osl 3 1 (encL rI s7.Out)]]⟩), (o4, some ⟨31, 5, [[.sl (M3 + 11) 0 l13.length, .osl 93 2 (encL rBox_o s8.Boxes), .int .i64 s8.Turn, .int .i64 s8.Idle, .osl 3 1 (encL rI s8.Out)]]⟩), (M3 + 3, some ⟨63, 3, [[.fsl (encL rI v11.Regs), .int .i64 v11.Pc, .fsl (encL rI v11.Mem)]]⟩), (M3 + 11, some ⟨63, 3, encL rMachine_oo s8.Harts ++ [[.osl 3 1 (encL rI r12.Regs), .int .i64 r12.Pc, .osl 3 1 (encL rI r12.Mem)]]⟩)] M5 = hp E0 [(o3, some ⟨31, 5, [[.osl 63 3 (encL rMachine_oo s7.Harts), .osl 93 2 (encL rBox_o s7.Boxes), .int .i64 s7.Turn, .int .i64 s7.Idle, .osl 3 1 (encL rI s7.Out)]]⟩), (o4, some ⟨31, 5, [[.sl (M3 + 11) 0 l13.length, .osl 93 2 (encL rBox_o s8.Boxes), .int .i64 s8.Turn, .int .i64 s8.Idle, .osl 3 1 (encL rI s8.Out)]]⟩), (M3 + 3, some ⟨63, 3, [[.fsl (encL rI v11.Regs), .int .i64 v11.Pc, .fsl (encL rI v11.Mem)]]⟩), (M3 + 11, some ⟨63, 3, encL rMachine_oo l13⟩)] M5 from by rw [← app_enc (f := rMachine_oo) (c := [.osl 3 1 (encL rI r12.Regs), .int .i64 r12.Pc, .osl 3 1 (encL rI r12.Mem)]) hl13 rfl]]
    refine Rt tok [] [1, 2, 4, 6, 32, 33, 34] (by
     intro K k
     have e0 := nQ o3 o4
     have e1 := nQ o3 (M3 + 3)
     have e2 := nQ o3 (M3 + 11)
     have e3 := nQ o4 (M3 + 3)
     have e4 := nQ o4 (M3 + 11)
     simp -dsimp -implicitDefEqProofs [e0, e1, e2, e3, e4]
     exact k) fun a ha => ?_
    obtain rfl := oi H
    refine hK3 _ _ _ rfl ?_; rw [ha]
    refine gP Rc_ref o4 0 0 ?_
    exact Rc.fin (hp_skip (hp_skip (AHeap.Sub.trans (AHeap.Sub.refl _) (hp_drop rfl (by simp; try omega))))) ⟨M5 + 2, o3, o4, (by omega), (by omega), (by omega), (by omega), (by omega), (by omega), rfl, rfl⟩
   ·obtain rfl := oi (ifF C2 H)
    refine AWP_exit (hO3 _ _ _ _ rfl ⟨rfl, ?_⟩)
    refine Rc.rw (l := [1, 2, 4, 6]) (X := [(1, .int .i64 p1), (2, .fptr [.fsl (encL rMachine p0.Harts), .fsl (encL rBox p0.Boxes), .int .i64 p0.Turn, .int .i64 p0.Idle, .fsl (encL rI p0.Out)] 0), (4, .ptr o3 0 0), (6, .ptr o4 0 0)]) rfl ?_
    exact Rf ⟨M3 + 1, o3, o4, (by omega), (by omega), (by omega), (by omega), (by omega), (by omega), rfl, rfl⟩
  ·intro x a σ hx
   obtain ⟨y9, y10⟩ := e1
   obtain ⟨rfl, b, τ, hr, M4, o5, o6, fM4_0, fM4_1, fM4_2, fM4_3, fM4_4, fM4_5, rfl, rfl⟩ := hx
   dsimp only at H
   show K2 _ _
   refine hK2 _ _ (Rc_ref hr ?_)
   refine Rc.mk ?_
   refine gU AWP_ref o6 0 0 ?_
   obtain ⟨r14, hr14, H⟩ := bindE H
   refine AWP_sr tok [] [4, 6, 9, 10, 11] (fun a σ => ∃ M6 : Nat, M4 + 18 ≤ M6 ∧ a = [(4, .ptr o5 0 0), (6, .ptr o6 0 0), (9, .int .i64 r14.1), (10, .int .i64 r14.2.1), (11, .bool r14.2.2.1)] ∧ σ = hp E0 [(o5, some ⟨31, 5, [[.osl 63 3 (encL rMachine_oo y9.Harts), .osl 93 2 (encL rBox_o y9.Boxes), .int .i64 y9.Turn, .int .i64 y9.Idle, .osl 3 1 (encL rI y9.Out)]]⟩), (o6, some ⟨31, 5, [[.osl 63 3 (encL rMachine_oo r14.2.2.2.Harts), .osl 93 2 (encL rBox_o r14.2.2.2.Boxes), .int .i64 r14.2.2.2.Turn, .int .i64 r14.2.2.2.Idle, .osl 3 1 (encL rI r14.2.2.2.Out)]]⟩)] M6) (fun K hK => ?_) ?_
   ·skip
    have e0 := nQ o5 o6
    have e1 := nQ o5 M4
    have e2 := nQ o6 M4
    simp -dsimp -implicitDefEqProofs [e0, e1, e2]
    refine (c31_i_SquadRun_1_c4_0_0 (w4_0c0 := M4) (W4_0 := [[.sl M4 0 y10.Harts.length, .osl 93 2 (encL rBox_o y10.Boxes), .int .i64 y10.Turn, .int .i64 y10.Idle, .osl 3 1 (encL rI y10.Out)]]) (r4_0_ := 0) (H := hr14) (by simp [e0, e1, e2]) (by simp [e0, e1, e2]) (by simp [e0, e1, e2]) (by simp [e0, e1, e2])).mono ?_; rintro _ _ ⟨M6, fM6_0, rfl, rfl⟩; simp only [hp_next] at fM6_0
    try simp -dsimp -implicitDefEqProofs [e0, e1, e2, hp_over_some, hp_over_none]
    exact hK _ _ ⟨M6, (by omega), rfl, rfl⟩
   rintro a σ ⟨M6, fM6_0, rfl, rfl⟩
   refine AWP_sq [4, 6, 9, 10] fun K6 hK6 => ?_
   refine Sx tok [] [4, 6, 9, 10, 61] (by
    intro K k
    have e0 := nQ o5 o6
    simp -dsimp -implicitDefEqProofs [e0]
    exact k) ?_
   refine Cd (fun C3 => ?_) fun C3 => ?_
   ·replace H := ifT C3 H
    refine Sx tok [0] [4, 5] (by
     intro K k
     have e0 := nQ o5 o6
     simp -dsimp -implicitDefEqProofs [e0]
     exact k) ?_
    obtain rfl := oi H
    refine Kp [4, 5] ?_
    refine gP0 AWP_ref o5 0 0 63 3 (encL rMachine_oo ([] : List gMachine)) ?_
    refine gP0 AWP_ref o5 0 1 93 2 (encL rBox_o ([] : List gBox)) ?_
    refine gP0 AWP_ref o5 0 4 3 1 (encL rI ([] : List Int)) ?_
    refine gU AWP_ref o5 0 0 ?_
    refine gU AWP_ref o5 0 1 ?_
    refine gU AWP_ref o5 0 4 ?_
    have z0 := nQ o5 o6
    have z1 := nQ o5 (M6 + 5)
    have z2 := nQ o5 (M6 + 6)
    have z3 := nQ o5 (M6 + 7)
    have z4 := nQ o6 (M6 + 5)
    have z5 := nQ o6 (M6 + 6)
    have z6 := nQ o6 (M6 + 7)
    refine gDrop AWP_ref [(o5, some ⟨31, 5, [[.sl (M6 + 5) 0 ([] : List gMachine).length, .sl (M6 + 6) 0 ([] : List gBox).length, .int .i64 0, .int .i64 0, .sl (M6 + 7) 0 ([] : List Int).length]]⟩), (M6 + 5, some ⟨63, 3, encL rMachine_oo ([] : List gMachine)⟩), (M6 + 6, some ⟨93, 2, encL rBox_o ([] : List gBox)⟩), (M6 + 7, some ⟨3, 1, encL rI ([] : List Int)⟩)] (hp_skip (AHeap.Sub.trans (hp_skip (hp_skip (hp_skip (AHeap.Sub.refl _)))) (hp_drop rfl (by simp; try omega)))) ?_
    refine AWP_ret ?_
    refine ⟨[.agg [.sl (M6 + 5) 0 ([] : List gMachine).length, .sl (M6 + 6) 0 ([] : List gBox).length, .int .i64 0, .int .i64 0, .sl (M6 + 7) 0 ([] : List Int).length], .bool false], by simp [z0, z1, z2, z3, z4, z5, z6], (fun o => [o5].contains o), M6 + 8, M6 + 5, M6 + 6, M6 + 7, by omega, by omega, by omega, by omega, by omega, by omega, by omega, by omega, by omega, by omega, ?_, ?_⟩
    ·simp [encL_nil, z0, z1, z2, z3, z4, z5, z6]
    ·rw [cutD (L' := [(M6 + 5, some ⟨63, 3, encL rMachine_oo ([] : List gMachine)⟩), (M6 + 6, some ⟨93, 2, encL rBox_o ([] : List gBox)⟩), (M6 + 7, some ⟨3, 1, encL rI ([] : List Int)⟩)]) (by simp [z0, z1, z2, z3, z4, z5, z6])]
     first | done | rfl | simp [List.set_set]
   ·replace H := ifF C3 H
    refine AWP_skip (Jn hK6 ?_)
    refine Sx tok [] [4, 6] (by
     intro K k
     have e0 := nQ o5 o6
     simp -dsimp -implicitDefEqProofs [e0]
     exact k) ?_
    refine gU AWP_ref o6 0 0 ?_
    refine gU AWP_ref o6 0 1 ?_
    refine gU AWP_ref o6 0 4 ?_
    refine Sx tok [] [4, 5] (by
     intro K k
     have e0 := nQ o5 o6
     have e1 := nQ o5 (M6 + 8)
     have e2 := nQ o5 (M6 + 9)
     have e3 := nQ o5 (M6 + 10)
     have e4 := nQ o6 (M6 + 8)
     have e5 := nQ o6 (M6 + 9)
     have e6 := nQ o6 (M6 + 10)
     simp -dsimp -implicitDefEqProofs [e0, e1, e2, e3, e4, e5, e6]
     exact k) ?_
    obtain rfl := oi H
    refine Kp [4, 5] ?_
    refine gDrop AWP_ref [(o5, some ⟨31, 5, [[.sl (M6 + 8) 0 r14.2.2.2.Harts.length, .sl (M6 + 9) 0 r14.2.2.2.Boxes.length, .int .i64 r14.1, .int .i64 r14.2.1, .sl (M6 + 10) 0 r14.2.2.2.Out.length]]⟩), (M6 + 8, some ⟨63, 3, encL rMachine_oo r14.2.2.2.Harts⟩), (M6 + 9, some ⟨93, 2, encL rBox_o r14.2.2.2.Boxes⟩), (M6 + 10, some ⟨3, 1, encL rI r14.2.2.2.Out⟩)] (hp_skip (AHeap.Sub.trans (hp_skip (hp_skip (hp_skip (AHeap.Sub.refl _)))) (hp_drop rfl (by simp; try omega)))) ?_
    refine gP AWP_ref o5 0 0 ?_
    refine gP AWP_ref o5 0 1 ?_
    refine gP AWP_ref o5 0 4 ?_
    refine gU AWP_ref o5 0 0 ?_
    refine gU AWP_ref o5 0 1 ?_
    refine gU AWP_ref o5 0 4 ?_
    have z7 := nQ o5 (M6 + 14)
    have z8 := nQ o5 (M6 + 15)
    have z9 := nQ o5 (M6 + 16)
    refine AWP_ret ?_
    refine ⟨[.agg [.sl (M6 + 14) 0 r14.2.2.2.Harts.length, .sl (M6 + 15) 0 r14.2.2.2.Boxes.length, .int .i64 r14.1, .int .i64 r14.2.1, .sl (M6 + 16) 0 r14.2.2.2.Out.length], .bool true], by simp [z7, z8, z9], (fun o => [o5].contains o), M6 + 17, M6 + 14, M6 + 15, M6 + 16, by omega, by omega, by omega, by omega, by omega, by omega, by omega, by omega, by omega, by omega, ?_, ?_⟩
    ·simp [encL_nil, z7, z8, z9]
    ·rw [cutD (L' := [(M6 + 14, some ⟨63, 3, encL rMachine_oo r14.2.2.2.Harts⟩), (M6 + 15, some ⟨93, 2, encL rBox_o r14.2.2.2.Boxes⟩), (M6 + 16, some ⟨3, 1, encL rI r14.2.2.2.Out⟩)]) (by simp [z7, z8, z9])]
     first | done | rfl | simp [List.set_set]
theorem c8_o6_b {p0 : gSquad} {p1 : Int} {r : gSquad × Bool} (H : i_SquadRun_o6 p0 p1 = some r) {σ : AHeap} {args : List AV} (hy : args.map (thawA (fun _ => true) σ 8) = [.agg [.fsl (encL rMachine p0.Harts), .fsl (encL rBox p0.Boxes), .int .i64 p0.Turn, .int .i64 p0.Idle, .fsl (encL rI p0.Out)], .int .i64 p1]) : ACalls Tryz.prog G 8 args σ (fun v σ' => ∃ M n0 n1 n2 : Nat, σ.next ≤ M ∧ σ.next ≤ n0 ∧ n0 < M ∧ σ.next ≤ n1 ∧ n1 < M ∧ σ.next ≤ n2 ∧ n2 < M ∧ ¬ n0 = n1 ∧ ¬ n0 = n2 ∧ ¬ n1 = n2 ∧ v = .tup [.agg [.sl n0 0 r.1.Harts.length, .sl n1 0 r.1.Boxes.length, .int .i64 r.1.Turn, .int .i64 r.1.Idle, .sl n2 0 r.1.Out.length], .bool r.2] ∧ σ' = hp σ.objs [(n0, some ⟨63, 3, encL rMachine_oo r.1.Harts⟩), (n1, some ⟨93, 2, encL rBox_o r.1.Boxes⟩), (n2, some ⟨3, 1, encL rI r.1.Out⟩)] M) := by
 refine borrowQ 8 8 (c8_o6 (σ := ⟨E0, σ.next⟩) H) hy ?_
 rintro _ _ ⟨M, n0, n1, n2, h0, h1, h2, h3, h4, h5, h6, h7, h8, h9, rfl, rfl⟩
 refine ⟨_, M, rfl, by simp [AV.rnf, AV.simp1], fun p hp ob ho => ?_, by simp, M, n0, n1, n2, h0, h1, h2, h3, h4, h5, h6, h7, h8, h9, rfl, rfl⟩
 simp only [List.mem_cons, List.not_mem_nil, or_false] at hp
 rcases hp with rfl | rfl | rfl <;> (cases ho; first | exact encL_nf (fun x => nf_rMachine_oo 6 x) _ | exact encL_nf (fun x => nf_rBox_o 6 x) _ | exact encL_nf (fun x => nf_rI 7 x) _ | simp [AV.nf, AV.simp1])
theorem c26_o {p0 : (List Int)} {r : (List Int)} (H : l_toIntS_o p0 = some r) {σ : AHeap} : ACalls Tryz.prog G 26 [.fsl (encL rI p0)] σ (fun v σ' => ∃ M n0 : Nat, σ.next ≤ M ∧ σ.next ≤ n0 ∧ n0 < M ∧ v = .sl n0 0 r.length ∧ σ' = hp σ.objs [(n0, some ⟨3, 1, encL rI r⟩)] M) := by
 refine ACalls_fr (L := []) (Q1 := fun v σ' => ∃ M n0 : Nat, σ.next ≤ M ∧ σ.next ≤ n0 ∧ n0 < M ∧ v = .sl n0 0 r.length ∧ σ' = hp E0 [(n0, some ⟨3, 1, encL rI r⟩)] M) (by simp []) (fun hlt => ?_) ?_ ⟨_, Tryz.func26, rfl, rfl⟩
 rotate_left
 ·rintro v σ1 ⟨M, n0, h0, h1, h2, rfl, rfl⟩
  exact ⟨_, M, rfl, by simp, by simp; try omega, M, n0, h0, h1, h2, rfl, rfl⟩
 generalize σ.next = N0 at hlt ⊢
 refine fnK tok Tryz.func26 Tryz.ntmps26 Tryz.results26 ?_
 simp only [argsA, Nat.reduceAdd, hp_next]
 unfold l_toIntS_o at H
 refine S0 tok [] [0] ?_
 obtain ⟨l1, hl1, H⟩ := bindE H
 refine Sx tok [] [0, 3] (by intro K k; simp -dsimp -implicitDefEqProofs [mak24 hl1]; exact k) ?_
 refine AWP_sq [3] fun K1 hK1 => ?_
 refine S0 tok [] [0, 3, 4] ?_
 refine AWP_block (AWP_thenB ?_)
 obtain ⟨e1, hse1, H⟩ := bindE H
 refine AWP_lp [0, 3, 4] (fun s a σ => ∃ M1 o1 : Nat, N0 ≤ M1 ∧ N0 ≤ o1 ∧ o1 < M1 ∧ a = [(0, .fsl (encL rI p0)), (3, .sl o1 0 s.2.length), (4, .int .i64 s.1)] ∧ σ = hp E0 [(o1, some ⟨3, 1, encL rI s.2⟩)] M1) (fun s x a σ => x = .exit 0 ∧ Rc G 22 N0 (fun a σ => ∃ M2 o2 : Nat, N0 ≤ M2 ∧ N0 ≤ o2 ∧ o2 < M2 ∧ a = [(3, .sl o2 0 s.length)] ∧ σ = hp E0 [(o2, some ⟨3, 1, encL rI s⟩)] M2) (AAct.keep a [3]) σ) hse1 ?_ ?_ ?_
 ·refine Rc.kp [0, 3, 4] [(0, .fsl (encL rI p0)), (3, .sl (N0 + 3) 0 l1.length), (4, .int .i64 0)] rfl ?_
  exact Rf ⟨N0 + 6, (N0 + 3), (by omega), (by omega), (by omega), rfl, rfl⟩
 ·clear H hse1
  rintro ⟨s2, s3⟩ fl a σ H ⟨M1, o1, fM1_0, fM1_1, fM1_2, rfl, rfl⟩ K2 O2 hK2 hO2
  unfold l_toIntS_o_L1 at H; dsimp only at H
  refine AWP_sq [0, 3, 4] fun K3 hK3 => ?_
  refine S0 tok [] [0, 3, 4, 11] ?_
  refine Cd (fun C1 => ?_) fun C1 => ?_
  ·replace H := ifT C1 H
   refine AWP_skip (Jn hK3 ?_)
   refine AWP_sq [0, 3, 4] fun K4 hK4 => ?_
   refine AWP_block (AWP_thenB ?_)
   obtain ⟨v5, hv5, H⟩ := bindE H
   obtain ⟨v6, hv6, H⟩ := bindE H
   obtain ⟨l7, hl7, H⟩ := bindE H
   refine Rt tok [] [0, 3, 4] (by intro K k; simp -dsimp -implicitDefEqProofs [ix24 hv5, ixo24 hv6, (idx_lt3 hv6).2.2, (setx_iff.1 hl7).2.symm]; exact k) fun a ha => ?_
   (try rw [← setx_len hl7] at ha); (try rw [← setx_len hl7])
   refine hK4 _ _ ?_; rw [ha]
   refine Rc.mk ?_
   refine Rt0 tok [] [0, 3, 4] fun a ha => ?_
   obtain rfl := oi H
   refine hK2 _ _ _ rfl ?_; rw [ha]
   exact Rf ⟨M1 + 15, o1, (by omega), (by omega), (by omega), rfl, rfl⟩
  ·obtain rfl := oi (ifF C1 H)
   refine AWP_exit (hO2 _ _ _ _ rfl ⟨rfl, ?_⟩)
   refine Rc.rw (l := [3]) (X := [(3, .sl o1 0 s3.length)]) rfl ?_
   exact Rf ⟨M1 + 4, o1, (by omega), (by omega), (by omega), rfl, rfl⟩
 ·intro x a σ hx
  obtain ⟨y4, rfl⟩ : ∃ x, x = e1 := ⟨_, rfl⟩
  obtain ⟨rfl, b, τ, hr, M2, o2, fM2_0, fM2_1, fM2_2, rfl, rfl⟩ := hx
  dsimp only at H
  show K1 _ _
  refine hK1 _ _ (Rc_ref hr ?_)
  refine Rc.mk ?_
  refine S0 tok [] [2] ?_
  obtain rfl := oi H
  refine Kp [2] ?_
  refine AWP_ret ?_
  refine ⟨[.sl o2 0 y4.length], by simp, M2 + 2, o2, by omega, by omega, by omega, ?_, ?_⟩
  ·simp [encL_nil]
  ·first | rfl | simp [List.set_set]
theorem c61_o2 {p0 : gMachine} {r : gMachine} (H : l_toMachine_o2 p0 = some r) {σ : AHeap} : ACalls Tryz.prog G 61 [.agg [.fsl (encL rI p0.Regs), .int .i64 p0.Pc, .fsl (encL rI p0.Mem)]] σ (fun v σ' => ∃ M n0 n1 : Nat, σ.next ≤ M ∧ σ.next ≤ n0 ∧ n0 < M ∧ σ.next ≤ n1 ∧ n1 < M ∧ ¬ n0 = n1 ∧ v = .agg [.sl n0 0 r.Regs.length, .int .i64 r.Pc, .sl n1 0 r.Mem.length] ∧ σ' = hp σ.objs [(n0, some ⟨3, 1, encL rI r.Regs⟩), (n1, some ⟨3, 1, encL rI r.Mem⟩)] M) := by
 refine ACalls_fr (L := []) (Q1 := fun v σ' => ∃ M n0 n1 : Nat, σ.next ≤ M ∧ σ.next ≤ n0 ∧ n0 < M ∧ σ.next ≤ n1 ∧ n1 < M ∧ ¬ n0 = n1 ∧ v = .agg [.sl n0 0 r.Regs.length, .int .i64 r.Pc, .sl n1 0 r.Mem.length] ∧ σ' = hp E0 [(n0, some ⟨3, 1, encL rI r.Regs⟩), (n1, some ⟨3, 1, encL rI r.Mem⟩)] M) (by simp []) (fun hlt => ?_) ?_ ⟨_, Tryz.func61, rfl, rfl⟩
 rotate_left
 ·rintro v σ1 ⟨M, n0, n1, h0, h1, h2, h3, h4, h5, rfl, rfl⟩
  exact ⟨_, M, rfl, by simp, by simp; try omega, M, n0, n1, h0, h1, h2, h3, h4, h5, rfl, rfl⟩
 generalize σ.next = N0 at hlt ⊢
 refine ACalls_thaw 4 ?_
 refine fnK tok Tryz.func61 Tryz.ntmps61 Tryz.results61 ?_
 simp only [argsA, Nat.reduceAdd, hp_next]
 unfold l_toMachine_o2 at H
 refine S0 tok [0] [1, 2] ?_
 refine S0 tok [] [1, 2, 3] ?_
 refine gP0 AWP_ref (N0 + 1) 0 0 3 1 (encL rI ([] : List Int)) ?_
 refine gP0 AWP_ref (N0 + 1) 0 2 3 1 (encL rI ([] : List Int)) ?_
 refine gP0 AWP_ref (N0 + 2) 0 0 3 1 (encL rI ([] : List Int)) ?_
 refine gW AWP_ref (N0 + 2) 0 2 ?_
 obtain ⟨r1, hr1, H⟩ := bindE H
 refine AWP_sr tok [] [1, 2, 3] (fun a σ => ∃ M1 o1 : Nat, N0 + 8 ≤ M1 ∧ N0 + 8 ≤ o1 ∧ o1 < M1 ∧ a = [(1, .fptr [.fsl (encL rI p0.Regs), .int .i64 p0.Pc, .fsl (encL rI p0.Mem)] 0), (2, .ptr (N0 + 1) 0 0), (3, .ptr (N0 + 2) 0 0)] ∧ σ = hp E0 [(N0 + 1, some ⟨63, 3, [[.osl 3 1 (encL rI ([] : List Int)), .int .i64 0, .osl 3 1 (encL rI ([] : List Int))]]⟩), (N0 + 2, some ⟨63, 3, [[.sl o1 0 r1.length, .int .i64 0, .fsl []]]⟩), (o1, some ⟨3, 1, encL rI r1⟩)] M1) (fun K hK => ?_) ?_
 ·skip
  simp -dsimp -implicitDefEqProofs
  refine (c26_o (H := hr1) ).mono ?_; rintro _ _ ⟨M1, o1, fM1_0, fM1_1, fM1_2, rfl, rfl⟩; simp only [hp_next] at fM1_0 fM1_1 fM1_2
  have eM1_0 := nQ o1 (N0 + 1)
  have eM1_1 := nQ o1 (N0 + 2)
  try simp -dsimp -implicitDefEqProofs [eM1_0, eM1_1, hp_over_some, hp_over_none]
  exact hK _ _ ⟨M1, o1, (by omega), (by omega), (by omega), rfl, rfl⟩
 rintro a σ ⟨M1, o1, fM1_0, fM1_1, fM1_2, rfl, rfl⟩
 refine Sx tok [] [1, 2, 3] (by
  intro K k
  have e0 := nQ (N0 + 1) o1
  have e1 := nQ (N0 + 2) o1
  simp -dsimp -implicitDefEqProofs [e0, e1]
  exact k) ?_
 refine gP AWP_ref (N0 + 2) 0 0 ?_
 obtain ⟨r2, hr2, H⟩ := bindE H
 refine AWP_sr tok [] [2, 3] (fun a σ => ∃ M2 o2 : Nat, M1 + 9 ≤ M2 ∧ M1 + 9 ≤ o2 ∧ o2 < M2 ∧ a = [(2, .ptr (N0 + 1) 0 0), (3, .ptr (N0 + 2) 0 0)] ∧ σ = hp E0 [(N0 + 1, some ⟨63, 3, [[.osl 3 1 (encL rI ([] : List Int)), .int .i64 0, .osl 3 1 (encL rI ([] : List Int))]]⟩), (N0 + 2, some ⟨63, 3, [[.osl 3 1 (encL rI r1), .int .i64 p0.Pc, .sl o2 0 r2.length]]⟩), (o2, some ⟨3, 1, encL rI r2⟩)] M2) (fun K hK => ?_) ?_
 ·skip
  simp -dsimp -implicitDefEqProofs
  refine (c26_o (H := hr2) ).mono ?_; rintro _ _ ⟨M2, o2, fM2_0, fM2_1, fM2_2, rfl, rfl⟩; simp only [hp_next] at fM2_0 fM2_1 fM2_2
  have eM2_0 := nQ o2 (N0 + 1)
  have eM2_1 := nQ o2 (N0 + 2)
  try simp -dsimp -implicitDefEqProofs [eM2_0, eM2_1, hp_over_some, hp_over_none]
  exact hK _ _ ⟨M2, o2, (by omega), (by omega), (by omega), rfl, rfl⟩
 rintro a σ ⟨M2, o2, fM2_0, fM2_1, fM2_2, rfl, rfl⟩
 refine gU AWP_ref (N0 + 2) 0 0 ?_
 refine Sx tok [] [2] (by
  intro K k
  have e0 := nQ (N0 + 1) o2
  have e1 := nQ (N0 + 1) M2
  have e2 := nQ (N0 + 2) o2
  have e3 := nQ (N0 + 2) M2
  have e4 := nQ o2 M2
  simp -dsimp -implicitDefEqProofs [e0, e1, e2, e3, e4]
  exact k) ?_
 obtain rfl := oi H
 refine Kp [2] ?_
 refine gDrop AWP_ref [(N0 + 1, some ⟨63, 3, [[.sl M2 0 r1.length, .int .i64 p0.Pc, .sl o2 0 r2.length]]⟩), (o2, some ⟨3, 1, encL rI r2⟩), (M2, some ⟨3, 1, encL rI r1⟩)] (hp_skip (AHeap.Sub.trans (hp_skip (hp_skip (AHeap.Sub.refl _))) (hp_drop rfl (by simp; try omega)))) ?_
 refine gP AWP_ref (N0 + 1) 0 0 ?_
 refine gP AWP_ref (N0 + 1) 0 2 ?_
 refine gU AWP_ref (N0 + 1) 0 0 ?_
 refine gU AWP_ref (N0 + 1) 0 2 ?_
 have z0 := nQ (N0 + 1) (M2 + 3)
 have z1 := nQ N0 (M2 + 2)
 have z2 := nQ (N0 + 1) (M2 + 4)
 have z3 := nQ N0 (M2 + 3)
 refine AWP_ret ?_
 refine ⟨[.agg [.sl (M2 + 3) 0 r1.length, .int .i64 p0.Pc, .sl (M2 + 4) 0 r2.length]], by simp [z0, z1, z2, z3], (fun o => [N0 + 1].contains o), M2 + 5, M2 + 3, M2 + 4, by omega, by omega, by omega, by omega, by omega, by omega, ?_, ?_⟩
 ·simp [encL_nil, z0, z1, z2, z3]
 ·rw [cutD (L' := [(M2 + 3, some ⟨3, 1, encL rI r1⟩), (M2 + 4, some ⟨3, 1, encL rI r2⟩)]) (by simp [z0, z1, z2, z3])]
  first | done | rfl | simp [List.set_set]
theorem c24_o3 {p0 : (List gMachine)} {r : (List gMachine)} (H : l_toMachineS_o3 p0 = some r) {σ : AHeap} : ACalls Tryz.prog G 24 [.fsl (encL rMachine p0)] σ (fun v σ' => ∃ M n0 : Nat, σ.next ≤ M ∧ σ.next ≤ n0 ∧ n0 < M ∧ v = .sl n0 0 r.length ∧ σ' = hp σ.objs [(n0, some ⟨63, 3, encL rMachine_oo r⟩)] M) := by
 refine ACalls_fr (L := []) (Q1 := fun v σ' => ∃ M n0 : Nat, σ.next ≤ M ∧ σ.next ≤ n0 ∧ n0 < M ∧ v = .sl n0 0 r.length ∧ σ' = hp E0 [(n0, some ⟨63, 3, encL rMachine_oo r⟩)] M) (by simp []) (fun hlt => ?_) ?_ ⟨_, Tryz.func24, rfl, rfl⟩
 rotate_left
 ·rintro v σ1 ⟨M, n0, h0, h1, h2, rfl, rfl⟩
  exact ⟨_, M, rfl, by simp, by simp; try omega, M, n0, h0, h1, h2, rfl, rfl⟩
 generalize σ.next = N0 at hlt ⊢
 refine fnK tok Tryz.func24 Tryz.ntmps24 Tryz.results24 ?_
 simp only [argsA, Nat.reduceAdd, hp_next]
 unfold l_toMachineS_o3 at H
 refine S0 tok [] [0] ?_
 obtain ⟨l1, hl1, H⟩ := bindE H
 refine Sx tok [] [0, 3] (by intro K k; simp -dsimp -implicitDefEqProofs [makr28 hl1]; exact k) ?_
 refine AWP_sq [3] fun K1 hK1 => ?_
 refine gRep AWP_ref (o := (N0 + 3)) (ty := 63) (sz := 3) (m := Int.toNat (ilen p0)) (c := [.nilsl, .int .i64 0, .nilsl]) (c' := [.osl 3 1 [], .int .i64 0, .osl 3 1 []]) (.own (.same (.own .nil))) [(N0 + 3, some ⟨63, 3, encL rMachine_oo l1⟩)] (by simp (disch := omega)) (by rw [mak_rep (f := rMachine_oo) (c := [.osl 3 1 [], .int .i64 0, .osl 3 1 []]) hl1 rfl]; simp) ?_
 refine S0 tok [] [0, 3, 4] ?_
 refine AWP_block (AWP_thenB ?_)
 obtain ⟨e1, hse1, H⟩ := bindE H
 refine AWP_lp [0, 3, 4] (fun s a σ => ∃ M1 o1 : Nat, N0 ≤ M1 ∧ N0 ≤ o1 ∧ o1 < M1 ∧ a = [(0, .fsl (encL rMachine p0)), (3, .sl o1 0 s.2.length), (4, .int .i64 s.1)] ∧ σ = hp E0 [(o1, some ⟨63, 3, encL rMachine_oo s.2⟩)] M1) (fun s x a σ => x = .exit 0 ∧ Rc G 23 N0 (fun a σ => ∃ M2 o2 : Nat, N0 ≤ M2 ∧ N0 ≤ o2 ∧ o2 < M2 ∧ a = [(3, .sl o2 0 s.length)] ∧ σ = hp E0 [(o2, some ⟨63, 3, encL rMachine_oo s⟩)] M2) (AAct.keep a [3]) σ) hse1 ?_ ?_ ?_
 ·refine Rc.kp [0, 3, 4] [(0, .fsl (encL rMachine p0)), (3, .sl (N0 + 3) 0 l1.length), (4, .int .i64 0)] rfl ?_
  exact Rf ⟨N0 + 6, (N0 + 3), (by omega), (by omega), (by omega), rfl, rfl⟩
 ·clear H hse1
  rintro ⟨s2, s3⟩ fl a σ H ⟨M1, o1, fM1_0, fM1_1, fM1_2, rfl, rfl⟩ K2 O2 hK2 hO2
  unfold l_toMachineS_o3_L1 at H; dsimp only at H
  refine AWP_sq [0, 3, 4] fun K3 hK3 => ?_
  refine S0 tok [] [0, 3, 4, 11] ?_
  refine Cd (fun C1 => ?_) fun C1 => ?_
  ·replace H := ifT C1 H
   refine AWP_skip (Jn hK3 ?_)
   refine AWP_sq [0, 3, 4] fun K4 hK4 => ?_
   refine AWP_block (AWP_thenB ?_)
   obtain ⟨v5, hv5, H⟩ := bindE H
   obtain ⟨r6, hr6, H⟩ := bindE H
   obtain ⟨v7, hv7, H⟩ := bindE H
   refine AWP_rt tok [] [0, 3, 4] (fun a σ => ∃ M3 o3 o4 : Nat, M1 + 13 ≤ M3 ∧ M1 + 13 ≤ o3 ∧ o3 < M3 ∧ M1 + 13 ≤ o4 ∧ o4 < M3 ∧ ¬ o3 = o4 ∧ a = [(0, .fsl (encL rMachine p0)), (3, .sl o1 0 s3.length), (4, .int .i64 s2)] ∧ σ = hp E0 [(o1, some ⟨63, 3, (encL rMachine_oo s3).set s2.toNat [.sl o3 0 r6.Regs.length, .int .i64 r6.Pc, .sl o4 0 r6.Mem.length]⟩), (o3, some ⟨3, 1, encL rI r6.Regs⟩), (o4, some ⟨3, 1, encL rI r6.Mem⟩)] M3) (fun K hK => ?_) ?_
   ·skip
    simp -dsimp -implicitDefEqProofs [ix22 hv5, ixo28 hv7, (idx_lt3 hv7).2.2]
    refine (c61_o2 (H := hr6) ).mono ?_; rintro _ _ ⟨M3, o3, o4, fM3_0, fM3_1, fM3_2, fM3_3, fM3_4, fM3_5, rfl, rfl⟩; simp only [hp_next] at fM3_0 fM3_1 fM3_2 fM3_3 fM3_4 fM3_5
    have eM3_0 := nQ o3 o1
    have eM3_1 := nQ o3 o4
    have eM3_2 := nQ o4 o1
    try simp -dsimp -implicitDefEqProofs [ix22 hv5, ixo28 hv7, (idx_lt3 hv7).2.2, eM3_0, eM3_1, eM3_2, hp_over_some, hp_over_none]
    exact hK _ _ ⟨M3, o3, o4, (by omega), (by omega), (by omega), (by omega), (by omega), (by omega), rfl, rfl⟩
   rintro a σ ⟨M3, o3, o4, fM3_0, fM3_1, fM3_2, fM3_3, fM3_4, fM3_5, ha, rfl⟩
   refine hK4 _ _ ?_; rw [ha]
   refine Rc.mk ?_
   refine Rt tok [] [0, 3, 4] (by
    intro K k
    have e0 := nQ o1 o3
    have e1 := nQ o1 o4
    have e2 := nQ o3 o4
    simp -dsimp -implicitDefEqProofs [e0, e1, e2, (gset hv7 _), List.set_set]
    exact k) fun a ha => ?_
   obtain ⟨l8, hl8, H⟩ := bindE H
   obtain rfl := oi H
   refine hK2 _ _ _ rfl ?_; rw [ha]
   refine gP Rc_ref o1 s2.toNat 0 ?_ (hr := by exact gset hv7 _)
   refine gP Rc_ref o1 s2.toNat 2 ?_ (hr := by exact gset hv7 _)
   rw [show hp E0 [(o1, some ⟨63, 3, (encL rMachine_oo s3).set s2.toNat [.osl 3 1 (encL rI r6.Regs), .int .i64 r6.Pc, .osl 3 1 (encL rI r6.Mem)]⟩)] (M3 + 3) = hp E0 [(o1, some ⟨63, 3, encL rMachine_oo l8⟩)] (M3 + 3) from by rw [(setx_iff.1 hl8).2, ← encL_set]; rfl]; (try rw [← setx_len hl8])
   exact Rf ⟨M3 + 3, o1, (by omega), (by omega), (by omega), rfl, rfl⟩
  ·obtain rfl := oi (ifF C1 H)
   refine AWP_exit (hO2 _ _ _ _ rfl ⟨rfl, ?_⟩)
   refine Rc.rw (l := [3]) (X := [(3, .sl o1 0 s3.length)]) rfl ?_
   exact Rf ⟨M1 + 4, o1, (by omega), (by omega), (by omega), rfl, rfl⟩
 ·intro x a σ hx
  obtain ⟨y4, rfl⟩ : ∃ x, x = e1 := ⟨_, rfl⟩
  obtain ⟨rfl, b, τ, hr, M2, o2, fM2_0, fM2_1, fM2_2, rfl, rfl⟩ := hx
  dsimp only at H
  show K1 _ _
  refine hK1 _ _ (Rc_ref hr ?_)
  refine Rc.mk ?_
  refine S0 tok [] [2] ?_
  obtain rfl := oi H
  refine Kp [2] ?_
  refine AWP_ret ?_
  refine ⟨[.sl o2 0 y4.length], by simp, M2 + 2, o2, by omega, by omega, by omega, ?_, ?_⟩
  ·simp [encL_nil]
  ·first | rfl | simp [List.set_set]
end Go.Proofs.YtlcilhmkbmgkeaaGreatDoor
