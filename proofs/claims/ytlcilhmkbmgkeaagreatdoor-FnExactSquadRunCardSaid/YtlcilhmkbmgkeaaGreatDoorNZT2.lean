/- The contracts of functions of the program, part 2: each computes what its mirror computes. No conditions. -/
import Derived.Test.YtlcilhmkbmgkeaaGreatDoorNZT1
set_option linter.unusedSimpArgs false
set_option linter.unusedVariables false
set_option maxRecDepth 20000
set_option maxHeartbeats 4000000
namespace Go.Proofs.YtlcilhmkbmgkeaaGreatDoor
open Go Go.Abs Go.RowKit

theorem c66 {p0 : gMachine} {r : Bool} (H : i_squadValid_1 p0 = some r) : APure Tryz.prog G 66 [.agg [.fsl (encL rI p0.Regs), .int .i64 p0.Pc, .fsl (encL rI p0.Mem)]] (.bool r) := by
 refine APure_fn (fun N0 => ?_) (by simp)
 refine fnK tok Tryz.func66 Tryz.ntmps66 Tryz.results66 ?_
 simp only [argsA, Nat.reduceAdd, hp_next]
 unfold i_squadValid_1 at H
 refine S0 tok [0] [1] ?_
 obtain ⟨r1, hr1, H⟩ := bindE H
 refine Sx tok [] [2] (by intro K k; (repeat first | simp -dsimp -implicitDefEqProofs | refine (c67 hr1).app ?_); exact k) ?_
 obtain rfl := oi H; exact AWP_ret ⟨_, rfl, 4, by simp [encL_nil]⟩
theorem c108_i_squadValid_1 {p0 : (List gMachine)} {r : Int} (H : slices_IndexFunc_impl_Machine_impl_Machine_i_squadValid_1 p0 = some r) : APure Tryz.prog G 108 [.fsl (encL rMachine p0), .clo 66 [] []] (.int .i64 r) := by
 refine APure_fn (fun N0 => ?_) (by simp)
 refine fnK tok Tryz.func108 Tryz.ntmps108 Tryz.results108 ?_
 simp only [argsA, Nat.reduceAdd, hp_next]
 unfold slices_IndexFunc_impl_Machine_impl_Machine_i_squadValid_1 at H
 refine S0 tok [] [0, 1] ?_
 refine AWP_sq [] fun K1 hK1 => ?_
 refine S0 tok [] [0, 1, 7, 8] ?_
 refine AWP_block (AWP_thenB ?_)
 obtain ⟨e1, hse1, H⟩ := bindE H
 refine AWP_lp [0, 1, 7, 8] (fun s a σ => ∃ M1 : Nat, N0 ≤ M1 ∧ a = [(0, .fsl (encL rMachine p0)), (1, .clo 66 [] []), (7, .int .i64 (ilen p0)), (8, .int .i64 s)] ∧ σ = hp E0 [] M1) (fun e x a σ => match e with | .inl s => x = .exit 0 ∧ Rc G 19 N0 (fun a σ => ∃ M2 : Nat, N0 ≤ M2 ∧ a = [] ∧ σ = hp E0 [] M2) (AAct.keep a []) σ | .inr s => x = .ret ∧ ∃ vs, resA T σ a [.tmp 4] = some vs ∧ ∃ d, thawA (fun _ => true) σ d (tupA vs) = .int .i64 s) hse1 ?_ ?_ ?_
 ·refine Rc.kp [0, 1, 7, 8] [(0, .fsl (encL rMachine p0)), (1, .clo 66 [] []), (7, .int .i64 (ilen p0)), (8, .int .i64 0)] rfl ?_
  exact Rf ⟨N0 + 4, (by omega), rfl, rfl⟩
 ·clear H hse1
  rintro s1 fl a σ H ⟨M1, fM1_0, rfl, rfl⟩ K2 O2 hK2 hO2
  unfold slices_IndexFunc_impl_Machine_impl_Machine_i_squadValid_1_L1 at H; dsimp only at H
  refine S0 tok [] [0, 1, 7, 8, 9] ?_
  refine AWP_sq [0, 1, 7, 8] fun K3 hK3 => ?_
  refine Cd (fun C1 => ?_) fun C1 => ?_
  ·replace H := ifT C1 H
   refine AWP_skip (Jn hK3 ?_)
   refine AWP_sq [0, 1, 7, 8] fun K4 hK4 => ?_
   refine AWP_block (AWP_thenB ?_)
   refine S0 tok [] [0, 1, 5, 7, 8] ?_
   obtain ⟨v2, hv2, H⟩ := bindE H
   obtain ⟨r3, hr3, H⟩ := bindE H
   refine Sx tok [] [0, 1, 5, 7, 8, 16] (by intro K k; (repeat first | simp -dsimp -implicitDefEqProofs [ix28 hv2] | refine (c66 hr3).app ?_); exact k) ?_
   refine Cd (fun C2 => ?_) fun C2 => ?_
   ·replace H := ifT C2 H
    refine S0 tok [] [4] ?_
    obtain rfl := oi H
    refine Kp [4] ?_
    refine AWP_ret (hO2 _ _ _ _ rfl ⟨rfl, ?_⟩)
    exact ⟨[.int .i64 s1], by simp, 4, by simp [encL_nil]⟩
   ·replace H := ifF C2 H
    refine AWP_skip (Jn hK4 ?_)
    refine Rt0 tok [] [0, 1, 7, 8] fun a ha => ?_
    obtain rfl := oi H
    refine hK2 _ _ _ rfl ?_; rw [ha]
    exact Rf ⟨M1 + 11, (by omega), rfl, rfl⟩
  ·obtain rfl := oi (ifF C1 H)
   refine AWP_exit (hO2 _ _ _ _ rfl ⟨rfl, ?_⟩)
   refine Rc.rw (l := []) (X := []) rfl ?_
   exact Rf ⟨M1 + 1, (by omega), rfl, rfl⟩
 ·intro x a σ hx
  rcases e1 with ⟨⟩ | r0
  ·obtain ⟨rfl, b, τ, hr, M2, fM2_0, rfl, rfl⟩ := hx
   dsimp only at H
   show K1 _ _
   refine hK1 _ _ (Rc_ref hr ?_)
   refine Rc.mk ?_
   refine S0 tok [] [4] ?_
   obtain rfl := oi H; exact AWP_ret ⟨_, rfl, 4, by simp [encL_nil]⟩
  ·obtain ⟨rfl, hx2⟩ := hx
   dsimp only at H
   obtain rfl := oi H; first | exact hx2 | (simp only [List.set_set] at hx2 ⊢; exact hx2)
theorem c65_i_squadValid_1 {p0 : (List gMachine)} {r : Bool} (H : slices_ContainsFunc_impl_Machine_impl_Machine_i_squadValid_1 p0 = some r) : APure Tryz.prog G 65 [.fsl (encL rMachine p0), .clo 66 [] []] (.bool r) := by
 refine APure_fn (fun N0 => ?_) (by simp)
 refine fnK tok Tryz.func65 Tryz.ntmps65 Tryz.results65 ?_
 simp only [argsA, Nat.reduceAdd, hp_next]
 unfold slices_ContainsFunc_impl_Machine_impl_Machine_i_squadValid_1 at H
 refine S0 tok [] [0, 1] ?_
 obtain ⟨r1, hr1, H⟩ := bindE H
 refine Sx tok [] [4] (by intro K k; (repeat first | simp -dsimp -implicitDefEqProofs | refine (c108_i_squadValid_1 hr1).app ?_); exact k) ?_
 obtain rfl := oi H; exact AWP_ret ⟨_, rfl, 4, by simp [encL_nil]⟩
theorem c27 {p0 : gSquad} {r : Bool} (H : i_squadValid p0 = some r) : APure Tryz.prog G 27 [.agg [.fsl (encL rMachine p0.Harts), .fsl (encL rBox p0.Boxes), .int .i64 p0.Turn, .int .i64 p0.Idle, .fsl (encL rI p0.Out)]] (.bool r) := by
 refine APure_fn (fun N0 => ?_) (by simp)
 refine fnK tok Tryz.func27 Tryz.ntmps27 Tryz.results27 ?_
 simp only [argsA, Nat.reduceAdd, hp_next]
 unfold i_squadValid at H
 refine S0 tok [0] [1] ?_
 obtain ⟨r1, hr1, H⟩ := bindE H
 obtain ⟨g3, hg3, H⟩ := bindE H
 obtain ⟨g5, hg5, H⟩ := bindE H
 refine Sx tok [] [2] (X := [(2, .bool g5)]) (Y := hp E0 [] (N0 + 24)) (by
  intro K k
  simp -dsimp -implicitDefEqProofs
  refine (c63 hr1).app ?_; try simp -dsimp -implicitDefEqProofs
  cases hbg3 : r1
  ·replace hg3 := ifF hbg3 hg3
   replace hg3 := Option.some.inj hg3; subst hg3
   try simp -dsimp -implicitDefEqProofs [hbg3]
   replace hg5 := ifF rfl hg5
   replace hg5 := Option.some.inj hg5; subst hg5
   try simp -dsimp -implicitDefEqProofs [hbg3]
   exact k
  ·replace hg3 := ifT hbg3 hg3
   obtain ⟨r2, hr2, hg3⟩ := bindE hg3
   replace hg3 := Option.some.inj hg3; subst hg3
   try simp -dsimp -implicitDefEqProofs [hbg3]
   refine (c64 hr2).app ?_; try simp -dsimp -implicitDefEqProofs [hbg3]
   cases hbg5 : r2
   ·replace hg5 := ifF hbg5 hg5
    replace hg5 := Option.some.inj hg5; subst hg5
    try simp -dsimp -implicitDefEqProofs [hbg3, hbg5]
    exact k
   ·replace hg5 := ifT hbg5 hg5
    obtain ⟨r4, hr4, hg5⟩ := bindE hg5
    replace hg5 := Option.some.inj hg5; subst hg5
    try simp -dsimp -implicitDefEqProofs [hbg3, hbg5]
    refine (c65_i_squadValid_1 hr4).app ?_; try simp -dsimp -implicitDefEqProofs [hbg3, hbg5]
    exact k) ?_
 obtain rfl := oi H; exact AWP_ret ⟨_, rfl, 4, by simp [encL_nil]⟩
theorem c69 {p0 : gBox} {p1 : Int} {r : Bool × gBox} (H : i_Box_put p0 p1 = some r) {σ : AHeap} {w0 : Nat} {W0 : List (List AV)} {r0_ : Nat} (q0 : σ.objs w0 = some ⟨93, 2, W0⟩) (g0 : W0[r0_]? = some [.int .i64 p0.Room, .osl 3 1 (encL rI p0.Items)]) : ACalls Tryz.prog G 69 [.ptr w0 r0_ 0, .int .i64 p1] σ (fun v σ' => ∃ M : Nat, σ.next ≤ M ∧ v = .bool r.1 ∧ σ' = hp σ.objs [(w0, some ⟨93, 2, W0.set r0_ [.int .i64 r.2.Room, .osl 3 1 (encL rI r.2.Items)]⟩)] M) := by
 refine ACalls_fr (L := [(w0, some ⟨93, 2, W0⟩)]) (Q1 := fun v σ' => ∃ M : Nat, σ.next ≤ M ∧ v = .bool r.1 ∧ σ' = hp E0 [(w0, some ⟨93, 2, W0.set r0_ [.int .i64 r.2.Room, .osl 3 1 (encL rI r.2.Items)]⟩)] M) (by simp [q0]) (fun hlt => ?_) ?_ ⟨_, Tryz.func69, rfl, rfl⟩
 rotate_left
 ·rintro v σ1 ⟨M, h0, rfl, rfl⟩
  exact ⟨_, M, rfl, by simp, by simp; try omega, M, h0, rfl, rfl⟩
 generalize σ.next = N0 at hlt ⊢
 have lw0 : w0 < N0 := hlt _ (.head _) rfl
 have gs_W0 : ∀ x, (W0.set r0_ x)[r0_]? = some x := gsetW g0
 rw [← set_same g0]
 refine fnK tok Tryz.func69 Tryz.ntmps69 Tryz.results69 ?_
 simp only [argsA, Nat.reduceAdd, hp_next]
 unfold i_Box_put at H
 refine Sx tok [] [0, 1] (by intro K k; simp -dsimp -implicitDefEqProofs [gs_W0, List.set_set]; exact k) ?_
 refine AWP_sq [0, 1] fun K1 hK1 => ?_
 refine gU AWP_ref w0 r0_ 1 ?_ (hr := by exact gs_W0 _)
 refine Sd tok tokM [] [3, 8] [0, 1, 2, 5, 6, 7, 3, 4, 8, 9] [0, 1, 14] (by
  intro K k
  have e0 := nQ w0 (N0 + 1)
  simp only [pickL, nthO_succ, nthO_zero]
  simp -dsimp -implicitDefEqProofs [e0, gs_W0, List.set_set]
  exact k) ?_
 refine Cd (fun C1 => ?_) fun C1 => ?_
 ·replace H := ifT C1 H
  refine Sx tok [] [4] (by
   intro K k
   have e0 := nQ w0 (N0 + 1)
   simp -dsimp -implicitDefEqProofs [e0, gs_W0, List.set_set]
   exact k) ?_
  obtain rfl := oi H
  refine Kp [4] ?_
  refine gP AWP_ref w0 r0_ 1 ?_ (hr := by exact gs_W0 _)
  refine AWP_ret ?_
  refine ⟨[.bool false], by simp [gs_W0], N0 + 13, by omega, ?_, ?_⟩
  ·simp [encL_nil]
  ·first | rfl | simp [List.set_set]
 ·replace H := ifF C1 H
  refine AWP_skip (Jn hK1 ?_)
  obtain ⟨l1, hl1, H⟩ := bindE H
  have q0 : ∀ σ i, buildSliceA T 24 true i 1 [(0, .int .i64 p1)] σ = some (.fsl (encL rI ([p1] : List Int)), σ) := fun _ _ => rfl
  refine Sx tok [6] [] (by
   intro K k
   have e0 := nQ w0 (N0 + 1)
   have e1 := nQ w0 (N0 + 19)
   simp -dsimp -implicitDefEqProofs [e0, e1, gs_W0, List.set_set, q0, app24 hl1]
   exact k) ?_
  refine Sx tok [] [4] (by
   intro K k
   have e0 := nQ w0 (N0 + 19)
   simp -dsimp -implicitDefEqProofs [e0, gs_W0, List.set_set]
   exact k) ?_
  obtain rfl := oi H
  refine Kp [4] ?_
  refine gP AWP_ref w0 r0_ 1 ?_ (hr := by exact gs_W0 _)
  refine AWP_ret ?_
  refine ⟨[.bool true], by simp [gs_W0], N0 + 24, by omega, ?_, ?_⟩
  ·simp [encL_nil]
  ·first | rfl | simp [List.set_set]
theorem c70 {p0 : gBox} {r : Int × Bool × gBox} (H : i_Box_take p0 = some r) {σ : AHeap} {w0 : Nat} {W0 : List (List AV)} {r0_ : Nat} (q0 : σ.objs w0 = some ⟨93, 2, W0⟩) (g0 : W0[r0_]? = some [.int .i64 p0.Room, .osl 3 1 (encL rI p0.Items)]) : ACalls Tryz.prog G 70 [.ptr w0 r0_ 0] σ (fun v σ' => ∃ M : Nat, σ.next ≤ M ∧ v = .tup [.int .i64 r.1, .bool r.2.1] ∧ σ' = hp σ.objs [(w0, some ⟨93, 2, W0.set r0_ [.int .i64 r.2.2.Room, .osl 3 1 (encL rI r.2.2.Items)]⟩)] M) := by
 refine ACalls_fr (L := [(w0, some ⟨93, 2, W0⟩)]) (Q1 := fun v σ' => ∃ M : Nat, σ.next ≤ M ∧ v = .tup [.int .i64 r.1, .bool r.2.1] ∧ σ' = hp E0 [(w0, some ⟨93, 2, W0.set r0_ [.int .i64 r.2.2.Room, .osl 3 1 (encL rI r.2.2.Items)]⟩)] M) (by simp [q0]) (fun hlt => ?_) ?_ ⟨_, Tryz.func70, rfl, rfl⟩
 rotate_left
 ·rintro v σ1 ⟨M, h0, rfl, rfl⟩
  exact ⟨_, M, rfl, by simp, by simp; try omega, M, h0, rfl, rfl⟩
 generalize σ.next = N0 at hlt ⊢
 have lw0 : w0 < N0 := hlt _ (.head _) rfl
 have gs_W0 : ∀ x, (W0.set r0_ x)[r0_]? = some x := gsetW g0
 rw [← set_same g0]
 refine fnK tok Tryz.func70 Tryz.ntmps70 Tryz.results70 ?_
 simp only [argsA, Nat.reduceAdd, hp_next]
 unfold i_Box_take at H
 refine Sx tok [] [0] (by intro K k; simp -dsimp -implicitDefEqProofs (maxDischargeDepth := 6) [gs_W0, List.set_set]; exact k) ?_
 refine AWP_sq [0] fun K1 hK1 => ?_
 refine gU AWP_ref w0 r0_ 1 ?_ (hr := by exact gs_W0 _)
 refine Sx tok [] [0, 10] (by
  intro K k
  have e0 := nQ w0 (N0 + 2)
  simp -dsimp -implicitDefEqProofs (maxDischargeDepth := 6) [e0, gs_W0, List.set_set]
  exact k) ?_
 refine Cd (fun C1 => ?_) fun C1 => ?_
 ·replace H := ifT C1 H
  refine Sx tok [] [2, 3] (by
   intro K k
   have e0 := nQ w0 (N0 + 2)
   simp -dsimp -implicitDefEqProofs (maxDischargeDepth := 6) [e0, gs_W0, List.set_set]
   exact k) ?_
  obtain rfl := oi H
  refine Kp [2, 3] ?_
  refine gP AWP_ref w0 r0_ 1 ?_ (hr := by exact gs_W0 _)
  refine AWP_ret ?_
  refine ⟨[.int .i64 0, .bool false], by simp [gs_W0], N0 + 11, by omega, ?_, ?_⟩
  ·simp [encL_nil]
  ·first | rfl | simp [List.set_set]
 ·replace H := ifF C1 H
  refine AWP_skip (Jn hK1 ?_)
  obtain ⟨v1, hv1, H⟩ := bindE H
  refine Sx tok [] [0, 4] (by
   intro K k
   have e0 := nQ w0 (N0 + 2)
   simp -dsimp -implicitDefEqProofs (maxDischargeDepth := 6) [e0, gs_W0, List.set_set, ixo24 hv1, (show _[0]? = some v1 from (idx_lt3 hv1).2.2)]
   exact k) ?_
  obtain ⟨l2, hl2, H⟩ := bindE H
  obtain ⟨l3, hl3, H⟩ := bindE H
  obtain ⟨l4, hl4, H⟩ := bindE H
  refine Sd tok tokM [] [4, 5, 9, 10, 11, 14] [0, 1, 2, 3, 6, 7, 8, 4, 5, 9, 10, 11, 12, 13, 14] [4] (by
   intro K k
   have e0 := nQ w0 (N0 + 2)
   have e1 := nQ w0 (N0 + 27)
   simp only [pickL, nthO_succ, nthO_zero]
   simp -dsimp -implicitDefEqProofs (maxDischargeDepth := 6) [e0, e1, gs_W0, List.set_set, cutoh_24 hl2, cutol_24 hl3, appv24 hl2 hl4, srcvn24 1 hl3 rfl]
   exact k) ?_
  refine Sx tok [] [2, 3] (by
   intro K k
   have e0 := nQ w0 (N0 + 27)
   simp -dsimp -implicitDefEqProofs (maxDischargeDepth := 6) [e0, gs_W0, List.set_set]
   exact k) ?_
  obtain rfl := oi H
  refine Kp [2, 3] ?_
  refine gP AWP_ref w0 r0_ 1 ?_ (hr := by exact gs_W0 _)
  refine AWP_ret ?_
  refine ⟨[.int .i64 v1, .bool true], by simp [gs_W0], N0 + 34, by omega, ?_, ?_⟩
  ·simp [encL_nil]
  ·first | rfl | simp [List.set_set]
theorem c73 {p0 : Int} {r : Int} (H : i_Unsigned p0 = some r) : APure Tryz.prog G 73 [.int .i64 p0] (.int .i64 r) := by
 refine APure_fn (fun N0 => ?_) (by simp)
 refine fnK tok Tryz.func73 Tryz.ntmps73 Tryz.results73 ?_
 simp only [argsA, Nat.reduceAdd, hp_next]
 unfold i_Unsigned at H
 refine S0 tok [] [0] ?_
 refine AWP_sq [0] fun K1 hK1 => ?_
 obtain ⟨r1, hr1, H⟩ := bindE H
 refine Sx tok [] [0, 5] (by intro K k; (repeat first | simp -dsimp -implicitDefEqProofs | refine (c97 hr1).app ?_); exact k) ?_
 refine Cd (fun C1 => ?_) fun C1 => ?_
 ·replace H := ifT C1 H
  refine S0 tok [] [2] ?_
  obtain rfl := oi H; exact AWP_ret ⟨_, rfl, 4, by simp [encL_nil]⟩
 ·replace H := ifF C1 H
  refine AWP_skip (Jn hK1 ?_)
  refine S0 tok [] [2] ?_
  obtain rfl := oi H; exact AWP_ret ⟨_, rfl, 4, by simp [encL_nil]⟩
theorem c109 {p0 : Int} {r : Bool} (H : i_isUnsigned p0 = some r) : APure Tryz.prog G 109 [.int .i64 p0] (.bool r) := by
 refine APure_fn (fun N0 => ?_) (by simp)
 refine fnK tok Tryz.func109 Tryz.ntmps109 Tryz.results109 ?_
 simp only [argsA, Nat.reduceAdd, hp_next]
 unfold i_isUnsigned at H
 refine S0 tok [] [0] ?_
 obtain ⟨g1, hg1, H⟩ := bindE H
 refine Sx tok [] [2] (X := [(2, .bool g1)]) (Y := hp E0 [] (N0 + 8)) (by
  intro K k
  simp -dsimp -implicitDefEqProofs
  cases hbg1 : ige p0 0
  ·replace hg1 := ifF hbg1 hg1
   replace hg1 := Option.some.inj hg1; subst hg1
   try simp -dsimp -implicitDefEqProofs [hbg1]
   exact k
  ·replace hg1 := ifT hbg1 hg1
   replace hg1 := Option.some.inj hg1; subst hg1
   try simp -dsimp -implicitDefEqProofs [hbg1]
   exact k) ?_
 obtain rfl := oi H; exact AWP_ret ⟨_, rfl, 4, by simp [encL_nil]⟩
theorem c139 {p0 : Int} {r : Int} (H : i_formatOf p0 = some r) : APure Tryz.prog G 139 [.int .i64 p0] (.int .u8 r) := by
 refine APure_fn (fun N0 => ?_) (by simp)
 refine fnK tok Tryz.func139 Tryz.ntmps139 Tryz.results139 ?_
 simp only [argsA, Nat.reduceAdd, hp_next]
 unfold i_formatOf at H
 refine S0 tok [] [0] ?_
 refine AWP_sq [] fun K1 hK1 => ?_
 refine AWP_block (AWP_thenB ?_)
 obtain ⟨g1, hg1, H⟩ := bindE H
 refine Sx tok [] [0, 3] (X := [(0, .int .i64 p0), (3, .bool g1)]) (Y := hp E0 [] (N0 + 8)) (by
  intro K k
  simp -dsimp -implicitDefEqProofs
  cases hbg1 : ige p0 1
  ·replace hg1 := ifF hbg1 hg1
   replace hg1 := Option.some.inj hg1; subst hg1
   try simp -dsimp -implicitDefEqProofs [hbg1]
   exact k
  ·replace hg1 := ifT hbg1 hg1
   replace hg1 := Option.some.inj hg1; subst hg1
   try simp -dsimp -implicitDefEqProofs [hbg1]
   exact k) ?_
 refine Cd (fun C1 => ?_) fun C1 => ?_
 ·replace H := ifT C1 H
  refine S0 tok [] [2] ?_
  obtain rfl := oi H; exact AWP_ret ⟨_, rfl, 4, by simp [encL_nil]⟩
 ·replace H := ifF C1 H
  obtain ⟨g2, hg2, H⟩ := bindE H
  refine Sx tok [] [0, 10] (X := [(0, .int .i64 p0), (10, .bool g2)]) (Y := hp E0 [] (N0 + 15)) (by
   intro K k
   simp -dsimp -implicitDefEqProofs
   cases hbg2 : ige p0 12
   ·replace hg2 := ifF hbg2 hg2
    replace hg2 := Option.some.inj hg2; subst hg2
    try simp -dsimp -implicitDefEqProofs [hbg2]
    exact k
   ·replace hg2 := ifT hbg2 hg2
    replace hg2 := Option.some.inj hg2; subst hg2
    try simp -dsimp -implicitDefEqProofs [hbg2]
    exact k) ?_
  refine Cd (fun C2 => ?_) fun C2 => ?_
  ·replace H := ifT C2 H
   refine S0 tok [] [2] ?_
   obtain rfl := oi H; exact AWP_ret ⟨_, rfl, 4, by simp [encL_nil]⟩
  ·replace H := ifF C2 H
   refine S0 tok [] [0, 17] ?_
   refine Cd (fun C3 => ?_) fun C3 => ?_
   ·replace H := ifT C3 H
    refine S0 tok [] [2] ?_
    obtain rfl := oi H; exact AWP_ret ⟨_, rfl, 4, by simp [encL_nil]⟩
   ·replace H := ifF C3 H
    obtain ⟨g3, hg3, H⟩ := bindE H
    refine Sx tok [] [0, 20] (X := [(0, .int .i64 p0), (20, .bool g3)]) (Y := hp E0 [] (N0 + 25)) (by
     intro K k
     simp -dsimp -implicitDefEqProofs
     cases hbg3 : ieq p0 17
     ·replace hg3 := ifF hbg3 hg3
      replace hg3 := Option.some.inj hg3; subst hg3
      try simp -dsimp -implicitDefEqProofs [hbg3]
      exact k
     ·replace hg3 := ifT hbg3 hg3
      replace hg3 := Option.some.inj hg3; subst hg3
      try simp -dsimp -implicitDefEqProofs [hbg3]
      exact k) ?_
    refine Cd (fun C4 => ?_) fun C4 => ?_
    ·replace H := ifT C4 H
     refine S0 tok [] [2] ?_
     obtain rfl := oi H; exact AWP_ret ⟨_, rfl, 4, by simp [encL_nil]⟩
    ·replace H := ifF C4 H
     refine S0 tok [] [0, 27] ?_
     refine Cd (fun C5 => ?_) fun C5 => ?_
     ·replace H := ifT C5 H
      refine S0 tok [] [2] ?_
      obtain rfl := oi H; exact AWP_ret ⟨_, rfl, 4, by simp [encL_nil]⟩
     ·replace H := ifF C5 H
      refine S0 tok [] [0, 30] ?_
      refine Cd (fun C6 => ?_) fun C6 => ?_
      ·replace H := ifT C6 H
       refine S0 tok [] [2] ?_
       obtain rfl := oi H; exact AWP_ret ⟨_, rfl, 4, by simp [encL_nil]⟩
      ·replace H := ifF C6 H
       refine S0 tok [] [33] ?_
       refine Cd (fun C7 => ?_) fun C7 => ?_
       ·replace H := ifT C7 H
        refine S0 tok [] [2] ?_
        obtain rfl := oi H; exact AWP_ret ⟨_, rfl, 4, by simp [encL_nil]⟩
       ·replace H := ifF C7 H
        refine AWP_skip (Jn hK1 ?_)
        refine S0 tok [] [2] ?_
        obtain rfl := oi H; exact AWP_ret ⟨_, rfl, 4, by simp [encL_nil]⟩
theorem c115 {p0 : Int} {p1 : Int} {p2 : Int} {r : Int} (H : i_Bits p0 p1 p2 = some r) : APure Tryz.prog G 115 [.int .i64 p0, .int .i64 p1, .int .i64 p2] (.int .i64 r) := by
 refine APure_fn (fun N0 => ?_) (by simp)
 refine fnK tok Tryz.func115 Tryz.ntmps115 Tryz.results115 ?_
 simp only [argsA, Nat.reduceAdd, hp_next]
 unfold i_Bits at H
 refine S0 tok [] [0, 1, 2] ?_
 refine AWP_sq [0, 1, 2] fun K1 hK1 => ?_
 obtain ⟨r1, hr1, H⟩ := bindE H
 obtain ⟨g2, hg2, H⟩ := bindE H
 obtain ⟨g3, hg3, H⟩ := bindE H
 obtain ⟨g4, hg4, H⟩ := bindE H
 obtain ⟨g5, hg5, H⟩ := bindE H
 refine Sx tok [] [0, 1, 2, 27] (X := [(0, .int .i64 p0), (1, .int .i64 p1), (2, .int .i64 p2), (27, .bool g5)]) (Y := hp E0 [] (N0 + 22)) (by
  intro K k
  simp -dsimp -implicitDefEqProofs
  refine (c109 hr1).app ?_; try simp -dsimp -implicitDefEqProofs
  cases hbg2 : bnot r1
  ·replace hg2 := ifF hbg2 hg2
   replace hg2 := Option.some.inj hg2; subst hg2
   try simp -dsimp -implicitDefEqProofs [hbg2]
   cases hbg3 : (ilt p1 0)
   ·replace hg3 := ifF hbg3 hg3
    replace hg3 := Option.some.inj hg3; subst hg3
    try simp -dsimp -implicitDefEqProofs [hbg2, hbg3]
    cases hbg4 : (igt p1 31)
    ·replace hg4 := ifF hbg4 hg4
     replace hg4 := Option.some.inj hg4; subst hg4
     try simp -dsimp -implicitDefEqProofs [hbg2, hbg3, hbg4]
     cases hbg5 : (ilt p2 1)
     ·replace hg5 := ifF hbg5 hg5
      replace hg5 := Option.some.inj hg5; subst hg5
      try simp -dsimp -implicitDefEqProofs [hbg2, hbg3, hbg4, hbg5]
      exact k
     ·replace hg5 := ifT hbg5 hg5
      replace hg5 := Option.some.inj hg5; subst hg5
      try simp -dsimp -implicitDefEqProofs [hbg2, hbg3, hbg4, hbg5]
      exact k
    ·replace hg4 := ifT hbg4 hg4
     replace hg4 := Option.some.inj hg4; subst hg4
     try simp -dsimp -implicitDefEqProofs [hbg2, hbg3, hbg4]
     replace hg5 := ifT rfl hg5
     replace hg5 := Option.some.inj hg5; subst hg5
     try simp -dsimp -implicitDefEqProofs [hbg2, hbg3, hbg4]
     exact k
   ·replace hg3 := ifT hbg3 hg3
    replace hg3 := Option.some.inj hg3; subst hg3
    try simp -dsimp -implicitDefEqProofs [hbg2, hbg3]
    replace hg4 := ifT rfl hg4
    replace hg4 := Option.some.inj hg4; subst hg4
    try simp -dsimp -implicitDefEqProofs [hbg2, hbg3]
    replace hg5 := ifT rfl hg5
    replace hg5 := Option.some.inj hg5; subst hg5
    try simp -dsimp -implicitDefEqProofs [hbg2, hbg3]
    exact k
  ·replace hg2 := ifT hbg2 hg2
   replace hg2 := Option.some.inj hg2; subst hg2
   try simp -dsimp -implicitDefEqProofs [hbg2]
   replace hg3 := ifT rfl hg3
   replace hg3 := Option.some.inj hg3; subst hg3
   try simp -dsimp -implicitDefEqProofs [hbg2]
   replace hg4 := ifT rfl hg4
   replace hg4 := Option.some.inj hg4; subst hg4
   try simp -dsimp -implicitDefEqProofs [hbg2]
   replace hg5 := ifT rfl hg5
   replace hg5 := Option.some.inj hg5; subst hg5
   try simp -dsimp -implicitDefEqProofs [hbg2]
   exact k) ?_
 refine Cd (fun C1 => ?_) fun C1 => ?_
 ·replace H := ifT C1 H
  refine S0 tok [] [6] ?_
  obtain rfl := oi H; exact AWP_ret ⟨_, rfl, 4, by simp [encL_nil]⟩
 ·replace H := ifF C1 H
  refine AWP_skip (Jn hK1 ?_)
  obtain ⟨v6, hv6, H⟩ := bindE H
  obtain ⟨v7, hv7, H⟩ := bindE H
  refine Sd tok tokM [] [] [0, 1, 2, 3, 4, 5, 6, 7] [6] (by
   intro K k
   simp only [pickL, nthO_succ, nthO_zero]
   simp -dsimp -implicitDefEqProofs [hv6, hv7]
   exact k) ?_
  obtain rfl := oi H; exact AWP_ret ⟨_, rfl, 4, by simp [encL_nil]⟩
theorem c110 {p0 : gInstrRow} {p1 : Int} {p2 : Int} {r : Bool} (H : i_instrRow_matches p0 p1 p2 = some r) : APure Tryz.prog G 110 [.agg [.str p0.name, .int .i64 p0.opcode, .int .i64 p0.funct3, .int .i64 p0.funct7], .int .i64 p1, .int .i64 p2] (.bool r) := by
 refine APure_fn (fun N0 => ?_) (by simp)
 refine fnK tok Tryz.func110 Tryz.ntmps110 Tryz.results110 ?_
 simp only [argsA, Nat.reduceAdd, hp_next]
 unfold i_instrRow_matches at H
 refine S0 tok [0] [1, 2, 3] ?_
 refine AWP_sq [1, 2, 3] fun K1 hK1 => ?_
 refine S0 tok [] [1, 2, 3, 11] ?_
 refine Cd (fun C1 => ?_) fun C1 => ?_
 ·replace H := ifT C1 H
  refine S0 tok [] [6] ?_
  obtain rfl := oi H; exact AWP_ret ⟨_, rfl, 4, by simp [encL_nil]⟩
 ·replace H := ifF C1 H
  refine AWP_skip (Jn hK1 ?_)
  refine AWP_sq [] fun K2 hK2 => ?_
  obtain ⟨r1, hr1, H⟩ := bindE H
  refine Sx tok [] [2, 3, 13] (by intro K k; (repeat first | simp -dsimp -implicitDefEqProofs | refine (c139 hr1).app ?_); exact k) ?_
  refine AWP_block (AWP_thenB ?_)
  refine S0 tok [] [2, 3, 13, 14] ?_
  refine Cd (fun C2 => ?_) fun C2 => ?_
  ·replace H := ifT C2 H
   obtain ⟨r2, hr2, H⟩ := bindE H
   obtain ⟨g4, hg4, H⟩ := bindE H
   refine AWP_sd tok tokM [] [] [0, 1, 2, 3, 4, 5, 6, 7, 8, 9, 10, 11, 12] [6] (fun a σ => a = [(6, .bool g4)] ∧ σ = hp E0 [] (N0 + 24)) (by decide) (fun K hK => ?_) ?_
   ·simp only [pickL, nthO_succ, nthO_zero]
    simp -dsimp -implicitDefEqProofs
    refine Pc.mk (c115 hr2) ?_; try simp -dsimp -implicitDefEqProofs
    cases hbg4 : ieq p0.funct3 r2
    ·obtain rfl := oi (ifF hbg4 hg4)
     try simp -dsimp -implicitDefEqProofs [hbg4]
     exact hK _ _ ⟨rfl, rfl⟩
    ·replace hg4 := ifT hbg4 hg4
     obtain ⟨r3, hr3, hg4⟩ := bindE hg4
     obtain rfl := oi hg4
     try simp -dsimp -implicitDefEqProofs [hbg4]
     refine Pc.mk (c115 hr3) ?_; try simp -dsimp -implicitDefEqProofs [hbg4]
     exact hK _ _ ⟨rfl, rfl⟩
   rintro a σ ⟨rfl, rfl⟩
   obtain rfl := oi H; exact AWP_ret ⟨_, rfl, 4, by simp [encL_nil]⟩
  ·replace H := ifF C2 H
   obtain ⟨j1, hj1, H⟩ := bindE H
   refine AWP_seq (AWP_named fun K3 hK3 => ?_)
   have hJ1 : ∀ a σ, Rc G 37 N0 (fun a σ => ∃ M1 : Nat, N0 ≤ M1 ∧ a = [(2, .int .i64 p2), (3, .fptr [.str p0.name, .int .i64 p0.opcode, .int .i64 p0.funct3, .int .i64 p0.funct7] 0), (28, .bool j1)] ∧ σ = hp E0 [] M1) (a.keep [2, 3, 28]) σ → K3 a σ := by
    rintro a σ ⟨b, τ, hr, M1, fM1_0, rfl, rfl⟩
    refine hK3 _ _ (AWP_keep [2, 3, 28] (AWP_ref hr ?_))
    refine Cd (fun C3 => ?_) fun C3 => ?_
    ·replace H := ifT C3 H
     obtain ⟨r6, hr6, H⟩ := bindE H
     refine Sd tok tokM [] [] [0, 1, 2, 3, 4, 5] [6] (by
      intro K k
      simp only [pickL, nthO_succ, nthO_zero]
      repeat first | simp -dsimp -implicitDefEqProofs | refine Pc.mk (c115 hr6) ?_
      exact k) ?_
     obtain rfl := oi H; exact AWP_ret ⟨_, rfl, 4, by simp [encL_nil]⟩
    ·replace H := ifF C3 H
     refine AWP_skip (Jn hK2 ?_)
     refine S0 tok [] [6] ?_
     obtain rfl := oi H; exact AWP_ret ⟨_, rfl, 4, by simp [encL_nil]⟩
   replace H := hj1
   refine S0 tok [] [2, 3, 13, 28] ?_
   refine Cd (fun C4 => ?_) fun C4 => ?_
   ·replace H := ifT C4 H
    refine AWP_skip ?_
    show K3 _ _
    refine kE [2, 3, 28] fun a' ha => ?_
    obtain rfl := oi H
    refine hJ1 _ _ ?_; rw [ha]
    exact Rf ⟨N0 + 13, (by omega), rfl, rfl⟩
   ·replace H := ifF C4 H
    refine S0 tok [] [2, 3, 13, 28] ?_
    refine Cd (fun C5 => ?_) fun C5 => ?_
    ·replace H := ifT C5 H
     refine AWP_skip ?_
     show K3 _ _
     refine kE [2, 3, 28] fun a' ha => ?_
     obtain rfl := oi H
     refine hJ1 _ _ ?_; rw [ha]
     exact Rf ⟨N0 + 15, (by omega), rfl, rfl⟩
    ·replace H := ifF C5 H
     refine Rt0 tok [] [2, 3, 28] fun a ha => ?_
     obtain rfl := oi H
     refine hJ1 _ _ ?_; rw [ha]
     exact Rf ⟨N0 + 17, (by omega), rfl, rfl⟩
theorem c114 {p0 : Int} {p1 : Int} {r : Int} (H : i_SignExtend p0 p1 = some r) : APure Tryz.prog G 114 [.int .i64 p0, .int .i64 p1] (.int .i64 r) := by
 refine APure_fn (fun N0 => ?_) (by simp)
 refine fnK tok Tryz.func114 Tryz.ntmps114 Tryz.results114 ?_
 simp only [argsA, Nat.reduceAdd, hp_next]
 unfold i_SignExtend at H
 refine S0 tok [] [0, 1] ?_
 refine AWP_sq [0, 1] fun K1 hK1 => ?_
 obtain ⟨g1, hg1, H⟩ := bindE H
 obtain ⟨g2, hg2, H⟩ := bindE H
 obtain ⟨g4, hg4, H⟩ := bindE H
 refine Sx tok [] [0, 1, 20] (X := [(0, .int .i64 p0), (1, .int .i64 p1), (20, .bool g4)]) (Y := hp E0 [] (N0 + 17)) (by
  intro K k
  simp -dsimp -implicitDefEqProofs
  cases hbg1 : ilt p1 1
  ·replace hg1 := ifF hbg1 hg1
   replace hg1 := Option.some.inj hg1; subst hg1
   try simp -dsimp -implicitDefEqProofs [hbg1]
   cases hbg2 : (igt p1 32)
   ·replace hg2 := ifF hbg2 hg2
    replace hg2 := Option.some.inj hg2; subst hg2
    try simp -dsimp -implicitDefEqProofs [hbg1, hbg2]
    cases hbg4 : (ilt p0 0)
    ·replace hg4 := ifF hbg4 hg4
     obtain ⟨v3, hv3, hg4⟩ := bindE hg4
     replace hg4 := Option.some.inj hg4; subst hg4
     try simp -dsimp -implicitDefEqProofs [hbg1, hbg2, hbg4, hv3]
     exact k
    ·replace hg4 := ifT hbg4 hg4
     replace hg4 := Option.some.inj hg4; subst hg4
     try simp -dsimp -implicitDefEqProofs [hbg1, hbg2, hbg4]
     exact k
   ·replace hg2 := ifT hbg2 hg2
    replace hg2 := Option.some.inj hg2; subst hg2
    try simp -dsimp -implicitDefEqProofs [hbg1, hbg2]
    replace hg4 := ifT rfl hg4
    replace hg4 := Option.some.inj hg4; subst hg4
    try simp -dsimp -implicitDefEqProofs [hbg1, hbg2]
    exact k
  ·replace hg1 := ifT hbg1 hg1
   replace hg1 := Option.some.inj hg1; subst hg1
   try simp -dsimp -implicitDefEqProofs [hbg1]
   replace hg2 := ifT rfl hg2
   replace hg2 := Option.some.inj hg2; subst hg2
   try simp -dsimp -implicitDefEqProofs [hbg1]
   replace hg4 := ifT rfl hg4
   replace hg4 := Option.some.inj hg4; subst hg4
   try simp -dsimp -implicitDefEqProofs [hbg1]
   exact k) ?_
 refine Cd (fun C1 => ?_) fun C1 => ?_
 ·replace H := ifT C1 H
  refine S0 tok [] [4] ?_
  obtain rfl := oi H; exact AWP_ret ⟨_, rfl, 4, by simp [encL_nil]⟩
 ·replace H := ifF C1 H
  refine AWP_skip (Jn hK1 ?_)
  refine AWP_sq [0] fun K2 hK2 => ?_
  obtain ⟨v5, hv5, H⟩ := bindE H
  refine Sx tok [] [0, 1, 25] (by intro K k; simp -dsimp -implicitDefEqProofs [hv5]; exact k) ?_
  refine Cd (fun C2 => ?_) fun C2 => ?_
  ·replace H := ifT C2 H
   obtain ⟨v6, hv6, H⟩ := bindE H
   refine Sx tok [] [4] (by intro K k; simp -dsimp -implicitDefEqProofs [hv6]; exact k) ?_
   obtain rfl := oi H; exact AWP_ret ⟨_, rfl, 4, by simp [encL_nil]⟩
  ·replace H := ifF C2 H
   refine AWP_skip (Jn hK2 ?_)
   refine S0 tok [] [4] ?_
   obtain rfl := oi H; exact AWP_ret ⟨_, rfl, 4, by simp [encL_nil]⟩
theorem c111 {p0 : Int} {p1 : Int} {r : gInstr} (H : i_decodeAs p0 p1 = some r) : APure Tryz.prog G 111 [.int .i64 p0, .int .i64 p1] (.agg [.int .i64 r.Op, .int .i64 r.Rd, .int .i64 r.Rs, .int .i64 r.Rt, .int .i64 r.Imm]) := by
 refine APure_fn (fun N0 => ?_) (by simp)
 refine fnK tok Tryz.func111 Tryz.ntmps111 Tryz.results111 ?_
 simp only [argsA, Nat.reduceAdd, hp_next]
 unfold i_decodeAs at H
 refine S0 tok [] [0, 1, 4] ?_
 obtain ⟨r1, hr1, H⟩ := bindE H
 obtain ⟨r2, hr2, H⟩ := bindE H
 obtain ⟨r3, hr3, H⟩ := bindE H
 refine Sx tok [] [0, 1, 4, 5, 6, 7] (by intro K k; (repeat first | simp -dsimp -implicitDefEqProofs | refine (c115 hr1).app ?_ | refine (c115 hr2).app ?_ | refine (c115 hr3).app ?_); exact k) ?_
 refine AWP_sq [0, 4] fun K1 hK1 => ?_
 obtain ⟨r4, hr4, H⟩ := bindE H
 refine Sx tok [] [0, 1, 4, 5, 6, 7, 17] (by intro K k; (repeat first | simp -dsimp -implicitDefEqProofs | refine (c139 hr4).app ?_); exact k) ?_
 refine AWP_block (AWP_thenB ?_)
 refine S0 tok [] [0, 1, 4, 5, 6, 7, 17, 18] ?_
 refine Cd (fun C1 => ?_) fun C1 => ?_
 ·replace H := ifT C1 H
  refine S0 tok [] [4] ?_
  obtain rfl := oi H
  refine Kp [4] ?_
  refine AWP_ret ?_
  exact ⟨[.agg [.int .i64 p0, .int .i64 r1, .int .i64 r2, .int .i64 r3, .int .i64 0]], by simp, 4, by simp [encL_nil]⟩
 ·replace H := ifF C1 H
  refine S0 tok [] [0, 1, 4, 5, 6, 7, 17, 25] ?_
  refine Cd (fun C2 => ?_) fun C2 => ?_
  ·replace H := ifT C2 H
   obtain ⟨r5, hr5, H⟩ := bindE H
   obtain ⟨r6, hr6, H⟩ := bindE H
   refine Sx tok [] [4] (by intro K k; (repeat first | simp -dsimp -implicitDefEqProofs | refine (c115 hr5).app ?_ | refine (c114 hr6).app ?_); exact k) ?_
   obtain rfl := oi H
   refine Kp [4] ?_
   refine AWP_ret ?_
   exact ⟨[.agg [.int .i64 p0, .int .i64 r1, .int .i64 r2, .int .i64 0, .int .i64 r6]], by simp, 4, by simp [encL_nil]⟩
  ·replace H := ifF C2 H
   refine S0 tok [] [0, 1, 4, 5, 6, 7, 17, 34] ?_
   refine Cd (fun C3 => ?_) fun C3 => ?_
   ·replace H := ifT C3 H
    obtain ⟨r7, hr7, H⟩ := bindE H
    obtain ⟨v8, hv8, H⟩ := bindE H
    obtain ⟨r9, hr9, H⟩ := bindE H
    refine Sx tok [] [4] (by intro K k; (repeat first | simp -dsimp -implicitDefEqProofs [hv8] | refine (c115 hr7).app ?_ | refine (c114 hr9).app ?_); exact k) ?_
    obtain rfl := oi H
    refine Kp [4] ?_
    refine AWP_ret ?_
    exact ⟨[.agg [.int .i64 p0, .int .i64 0, .int .i64 r2, .int .i64 r3, .int .i64 r9]], by simp, 4, by simp [encL_nil]⟩
   ·replace H := ifF C3 H
    refine S0 tok [] [0, 1, 4, 5, 6, 7, 17, 46] ?_
    refine Cd (fun C4 => ?_) fun C4 => ?_
    ·replace H := ifT C4 H
     obtain ⟨r10, hr10, H⟩ := bindE H
     obtain ⟨v11, hv11, H⟩ := bindE H
     obtain ⟨r12, hr12, H⟩ := bindE H
     obtain ⟨v13, hv13, H⟩ := bindE H
     obtain ⟨r14, hr14, H⟩ := bindE H
     obtain ⟨v15, hv15, H⟩ := bindE H
     obtain ⟨r16, hr16, H⟩ := bindE H
     obtain ⟨v17, hv17, H⟩ := bindE H
     refine Sx tok [] [0, 4, 6, 7, 8] (by intro K k; (repeat first | simp -dsimp -implicitDefEqProofs [hv11, hv13, hv15, hv17] | refine (c115 hr10).app ?_ | refine (c115 hr12).app ?_ | refine (c115 hr14).app ?_ | refine (c115 hr16).app ?_); exact k) ?_
     obtain ⟨r18, hr18, H⟩ := bindE H
     refine Sx tok [] [4] (by intro K k; (repeat first | simp -dsimp -implicitDefEqProofs | refine (c114 hr18).app ?_); exact k) ?_
     obtain rfl := oi H
     refine Kp [4] ?_
     refine AWP_ret ?_
     exact ⟨[.agg [.int .i64 p0, .int .i64 0, .int .i64 r2, .int .i64 r3, .int .i64 r18]], by simp, 4, by simp [encL_nil]⟩
    ·replace H := ifF C4 H
     refine S0 tok [] [0, 1, 4, 5, 17, 69] ?_
     refine Cd (fun C5 => ?_) fun C5 => ?_
     ·replace H := ifT C5 H
      obtain ⟨r19, hr19, H⟩ := bindE H
      refine Sx tok [] [4] (by intro K k; (repeat first | simp -dsimp -implicitDefEqProofs | refine (c115 hr19).app ?_); exact k) ?_
      obtain rfl := oi H
      refine Kp [4] ?_
      refine AWP_ret ?_
      exact ⟨[.agg [.int .i64 p0, .int .i64 r1, .int .i64 0, .int .i64 0, .int .i64 r19]], by simp, 4, by simp [encL_nil]⟩
     ·replace H := ifF C5 H
      refine S0 tok [] [0, 1, 4, 5, 76] ?_
      refine Cd (fun C6 => ?_) fun C6 => ?_
      ·replace H := ifT C6 H
       obtain ⟨r20, hr20, H⟩ := bindE H
       obtain ⟨v21, hv21, H⟩ := bindE H
       obtain ⟨r22, hr22, H⟩ := bindE H
       obtain ⟨v23, hv23, H⟩ := bindE H
       obtain ⟨r24, hr24, H⟩ := bindE H
       obtain ⟨v25, hv25, H⟩ := bindE H
       obtain ⟨r26, hr26, H⟩ := bindE H
       obtain ⟨v27, hv27, H⟩ := bindE H
       refine Sx tok [] [0, 4, 5, 9] (by intro K k; (repeat first | simp -dsimp -implicitDefEqProofs [hv21, hv23, hv25, hv27] | refine (c115 hr20).app ?_ | refine (c115 hr22).app ?_ | refine (c115 hr24).app ?_ | refine (c115 hr26).app ?_); exact k) ?_
       obtain ⟨r28, hr28, H⟩ := bindE H
       refine Sx tok [] [4] (by intro K k; (repeat first | simp -dsimp -implicitDefEqProofs | refine (c114 hr28).app ?_); exact k) ?_
       obtain rfl := oi H
       refine Kp [4] ?_
       refine AWP_ret ?_
       exact ⟨[.agg [.int .i64 p0, .int .i64 r1, .int .i64 0, .int .i64 0, .int .i64 r28]], by simp, 4, by simp [encL_nil]⟩
      ·replace H := ifF C6 H
       refine AWP_skip (Jn hK1 ?_)
       refine S0 tok [] [4] ?_
       obtain rfl := oi H
       refine Kp [4] ?_
       refine AWP_ret ?_
       exact ⟨[.agg [.int .i64 p0, .int .i64 0, .int .i64 0, .int .i64 0, .int .i64 0]], by simp, 4, by simp [encL_nil]⟩
theorem c159 {p0 : Int} {r : Bool} (H : i_isMachineReg p0 = some r) : APure Tryz.prog G 159 [.int .i64 p0] (.bool r) := by
 refine APure_fn (fun N0 => ?_) (by simp)
 refine fnK tok Tryz.func159 Tryz.ntmps159 Tryz.results159 ?_
 simp only [argsA, Nat.reduceAdd, hp_next]
 unfold i_isMachineReg at H
 refine S0 tok [] [0] ?_
 obtain ⟨g1, hg1, H⟩ := bindE H
 refine Sx tok [] [2] (X := [(2, .bool g1)]) (Y := hp E0 [] (N0 + 8)) (by
  intro K k
  simp -dsimp -implicitDefEqProofs
  cases hbg1 : ige p0 0
  ·replace hg1 := ifF hbg1 hg1
   replace hg1 := Option.some.inj hg1; subst hg1
   try simp -dsimp -implicitDefEqProofs [hbg1]
   exact k
  ·replace hg1 := ifT hbg1 hg1
   replace hg1 := Option.some.inj hg1; subst hg1
   try simp -dsimp -implicitDefEqProofs [hbg1]
   exact k) ?_
 obtain rfl := oi H; exact AWP_ret ⟨_, rfl, 4, by simp [encL_nil]⟩
theorem c140 {p0 : gInstr} {r : Bool} (H : i_InstrValid p0 = some r) : APure Tryz.prog G 140 [.agg [.int .i64 p0.Op, .int .i64 p0.Rd, .int .i64 p0.Rs, .int .i64 p0.Rt, .int .i64 p0.Imm]] (.bool r) := by
 refine APure_fn (fun N0 => ?_) (by simp)
 refine fnK tok Tryz.func140 Tryz.ntmps140 Tryz.results140 ?_
 simp only [argsA, Nat.reduceAdd, hp_next]
 unfold i_InstrValid at H
 refine S0 tok [0] [1] ?_
 obtain ⟨r1, hr1, H⟩ := bindE H
 obtain ⟨r2, hr2, H⟩ := bindE H
 obtain ⟨r3, hr3, H⟩ := bindE H
 refine Sd tok tokM [] [] [0, 1, 2, 3, 4, 5, 6, 7, 8, 9, 10, 11] [1, 3, 4, 5] (by
  intro K k
  simp only [pickL, nthO_succ, nthO_zero]
  repeat first | simp -dsimp -implicitDefEqProofs | refine Pc.mk (c159 hr1) ?_ | refine Pc.mk (c159 hr2) ?_ | refine Pc.mk (c159 hr3) ?_
  exact k) ?_
 obtain ⟨g4, hg4, H⟩ := bindE H
 refine Sx tok [] [1, 3, 4, 5, 6] (X := [(1, .fptr [.int .i64 p0.Op, .int .i64 p0.Rd, .int .i64 p0.Rs, .int .i64 p0.Rt, .int .i64 p0.Imm] 0), (3, .bool r1), (4, .bool r2), (5, .bool r3), (6, .bool g4)]) (Y := hp E0 [] (N0 + 23)) (by
  intro K k
  simp -dsimp -implicitDefEqProofs
  cases hbg4 : ige p0.Imm (-2048)
  ·replace hg4 := ifF hbg4 hg4
   replace hg4 := Option.some.inj hg4; subst hg4
   try simp -dsimp -implicitDefEqProofs [hbg4]
   exact k
  ·replace hg4 := ifT hbg4 hg4
   replace hg4 := Option.some.inj hg4; subst hg4
   try simp -dsimp -implicitDefEqProofs [hbg4]
   exact k) ?_
 refine AWP_sq [] fun K1 hK1 => ?_
 obtain ⟨r5, hr5, H⟩ := bindE H
 refine Sx tok [] [1, 3, 4, 5, 6, 26] (by intro K k; (repeat first | simp -dsimp -implicitDefEqProofs | refine (c139 hr5).app ?_); exact k) ?_
 refine AWP_block (AWP_thenB ?_)
 refine S0 tok [] [1, 3, 4, 5, 6, 26, 27] ?_
 refine Cd (fun C1 => ?_) fun C1 => ?_
 ·replace H := ifT C1 H
  obtain ⟨g6, hg6, H⟩ := bindE H
  obtain ⟨g7, hg7, H⟩ := bindE H
  obtain ⟨g8, hg8, H⟩ := bindE H
  refine Sx tok [] [2] (X := [(2, .bool g8)]) (Y := hp E0 [] (N0 + 41)) (by
   intro K k
   simp -dsimp -implicitDefEqProofs
   cases hbg6 : r1
   ·replace hg6 := ifF hbg6 hg6
    replace hg6 := Option.some.inj hg6; subst hg6
    try simp -dsimp -implicitDefEqProofs [hbg6]
    replace hg7 := ifF rfl hg7
    replace hg7 := Option.some.inj hg7; subst hg7
    try simp -dsimp -implicitDefEqProofs [hbg6]
    replace hg8 := ifF rfl hg8
    replace hg8 := Option.some.inj hg8; subst hg8
    try simp -dsimp -implicitDefEqProofs [hbg6]
    exact k
   ·replace hg6 := ifT hbg6 hg6
    replace hg6 := Option.some.inj hg6; subst hg6
    try simp -dsimp -implicitDefEqProofs [hbg6]
    cases hbg7 : r2
    ·replace hg7 := ifF hbg7 hg7
     replace hg7 := Option.some.inj hg7; subst hg7
     try simp -dsimp -implicitDefEqProofs [hbg6, hbg7]
     replace hg8 := ifF rfl hg8
     replace hg8 := Option.some.inj hg8; subst hg8
     try simp -dsimp -implicitDefEqProofs [hbg6, hbg7]
     exact k
    ·replace hg7 := ifT hbg7 hg7
     replace hg7 := Option.some.inj hg7; subst hg7
     try simp -dsimp -implicitDefEqProofs [hbg6, hbg7]
     cases hbg8 : r3
     ·replace hg8 := ifF hbg8 hg8
      replace hg8 := Option.some.inj hg8; subst hg8
      try simp -dsimp -implicitDefEqProofs [hbg6, hbg7, hbg8]
      exact k
     ·replace hg8 := ifT hbg8 hg8
      replace hg8 := Option.some.inj hg8; subst hg8
      try simp -dsimp -implicitDefEqProofs [hbg6, hbg7, hbg8]
      exact k) ?_
  obtain rfl := oi H; exact AWP_ret ⟨_, rfl, 4, by simp [encL_nil]⟩
 ·replace H := ifF C1 H
  refine S0 tok [] [1, 3, 4, 5, 6, 26, 41] ?_
  refine Cd (fun C2 => ?_) fun C2 => ?_
  ·replace H := ifT C2 H
   obtain ⟨g9, hg9, H⟩ := bindE H
   obtain ⟨g10, hg10, H⟩ := bindE H
   obtain ⟨g11, hg11, H⟩ := bindE H
   refine Sx tok [] [2] (X := [(2, .bool g11)]) (Y := hp E0 [] (N0 + 43)) (by
    intro K k
    simp -dsimp -implicitDefEqProofs
    cases hbg9 : r1
    ·replace hg9 := ifF hbg9 hg9
     replace hg9 := Option.some.inj hg9; subst hg9
     try simp -dsimp -implicitDefEqProofs [hbg9]
     replace hg10 := ifF rfl hg10
     replace hg10 := Option.some.inj hg10; subst hg10
     try simp -dsimp -implicitDefEqProofs [hbg9]
     replace hg11 := ifF rfl hg11
     replace hg11 := Option.some.inj hg11; subst hg11
     try simp -dsimp -implicitDefEqProofs [hbg9]
     exact k
    ·replace hg9 := ifT hbg9 hg9
     replace hg9 := Option.some.inj hg9; subst hg9
     try simp -dsimp -implicitDefEqProofs [hbg9]
     cases hbg10 : r2
     ·replace hg10 := ifF hbg10 hg10
      replace hg10 := Option.some.inj hg10; subst hg10
      try simp -dsimp -implicitDefEqProofs [hbg9, hbg10]
      replace hg11 := ifF rfl hg11
      replace hg11 := Option.some.inj hg11; subst hg11
      try simp -dsimp -implicitDefEqProofs [hbg9, hbg10]
      exact k
     ·replace hg10 := ifT hbg10 hg10
      replace hg10 := Option.some.inj hg10; subst hg10
      try simp -dsimp -implicitDefEqProofs [hbg9, hbg10]
      cases hbg11 : (ieq p0.Rt 0)
      ·replace hg11 := ifF hbg11 hg11
       replace hg11 := Option.some.inj hg11; subst hg11
       try simp -dsimp -implicitDefEqProofs [hbg9, hbg10, hbg11]
       exact k
      ·replace hg11 := ifT hbg11 hg11
       replace hg11 := Option.some.inj hg11; subst hg11
       try simp -dsimp -implicitDefEqProofs [hbg9, hbg10, hbg11]
       exact k) ?_
   obtain rfl := oi H; exact AWP_ret ⟨_, rfl, 4, by simp [encL_nil]⟩
  ·replace H := ifF C2 H
   refine S0 tok [] [1, 3, 4, 5, 6, 26, 55] ?_
   refine Cd (fun C3 => ?_) fun C3 => ?_
   ·replace H := ifT C3 H
    obtain ⟨g12, hg12, H⟩ := bindE H
    obtain ⟨g13, hg13, H⟩ := bindE H
    obtain ⟨g14, hg14, H⟩ := bindE H
    refine Sx tok [] [2] (X := [(2, .bool g14)]) (Y := hp E0 [] (N0 + 45)) (by
     intro K k
     simp -dsimp -implicitDefEqProofs
     cases hbg12 : ieq p0.Rd 0
     ·replace hg12 := ifF hbg12 hg12
      replace hg12 := Option.some.inj hg12; subst hg12
      try simp -dsimp -implicitDefEqProofs [hbg12]
      replace hg13 := ifF rfl hg13
      replace hg13 := Option.some.inj hg13; subst hg13
      try simp -dsimp -implicitDefEqProofs [hbg12]
      replace hg14 := ifF rfl hg14
      replace hg14 := Option.some.inj hg14; subst hg14
      try simp -dsimp -implicitDefEqProofs [hbg12]
      exact k
     ·replace hg12 := ifT hbg12 hg12
      replace hg12 := Option.some.inj hg12; subst hg12
      try simp -dsimp -implicitDefEqProofs [hbg12]
      cases hbg13 : r2
      ·replace hg13 := ifF hbg13 hg13
       replace hg13 := Option.some.inj hg13; subst hg13
       try simp -dsimp -implicitDefEqProofs [hbg12, hbg13]
       replace hg14 := ifF rfl hg14
       replace hg14 := Option.some.inj hg14; subst hg14
       try simp -dsimp -implicitDefEqProofs [hbg12, hbg13]
       exact k
      ·replace hg13 := ifT hbg13 hg13
       replace hg13 := Option.some.inj hg13; subst hg13
       try simp -dsimp -implicitDefEqProofs [hbg12, hbg13]
       cases hbg14 : r3
       ·replace hg14 := ifF hbg14 hg14
        replace hg14 := Option.some.inj hg14; subst hg14
        try simp -dsimp -implicitDefEqProofs [hbg12, hbg13, hbg14]
        exact k
       ·replace hg14 := ifT hbg14 hg14
        replace hg14 := Option.some.inj hg14; subst hg14
        try simp -dsimp -implicitDefEqProofs [hbg12, hbg13, hbg14]
        exact k) ?_
    obtain rfl := oi H; exact AWP_ret ⟨_, rfl, 4, by simp [encL_nil]⟩
   ·replace H := ifF C3 H
    refine S0 tok [] [1, 3, 4, 5, 26, 69] ?_
    refine Cd (fun C4 => ?_) fun C4 => ?_
    ·replace H := ifT C4 H
     obtain ⟨g15, hg15, H⟩ := bindE H
     obtain ⟨g16, hg16, H⟩ := bindE H
     obtain ⟨g17, hg17, H⟩ := bindE H
     obtain ⟨g18, hg18, H⟩ := bindE H
     obtain ⟨g20, hg20, H⟩ := bindE H
     refine Sx tok [] [2] (X := [(2, .bool g20)]) (Y := hp E0 [] (N0 + 60)) (by
      intro K k
      simp -dsimp -implicitDefEqProofs
      cases hbg15 : ieq p0.Rd 0
      ·replace hg15 := ifF hbg15 hg15
       replace hg15 := Option.some.inj hg15; subst hg15
       try simp -dsimp -implicitDefEqProofs [hbg15]
       replace hg16 := ifF rfl hg16
       replace hg16 := Option.some.inj hg16; subst hg16
       try simp -dsimp -implicitDefEqProofs [hbg15]
       replace hg17 := ifF rfl hg17
       replace hg17 := Option.some.inj hg17; subst hg17
       try simp -dsimp -implicitDefEqProofs [hbg15]
       replace hg18 := ifF rfl hg18
       replace hg18 := Option.some.inj hg18; subst hg18
       try simp -dsimp -implicitDefEqProofs [hbg15]
       replace hg20 := ifF rfl hg20
       replace hg20 := Option.some.inj hg20; subst hg20
       try simp -dsimp -implicitDefEqProofs [hbg15]
       exact k
      ·replace hg15 := ifT hbg15 hg15
       replace hg15 := Option.some.inj hg15; subst hg15
       try simp -dsimp -implicitDefEqProofs [hbg15]
       cases hbg16 : r2
       ·replace hg16 := ifF hbg16 hg16
        replace hg16 := Option.some.inj hg16; subst hg16
        try simp -dsimp -implicitDefEqProofs [hbg15, hbg16]
        replace hg17 := ifF rfl hg17
        replace hg17 := Option.some.inj hg17; subst hg17
        try simp -dsimp -implicitDefEqProofs [hbg15, hbg16]
        replace hg18 := ifF rfl hg18
        replace hg18 := Option.some.inj hg18; subst hg18
        try simp -dsimp -implicitDefEqProofs [hbg15, hbg16]
        replace hg20 := ifF rfl hg20
        replace hg20 := Option.some.inj hg20; subst hg20
        try simp -dsimp -implicitDefEqProofs [hbg15, hbg16]
        exact k
       ·replace hg16 := ifT hbg16 hg16
        replace hg16 := Option.some.inj hg16; subst hg16
        try simp -dsimp -implicitDefEqProofs [hbg15, hbg16]
        cases hbg17 : r3
        ·replace hg17 := ifF hbg17 hg17
         replace hg17 := Option.some.inj hg17; subst hg17
         try simp -dsimp -implicitDefEqProofs [hbg15, hbg16, hbg17]
         replace hg18 := ifF rfl hg18
         replace hg18 := Option.some.inj hg18; subst hg18
         try simp -dsimp -implicitDefEqProofs [hbg15, hbg16, hbg17]
         replace hg20 := ifF rfl hg20
         replace hg20 := Option.some.inj hg20; subst hg20
         try simp -dsimp -implicitDefEqProofs [hbg15, hbg16, hbg17]
         exact k
        ·replace hg17 := ifT hbg17 hg17
         replace hg17 := Option.some.inj hg17; subst hg17
         try simp -dsimp -implicitDefEqProofs [hbg15, hbg16, hbg17]
         cases hbg18 : (ige p0.Imm (-4096))
         ·replace hg18 := ifF hbg18 hg18
          replace hg18 := Option.some.inj hg18; subst hg18
          try simp -dsimp -implicitDefEqProofs [hbg15, hbg16, hbg17, hbg18]
          replace hg20 := ifF rfl hg20
          replace hg20 := Option.some.inj hg20; subst hg20
          try simp -dsimp -implicitDefEqProofs [hbg15, hbg16, hbg17, hbg18]
          exact k
         ·replace hg18 := ifT hbg18 hg18
          replace hg18 := Option.some.inj hg18; subst hg18
          try simp -dsimp -implicitDefEqProofs [hbg15, hbg16, hbg17, hbg18]
          cases hbg20 : (ile p0.Imm 4094)
          ·replace hg20 := ifF hbg20 hg20
           replace hg20 := Option.some.inj hg20; subst hg20
           try simp -dsimp -implicitDefEqProofs [hbg15, hbg16, hbg17, hbg18, hbg20]
           exact k
          ·replace hg20 := ifT hbg20 hg20
           obtain ⟨v19, hv19, hg20⟩ := bindE hg20
           replace hg20 := Option.some.inj hg20; subst hg20
           try simp -dsimp -implicitDefEqProofs [hbg15, hbg16, hbg17, hbg18, hbg20, hv19]
           exact k) ?_
     obtain rfl := oi H; exact AWP_ret ⟨_, rfl, 4, by simp [encL_nil]⟩
    ·replace H := ifF C4 H
     refine S0 tok [] [1, 3, 26, 96] ?_
     refine Cd (fun C5 => ?_) fun C5 => ?_
     ·replace H := ifT C5 H
      obtain ⟨g21, hg21, H⟩ := bindE H
      obtain ⟨g22, hg22, H⟩ := bindE H
      obtain ⟨g23, hg23, H⟩ := bindE H
      obtain ⟨g24, hg24, H⟩ := bindE H
      refine Sx tok [] [2] (X := [(2, .bool g24)]) (Y := hp E0 [] (N0 + 58)) (by
       intro K k
       simp -dsimp -implicitDefEqProofs
       cases hbg21 : r1
       ·replace hg21 := ifF hbg21 hg21
        replace hg21 := Option.some.inj hg21; subst hg21
        try simp -dsimp -implicitDefEqProofs [hbg21]
        replace hg22 := ifF rfl hg22
        replace hg22 := Option.some.inj hg22; subst hg22
        try simp -dsimp -implicitDefEqProofs [hbg21]
        replace hg23 := ifF rfl hg23
        replace hg23 := Option.some.inj hg23; subst hg23
        try simp -dsimp -implicitDefEqProofs [hbg21]
        replace hg24 := ifF rfl hg24
        replace hg24 := Option.some.inj hg24; subst hg24
        try simp -dsimp -implicitDefEqProofs [hbg21]
        exact k
       ·replace hg21 := ifT hbg21 hg21
        replace hg21 := Option.some.inj hg21; subst hg21
        try simp -dsimp -implicitDefEqProofs [hbg21]
        cases hbg22 : (ieq p0.Rs 0)
        ·replace hg22 := ifF hbg22 hg22
         replace hg22 := Option.some.inj hg22; subst hg22
         try simp -dsimp -implicitDefEqProofs [hbg21, hbg22]
         replace hg23 := ifF rfl hg23
         replace hg23 := Option.some.inj hg23; subst hg23
         try simp -dsimp -implicitDefEqProofs [hbg21, hbg22]
         replace hg24 := ifF rfl hg24
         replace hg24 := Option.some.inj hg24; subst hg24
         try simp -dsimp -implicitDefEqProofs [hbg21, hbg22]
         exact k
        ·replace hg22 := ifT hbg22 hg22
         replace hg22 := Option.some.inj hg22; subst hg22
         try simp -dsimp -implicitDefEqProofs [hbg21, hbg22]
         cases hbg23 : (ieq p0.Rt 0)
         ·replace hg23 := ifF hbg23 hg23
          replace hg23 := Option.some.inj hg23; subst hg23
          try simp -dsimp -implicitDefEqProofs [hbg21, hbg22, hbg23]
          replace hg24 := ifF rfl hg24
          replace hg24 := Option.some.inj hg24; subst hg24
          try simp -dsimp -implicitDefEqProofs [hbg21, hbg22, hbg23]
          exact k
         ·replace hg23 := ifT hbg23 hg23
          replace hg23 := Option.some.inj hg23; subst hg23
          try simp -dsimp -implicitDefEqProofs [hbg21, hbg22, hbg23]
          cases hbg24 : (ige p0.Imm 0)
          ·replace hg24 := ifF hbg24 hg24
           replace hg24 := Option.some.inj hg24; subst hg24
           try simp -dsimp -implicitDefEqProofs [hbg21, hbg22, hbg23, hbg24]
           exact k
          ·replace hg24 := ifT hbg24 hg24
           replace hg24 := Option.some.inj hg24; subst hg24
           try simp -dsimp -implicitDefEqProofs [hbg21, hbg22, hbg23, hbg24]
           exact k) ?_
      obtain rfl := oi H; exact AWP_ret ⟨_, rfl, 4, by simp [encL_nil]⟩
     ·replace H := ifF C5 H
      refine S0 tok [] [1, 3, 26, 119] ?_
      refine Cd (fun C6 => ?_) fun C6 => ?_
      ·replace H := ifT C6 H
       obtain ⟨g25, hg25, H⟩ := bindE H
       obtain ⟨g26, hg26, H⟩ := bindE H
       obtain ⟨g27, hg27, H⟩ := bindE H
       obtain ⟨g28, hg28, H⟩ := bindE H
       obtain ⟨g30, hg30, H⟩ := bindE H
       refine Sx tok [] [2] (X := [(2, .bool g30)]) (Y := hp E0 [] (N0 + 66)) (by
        intro K k
        simp -dsimp -implicitDefEqProofs
        cases hbg25 : r1
        ·replace hg25 := ifF hbg25 hg25
         replace hg25 := Option.some.inj hg25; subst hg25
         try simp -dsimp -implicitDefEqProofs [hbg25]
         replace hg26 := ifF rfl hg26
         replace hg26 := Option.some.inj hg26; subst hg26
         try simp -dsimp -implicitDefEqProofs [hbg25]
         replace hg27 := ifF rfl hg27
         replace hg27 := Option.some.inj hg27; subst hg27
         try simp -dsimp -implicitDefEqProofs [hbg25]
         replace hg28 := ifF rfl hg28
         replace hg28 := Option.some.inj hg28; subst hg28
         try simp -dsimp -implicitDefEqProofs [hbg25]
         replace hg30 := ifF rfl hg30
         replace hg30 := Option.some.inj hg30; subst hg30
         try simp -dsimp -implicitDefEqProofs [hbg25]
         exact k
        ·replace hg25 := ifT hbg25 hg25
         replace hg25 := Option.some.inj hg25; subst hg25
         try simp -dsimp -implicitDefEqProofs [hbg25]
         cases hbg26 : (ieq p0.Rs 0)
         ·replace hg26 := ifF hbg26 hg26
          replace hg26 := Option.some.inj hg26; subst hg26
          try simp -dsimp -implicitDefEqProofs [hbg25, hbg26]
          replace hg27 := ifF rfl hg27
          replace hg27 := Option.some.inj hg27; subst hg27
          try simp -dsimp -implicitDefEqProofs [hbg25, hbg26]
          replace hg28 := ifF rfl hg28
          replace hg28 := Option.some.inj hg28; subst hg28
          try simp -dsimp -implicitDefEqProofs [hbg25, hbg26]
          replace hg30 := ifF rfl hg30
          replace hg30 := Option.some.inj hg30; subst hg30
          try simp -dsimp -implicitDefEqProofs [hbg25, hbg26]
          exact k
         ·replace hg26 := ifT hbg26 hg26
          replace hg26 := Option.some.inj hg26; subst hg26
          try simp -dsimp -implicitDefEqProofs [hbg25, hbg26]
          cases hbg27 : (ieq p0.Rt 0)
          ·replace hg27 := ifF hbg27 hg27
           replace hg27 := Option.some.inj hg27; subst hg27
           try simp -dsimp -implicitDefEqProofs [hbg25, hbg26, hbg27]
           replace hg28 := ifF rfl hg28
           replace hg28 := Option.some.inj hg28; subst hg28
           try simp -dsimp -implicitDefEqProofs [hbg25, hbg26, hbg27]
           replace hg30 := ifF rfl hg30
           replace hg30 := Option.some.inj hg30; subst hg30
           try simp -dsimp -implicitDefEqProofs [hbg25, hbg26, hbg27]
           exact k
          ·replace hg27 := ifT hbg27 hg27
           replace hg27 := Option.some.inj hg27; subst hg27
           try simp -dsimp -implicitDefEqProofs [hbg25, hbg26, hbg27]
           cases hbg28 : (ige p0.Imm (-1048576))
           ·replace hg28 := ifF hbg28 hg28
            replace hg28 := Option.some.inj hg28; subst hg28
            try simp -dsimp -implicitDefEqProofs [hbg25, hbg26, hbg27, hbg28]
            replace hg30 := ifF rfl hg30
            replace hg30 := Option.some.inj hg30; subst hg30
            try simp -dsimp -implicitDefEqProofs [hbg25, hbg26, hbg27, hbg28]
            exact k
           ·replace hg28 := ifT hbg28 hg28
            replace hg28 := Option.some.inj hg28; subst hg28
            try simp -dsimp -implicitDefEqProofs [hbg25, hbg26, hbg27, hbg28]
            cases hbg30 : (ile p0.Imm 1048574)
            ·replace hg30 := ifF hbg30 hg30
             replace hg30 := Option.some.inj hg30; subst hg30
             try simp -dsimp -implicitDefEqProofs [hbg25, hbg26, hbg27, hbg28, hbg30]
             exact k
            ·replace hg30 := ifT hbg30 hg30
             obtain ⟨v29, hv29, hg30⟩ := bindE hg30
             replace hg30 := Option.some.inj hg30; subst hg30
             try simp -dsimp -implicitDefEqProofs [hbg25, hbg26, hbg27, hbg28, hbg30, hv29]
             exact k) ?_
       obtain rfl := oi H; exact AWP_ret ⟨_, rfl, 4, by simp [encL_nil]⟩
      ·replace H := ifF C6 H
       refine S0 tok [] [1, 148] ?_
       refine Cd (fun C7 => ?_) fun C7 => ?_
       ·replace H := ifT C7 H
        refine S0 tok [] [2] ?_
        obtain rfl := oi H; exact AWP_ret ⟨_, rfl, 4, by simp [encL_nil]⟩
       ·replace H := ifF C7 H
        refine AWP_skip (Jn hK1 ?_)
        refine S0 tok [] [2] ?_
        obtain rfl := oi H; exact AWP_ret ⟨_, rfl, 4, by simp [encL_nil]⟩
theorem c141 {p0 : Int} {p1 : Int} {p2 : Int} {pf0 : Int} {r : Int} (H : i_InstrEncode_1 p0 p1 p2 pf0 = some r) : APure Tryz.prog G 141 [.int .i64 p0, .int .i64 p1, .int .i64 p2, .fptr [.int .i64 pf0] 0] (.int .i64 r) := by
 refine APure_fn (fun N0 => ?_) (by simp)
 refine fnK tok Tryz.func141 Tryz.ntmps141 Tryz.results141 ?_
 simp only [argsA, Nat.reduceAdd, hp_next]
 unfold i_InstrEncode_1 at H
 refine S0 tok [] [0, 1, 2, 3] ?_
 obtain ⟨r1, hr1, H⟩ := bindE H
 obtain ⟨v2, hv2, H⟩ := bindE H
 refine Sx tok [] [7] (by intro K k; (repeat first | simp -dsimp -implicitDefEqProofs [hv2] | refine (c115 hr1).app ?_); exact k) ?_
 obtain rfl := oi H; exact AWP_ret ⟨_, rfl, 4, by simp [encL_nil]⟩
theorem c112 {p0 : gInstr} {r : Int × Bool} (H : i_InstrEncode p0 = some r) : APure Tryz.prog G 112 [.agg [.int .i64 p0.Op, .int .i64 p0.Rd, .int .i64 p0.Rs, .int .i64 p0.Rt, .int .i64 p0.Imm]] (.tup [.int .i64 r.1, .bool r.2]) := by
 refine APure_fn (fun N0 => ?_) (by simp)
 refine fnK tok Tryz.func112 Tryz.ntmps112 Tryz.results112 ?_
 simp only [argsA, Nat.reduceAdd, hp_next]
 unfold i_InstrEncode at H
 refine S0 tok [0] [1] ?_
 refine AWP_sq [1] fun K1 hK1 => ?_
 obtain ⟨r1, hr1, H⟩ := bindE H
 refine Sx tok [] [1, 10] (by intro K k; (repeat first | simp -dsimp -implicitDefEqProofs | refine (c140 hr1).app ?_); exact k) ?_
 refine Cd (fun C1 => ?_) fun C1 => ?_
 ·replace H := ifT C1 H
  refine S0 tok [] [2, 3] ?_
  obtain rfl := oi H; exact AWP_ret ⟨_, rfl, 4, by simp [encL_nil]⟩
 ·replace H := ifF C1 H
  refine AWP_skip (Jn hK1 ?_)
  obtain ⟨v2, hv2, H⟩ := bindE H
  refine Sx tok [] [1, 4] (by intro K k; simp -dsimp -implicitDefEqProofs [gx134 hv2]; exact k) ?_
  obtain ⟨r3, hr3, H⟩ := bindE H
  refine Sx tok [] [1, 4, 5] (by intro K k; (repeat first | simp -dsimp -implicitDefEqProofs | refine (c73 hr3).app ?_); exact k) ?_
  refine S0 tok [] [1, 4, 6] ?_
  obtain ⟨v4, hv4, H⟩ := bindE H
  obtain ⟨v5, hv5, H⟩ := bindE H
  obtain ⟨v6, hv6, H⟩ := bindE H
  refine Sx tok [] [1, 4, 6, 7] (by intro K k; simp -dsimp -implicitDefEqProofs [hv4, hv5, hv6]; exact k) ?_
  refine AWP_sq [4] fun K2 hK2 => ?_
  obtain ⟨r7, hr7, H⟩ := bindE H
  refine Sx tok [] [1, 4, 6, 7, 36] (by intro K k; (repeat first | simp -dsimp -implicitDefEqProofs | refine (c139 hr7).app ?_); exact k) ?_
  refine AWP_block (AWP_thenB ?_)
  refine S0 tok [] [1, 4, 6, 7, 36, 37] ?_
  refine Cd (fun C2 => ?_) fun C2 => ?_
  ·replace H := ifT C2 H
   obtain ⟨v8, hv8, H⟩ := bindE H
   obtain ⟨v9, hv9, H⟩ := bindE H
   refine Sx tok [] [2, 3] (by intro K k; simp -dsimp -implicitDefEqProofs [hv8, hv9]; exact k) ?_
   obtain rfl := oi H; exact AWP_ret ⟨_, rfl, 4, by simp [encL_nil]⟩
  ·replace H := ifF C2 H
   refine S0 tok [] [1, 4, 6, 7, 36, 48] ?_
   refine Cd (fun C3 => ?_) fun C3 => ?_
   ·replace H := ifT C3 H
    obtain ⟨v10, hv10, H⟩ := bindE H
    obtain ⟨r11, hr11, H⟩ := bindE H
    refine AWP_sd tok tokM [] [1] [0, 2, 4, 5, 6, 1, 3, 7, 8, 9] [2, 3] (fun a σ => a = [(2, .int .i64 (ior .i64 (ior .i64 r11 (ior .i64 (ior .i64 (ior .i64 v4 v5) v6) v2.opcode)) v10)), (3, .bool true)] ∧ σ = hp E0 [(N0 + 11, some ⟨133, 4, [[.str v2.name, .int .i64 v2.opcode, .int .i64 v2.funct3, .int .i64 v2.funct7]]⟩), (N0 + 16, some ⟨3, 1, [[.int .i64 r3]]⟩)] (N0 + 52)) (by decide) (fun K hK => ?_) ?_
    ·simp only [pickL, nthO_succ, nthO_zero]
     simp -dsimp -implicitDefEqProofs [hv10]
     refine (borrow 8 (c141 hr11) (by simp [hv10]) rfl).mono ?_; rintro _ _ ⟨rfl, rfl⟩; try simp -dsimp -implicitDefEqProofs [hv10]
     exact hK _ _ ⟨rfl, rfl⟩
    rintro a σ ⟨rfl, rfl⟩
    obtain rfl := oi H; exact AWP_ret ⟨_, rfl, 4, by simp [encL_nil]⟩
   ·replace H := ifF C3 H
    refine S0 tok [] [1, 4, 6, 7, 36, 58] ?_
    refine Cd (fun C4 => ?_) fun C4 => ?_
    ·replace H := ifT C4 H
     obtain ⟨r12, hr12, H⟩ := bindE H
     obtain ⟨r13, hr13, H⟩ := bindE H
     refine AWP_sr tok [] [2, 3] (fun a σ => a = [(2, .int .i64 (ior .i64 (ior .i64 r12 (ior .i64 (ior .i64 (ior .i64 v4 v5) v6) v2.opcode)) r13)), (3, .bool true)] ∧ σ = hp E0 [(N0 + 11, some ⟨133, 4, [[.str v2.name, .int .i64 v2.opcode, .int .i64 v2.funct3, .int .i64 v2.funct7]]⟩), (N0 + 16, some ⟨3, 1, [[.int .i64 r3]]⟩)] (N0 + 53)) (fun K hK => ?_) ?_
     ·skip
      simp -dsimp -implicitDefEqProofs
      refine (borrow 8 (c141 hr12) (by simp []) rfl).mono ?_; rintro _ _ ⟨rfl, rfl⟩; try simp -dsimp -implicitDefEqProofs
      refine (borrow 8 (c141 hr13) (by simp []) rfl).mono ?_; rintro _ _ ⟨rfl, rfl⟩; try simp -dsimp -implicitDefEqProofs
      exact hK _ _ ⟨rfl, rfl⟩
     rintro a σ ⟨rfl, rfl⟩
     obtain rfl := oi H; exact AWP_ret ⟨_, rfl, 4, by simp [encL_nil]⟩
    ·replace H := ifF C4 H
     refine S0 tok [] [1, 4, 6, 7, 36, 67] ?_
     refine Cd (fun C5 => ?_) fun C5 => ?_
     ·replace H := ifT C5 H
      obtain ⟨r14, hr14, H⟩ := bindE H
      obtain ⟨r15, hr15, H⟩ := bindE H
      obtain ⟨r16, hr16, H⟩ := bindE H
      obtain ⟨r17, hr17, H⟩ := bindE H
      refine AWP_sr tok [] [2, 3] (fun a σ => a = [(2, .int .i64 (ior .i64 (ior .i64 (ior .i64 (ior .i64 r14 r15) (ior .i64 (ior .i64 (ior .i64 v4 v5) v6) v2.opcode)) r16) r17)), (3, .bool true)] ∧ σ = hp E0 [(N0 + 11, some ⟨133, 4, [[.str v2.name, .int .i64 v2.opcode, .int .i64 v2.funct3, .int .i64 v2.funct7]]⟩), (N0 + 16, some ⟨3, 1, [[.int .i64 r3]]⟩)] (N0 + 61)) (fun K hK => ?_) ?_
      ·skip
       simp -dsimp -implicitDefEqProofs
       refine (borrow 8 (c141 hr14) (by simp []) rfl).mono ?_; rintro _ _ ⟨rfl, rfl⟩; try simp -dsimp -implicitDefEqProofs
       refine (borrow 8 (c141 hr15) (by simp []) rfl).mono ?_; rintro _ _ ⟨rfl, rfl⟩; try simp -dsimp -implicitDefEqProofs
       refine (borrow 8 (c141 hr16) (by simp []) rfl).mono ?_; rintro _ _ ⟨rfl, rfl⟩; try simp -dsimp -implicitDefEqProofs
       refine (borrow 8 (c141 hr17) (by simp []) rfl).mono ?_; rintro _ _ ⟨rfl, rfl⟩; try simp -dsimp -implicitDefEqProofs
       exact hK _ _ ⟨rfl, rfl⟩
      rintro a σ ⟨rfl, rfl⟩
      obtain rfl := oi H; exact AWP_ret ⟨_, rfl, 4, by simp [encL_nil]⟩
     ·replace H := ifF C5 H
      refine S0 tok [] [1, 4, 6, 36, 82] ?_
      refine Cd (fun C6 => ?_) fun C6 => ?_
      ·replace H := ifT C6 H
       obtain ⟨v18, hv18, H⟩ := bindE H
       obtain ⟨r19, hr19, H⟩ := bindE H
       refine AWP_sy tok tokM [] [1, 5, 7] [0, 2, 3, 4, 6, 7, 1, 5, 8, 9, 10] [(1, [7])] [2, 3] (fun a σ => a = [(2, .int .i64 (ior .i64 (ior .i64 r19 v18) v2.opcode)), (3, .bool true)] ∧ σ = hp E0 [(N0 + 11, some ⟨133, 4, [[.str v2.name, .int .i64 v2.opcode, .int .i64 v2.funct3, .int .i64 v2.funct7]]⟩), (N0 + 16, some ⟨3, 1, [[.int .i64 r3]]⟩)] (N0 + 59)) (by decide) (fun K hK => ?_) ?_
       ·simp only [pickL, nthO_succ, nthO_zero]
        simp -dsimp -implicitDefEqProofs [hv18]
        refine (borrow 8 (c141 hr19) (by simp [hv18]) rfl).mono ?_; rintro _ _ ⟨rfl, rfl⟩; try simp -dsimp -implicitDefEqProofs [hv18]
        exact hK _ _ ⟨rfl, rfl⟩
       rintro a σ ⟨rfl, rfl⟩
       obtain rfl := oi H; exact AWP_ret ⟨_, rfl, 4, by simp [encL_nil]⟩
      ·replace H := ifF C6 H
       refine S0 tok [] [1, 4, 6, 93] ?_
       refine Cd (fun C7 => ?_) fun C7 => ?_
       ·replace H := ifT C7 H
        obtain ⟨v20, hv20, H⟩ := bindE H
        obtain ⟨r21, hr21, H⟩ := bindE H
        obtain ⟨r22, hr22, H⟩ := bindE H
        obtain ⟨r23, hr23, H⟩ := bindE H
        obtain ⟨r24, hr24, H⟩ := bindE H
        refine AWP_sy tok tokM [] [1, 3, 4, 6, 7, 9, 10, 14, 16] [0, 2, 5, 8, 11, 12, 13, 15, 16, 1, 3, 4, 6, 7, 9, 10, 14, 17, 18, 19] [(1, [16]), (3, [16]), (6, [4, 16]), (9, [4, 7, 16])] [2, 3] (fun a σ => a = [(2, .int .i64 (ior .i64 (ior .i64 (ior .i64 (ior .i64 (ior .i64 r21 r22) r23) r24) v20) v2.opcode)), (3, .bool true)] ∧ σ = hp E0 [(N0 + 11, some ⟨133, 4, [[.str v2.name, .int .i64 v2.opcode, .int .i64 v2.funct3, .int .i64 v2.funct7]]⟩), (N0 + 16, some ⟨3, 1, [[.int .i64 r3]]⟩)] (N0 + 70)) (by decide) (fun K hK => ?_) ?_
        ·simp only [pickL, nthO_succ, nthO_zero]
         simp -dsimp -implicitDefEqProofs [hv20]
         refine (borrow 8 (c141 hr21) (by simp [hv20]) rfl).mono ?_; rintro _ _ ⟨rfl, rfl⟩; try simp -dsimp -implicitDefEqProofs [hv20]
         refine (borrow 8 (c141 hr22) (by simp [hv20]) rfl).mono ?_; rintro _ _ ⟨rfl, rfl⟩; try simp -dsimp -implicitDefEqProofs [hv20]
         refine (borrow 8 (c141 hr23) (by simp [hv20]) rfl).mono ?_; rintro _ _ ⟨rfl, rfl⟩; try simp -dsimp -implicitDefEqProofs [hv20]
         refine (borrow 8 (c141 hr24) (by simp [hv20]) rfl).mono ?_; rintro _ _ ⟨rfl, rfl⟩; try simp -dsimp -implicitDefEqProofs [hv20]
         exact hK _ _ ⟨rfl, rfl⟩
        rintro a σ ⟨rfl, rfl⟩
        obtain rfl := oi H; exact AWP_ret ⟨_, rfl, 4, by simp [encL_nil]⟩
       ·replace H := ifF C7 H
        refine AWP_skip (Jn hK2 ?_)
        refine S0 tok [] [2, 3] ?_
        obtain rfl := oi H; exact AWP_ret ⟨_, rfl, 4, by simp [encL_nil]⟩
theorem c72 {p0 : Int} {r : gInstr × Bool} (H : i_InstrDecode p0 = some r) : APure Tryz.prog G 72 [.int .i64 p0] (.tup [.agg [.int .i64 r.1.Op, .int .i64 r.1.Rd, .int .i64 r.1.Rs, .int .i64 r.1.Rt, .int .i64 r.1.Imm], .bool r.2]) := by
 refine APure_fn (fun N0 => ?_) (by simp)
 refine fnK tok Tryz.func72 Tryz.ntmps72 Tryz.results72 ?_
 simp only [argsA, Nat.reduceAdd, hp_next]
 unfold i_InstrDecode at H
 refine S0 tok [] [0, 2] ?_
 refine AWP_sq [0, 2] fun K1 hK1 => ?_
 obtain ⟨r1, hr1, H⟩ := bindE H
 refine Sx tok [] [0, 2, 10] (by intro K k; (repeat first | simp -dsimp -implicitDefEqProofs | refine (c109 hr1).app ?_); exact k) ?_
 refine Cd (fun C1 => ?_) fun C1 => ?_
 ·replace H := ifT C1 H
  refine S0 tok [] [2, 3] ?_
  obtain rfl := oi H
  refine Kp [2, 3] ?_
  refine AWP_ret ?_
  exact ⟨[.agg [.int .i64 0, .int .i64 0, .int .i64 0, .int .i64 0, .int .i64 0], .bool false], by simp, 4, by simp [encL_nil]⟩
 ·replace H := ifF C1 H
  refine AWP_skip (Jn hK1 ?_)
  refine AWP_sq [2] fun K2 hK2 => ?_
  refine S0 tok [] [0, 2, 4] ?_
  refine AWP_block (AWP_thenB ?_)
  obtain ⟨e1, hse1, H⟩ := bindE H
  refine AWP_lp [0, 2, 4] (fun s a σ => ∃ M1 o1 : Nat, N0 ≤ M1 ∧ N0 ≤ o1 ∧ o1 < M1 ∧ a = [(0, .int .i64 p0), (2, .ptr o1 0 0), (4, .int .i64 s.1)] ∧ σ = hp E0 [(o1, some ⟨103, 5, [[.int .i64 s.2.Op, .int .i64 s.2.Rd, .int .i64 s.2.Rs, .int .i64 s.2.Rt, .int .i64 s.2.Imm]]⟩)] M1) (fun e x a σ => match e with | .inl s => x = .exit 0 ∧ Rc G 40 N0 (fun a σ => ∃ M2 o2 : Nat, N0 ≤ M2 ∧ N0 ≤ o2 ∧ o2 < M2 ∧ a = [(2, .ptr o2 0 0)] ∧ σ = hp E0 [(o2, some ⟨103, 5, [[.int .i64 s.Op, .int .i64 s.Rd, .int .i64 s.Rs, .int .i64 s.Rt, .int .i64 s.Imm]]⟩)] M2) (AAct.keep a [2]) σ | .inr s => x = .ret ∧ ∃ vs, resA T σ a [.cell 2 103, .tmp 3] = some vs ∧ ∃ d, thawA (fun _ => true) σ d (tupA vs) = .tup [.agg [.int .i64 s.1.Op, .int .i64 s.1.Rd, .int .i64 s.1.Rs, .int .i64 s.1.Rt, .int .i64 s.1.Imm], .bool s.2]) hse1 ?_ ?_ ?_
  ·refine Rc.kp [0, 2, 4] [(0, .int .i64 p0), (2, .ptr N0 0 0), (4, .int .i64 1)] rfl ?_
   exact Rf ⟨N0 + 6, N0, (by omega), (by omega), (by omega), rfl, rfl⟩
  ·clear H hse1
   rintro ⟨s2, s3⟩ fl a σ H ⟨M1, o1, fM1_0, fM1_1, fM1_2, rfl, rfl⟩ K3 O3 hK3 hO3
   unfold i_InstrDecode_L1 at H; dsimp only at H
   refine AWP_sq [0, 2, 4] fun K4 hK4 => ?_
   refine S0 tok [] [0, 2, 4, 13] ?_
   refine Cd (fun C2 => ?_) fun C2 => ?_
   ·replace H := ifT C2 H
    refine AWP_skip (Jn hK4 ?_)
    refine AWP_sq [0, 2, 4] fun K5 hK5 => ?_
    refine AWP_block (AWP_thenB ?_)
    refine AWP_sq [0, 2, 4] fun K6 hK6 => ?_
    obtain ⟨v5, hv5, H⟩ := bindE H
    obtain ⟨r6, hr6, H⟩ := bindE H
    refine Sx tok [] [0, 2, 4, 23] (by intro K k; (repeat first | simp -dsimp -implicitDefEqProofs [gx134 hv5] | refine (c110 hr6).app ?_); exact k) ?_
    refine Cd (fun C3 => ?_) fun C3 => ?_
    ·replace H := ifT C3 H
     refine AWP_exit ?_
     show K5 _ _
     refine kE [0, 2, 4] fun a' ha => ?_
     refine hK5 _ _ ?_; rw [ha]
     refine Rc.mk ?_
     refine Rt0 tok [] [0, 2, 4] fun a ha => ?_
     obtain rfl := oi H
     refine hK3 _ _ _ rfl ?_; rw [ha]
     exact Rf ⟨M1 + 13, o1, (by omega), (by omega), (by omega), rfl, rfl⟩
    ·replace H := ifF C3 H
     refine AWP_skip (Jn hK6 ?_)
     obtain ⟨r7, hr7, H⟩ := bindE H
     refine Sx tok [] [0, 2, 4, 5] (by
      intro K k
      have e0 := nQ o1 (M1 + 13)
      repeat first | simp -dsimp -implicitDefEqProofs [e0] | refine (c111 hr7).app ?_
      exact k) ?_
     obtain ⟨r8, hr8, H⟩ := bindE H
     refine Sx tok [] [0, 2, 4, 5, 6, 7] (by
      intro K k
      have e0 := nQ o1 (M1 + 13)
      repeat first | simp -dsimp -implicitDefEqProofs [e0] | refine (c112 hr8).app ?_
      exact k) ?_
     obtain ⟨g9, hg9, H⟩ := bindE H
     refine Sx tok [] [0, 2, 4, 5, 37] (X := [(0, .int .i64 p0), (2, .ptr o1 0 0), (4, .int .i64 s2), (5, .ptr (M1 + 13) 0 0), (37, .bool g9)]) (Y := hp E0 [(o1, some ⟨103, 5, [[.int .i64 s3.Op, .int .i64 s3.Rd, .int .i64 s3.Rs, .int .i64 s3.Rt, .int .i64 s3.Imm]]⟩), (M1 + 13, some ⟨103, 5, [[.int .i64 r7.Op, .int .i64 r7.Rd, .int .i64 r7.Rs, .int .i64 r7.Rt, .int .i64 r7.Imm]]⟩)] (M1 + 28)) (by
      intro K k
      have e0 := nQ o1 (M1 + 13)
      simp -dsimp -implicitDefEqProofs [e0]
      cases hbg9 : r8.2
      ·replace hg9 := ifF hbg9 hg9
       replace hg9 := Option.some.inj hg9; subst hg9
       try simp -dsimp -implicitDefEqProofs [e0, hbg9]
       exact k
      ·replace hg9 := ifT hbg9 hg9
       replace hg9 := Option.some.inj hg9; subst hg9
       try simp -dsimp -implicitDefEqProofs [e0, hbg9]
       exact k) ?_
     refine Cd (fun C4 => ?_) fun C4 => ?_
     ·replace H := ifT C4 H
      refine Sx tok [] [2, 3] (by
       intro K k
       have e0 := nQ o1 (M1 + 13)
       simp -dsimp -implicitDefEqProofs [e0]
       exact k) ?_
      obtain rfl := oi H
      refine Kp [2, 3] ?_
      have z0 := nQ o1 (M1 + 13)
      refine AWP_ret (hO3 _ _ _ _ rfl ⟨rfl, ?_⟩)
      exact ⟨[.agg [.int .i64 r7.Op, .int .i64 r7.Rd, .int .i64 r7.Rs, .int .i64 r7.Rt, .int .i64 r7.Imm], .bool true], by simp [z0], 4, by simp [encL_nil, z0]⟩
     ·replace H := ifF C4 H
      refine AWP_skip (Jn hK5 ?_)
      refine Rt tok [] [0, 2, 4] (by
       intro K k
       have e0 := nQ o1 (M1 + 13)
       simp -dsimp -implicitDefEqProofs [e0]
       exact k) fun a ha => ?_
      obtain rfl := oi H
      refine hK3 _ _ _ rfl ?_; rw [ha]
      exact Rc.fin (hp_skip (AHeap.Sub.trans (AHeap.Sub.refl _) (hp_drop rfl (by simp; try omega)))) ⟨M1 + 31, o1, (by omega), (by omega), (by omega), rfl, rfl⟩
   ·obtain rfl := oi (ifF C2 H)
    refine AWP_exit (hO3 _ _ _ _ rfl ⟨rfl, ?_⟩)
    refine Rc.rw (l := [2]) (X := [(2, .ptr o1 0 0)]) rfl ?_
    exact Rf ⟨M1 + 2, o1, (by omega), (by omega), (by omega), rfl, rfl⟩
  ·intro x a σ hx
   rcases e1 with y4 | r0
   ·obtain ⟨rfl, b, τ, hr, M2, o2, fM2_0, fM2_1, fM2_2, rfl, rfl⟩ := hx
    dsimp only at H
    show K2 _ _
    refine hK2 _ _ (Rc_ref hr ?_)
    refine Rc.mk ?_
    refine S0 tok [] [2, 3] ?_
    obtain rfl := oi H
    refine Kp [2, 3] ?_
    refine AWP_ret ?_
    exact ⟨[.agg [.int .i64 0, .int .i64 0, .int .i64 0, .int .i64 0, .int .i64 0], .bool false], by simp, 4, by simp [encL_nil]⟩
   ·obtain ⟨rfl, hx2⟩ := hx
    dsimp only at H
    obtain rfl := oi H; first | exact hx2 | (simp only [List.set_set] at hx2 ⊢; exact hx2)
theorem c74 {p0 : Int} {r : Int} (H : i_Wrap p0 = some r) : APure Tryz.prog G 74 [.int .i64 p0] (.int .i64 r) := by
 refine APure_fn (fun N0 => ?_) (by simp)
 refine fnK tok Tryz.func74 Tryz.ntmps74 Tryz.results74 ?_
 simp only [argsA, Nat.reduceAdd, hp_next]
 unfold i_Wrap at H
 refine S0 tok [] [0] ?_
 refine S0 tok [] [2] ?_
 obtain rfl := oi H; exact AWP_ret ⟨_, rfl, 4, by simp [encL_nil]⟩
theorem c71_c0_2_moo {p0 : gMachine} {p1 : Int} {r : Option Int} (H : i_Machine_word_c0_2_moo p0 p1 = some r) {σ : AHeap} {w0 : Nat} {W0 : List (List AV)} {r0_ : Nat} {w0c2 : Nat} (q0 : σ.objs w0 = some ⟨63, 3, W0⟩) (g0 : W0[r0_]? = some [.osl 3 1 (encL rI p0.Regs), .int .i64 p0.Pc, .sl w0c2 0 p0.Mem.length]) (q0c2 : σ.objs w0c2 = some ⟨3, 1, encL rI p0.Mem⟩) (d0_1 : ¬ w0 = w0c2) : ACalls Tryz.prog G 71 [.ptr w0 r0_ 0, .int .i64 p1] σ (fun v σ' => ∃ M : Nat, σ.next ≤ M ∧ v = optp w0c2 r ∧ σ' = hp σ.objs [(w0, some ⟨63, 3, W0⟩), (w0c2, some ⟨3, 1, encL rI p0.Mem⟩)] M) := by
 refine ACalls_fr (L := [(w0, some ⟨63, 3, W0⟩), (w0c2, some ⟨3, 1, encL rI p0.Mem⟩)]) (Q1 := fun v σ' => ∃ M : Nat, σ.next ≤ M ∧ v = optp w0c2 r ∧ σ' = hp E0 [(w0, some ⟨63, 3, W0⟩), (w0c2, some ⟨3, 1, encL rI p0.Mem⟩)] M) (by simp [q0, q0c2]) (fun hlt => ?_) ?_ ⟨_, Tryz.func71, rfl, rfl⟩
 rotate_left
 ·rintro v σ1 ⟨M, h0, rfl, rfl⟩
  exact ⟨_, M, rfl, by simp, by simp; try omega, M, h0, rfl, rfl⟩
 generalize σ.next = N0 at hlt ⊢
 have lw0 : w0 < N0 := hlt _ (.head _) rfl
 have lw0c2 : w0c2 < N0 := hlt _ (.tail _ (.head _)) rfl
 have gs_W0 : ∀ x, (W0.set r0_ x)[r0_]? = some x := gsetW g0
 rw [← set_same g0]
 refine fnK tok Tryz.func71 Tryz.ntmps71 Tryz.results71 ?_
 simp only [argsA, Nat.reduceAdd, hp_next]
 unfold i_Machine_word_c0_2_moo at H
 refine Sx tok [] [0, 1] (by
  intro K k
  have e0 := nQ w0 w0c2
  simp -dsimp -implicitDefEqProofs [e0, gs_W0, List.set_set]
  exact k) ?_
 refine AWP_sq [0, 1] fun K1 hK1 => ?_
 obtain ⟨g2, hg2, H⟩ := bindE H
 obtain ⟨g4, hg4, H⟩ := bindE H
 refine Sx tok [] [0, 1, 21] (X := [(0, .ptr w0 r0_ 0), (1, .int .i64 p1), (21, .bool g4)]) (Y := hp E0 [(w0, some ⟨63, 3, W0.set r0_ [.osl 3 1 (encL rI p0.Regs), .int .i64 p0.Pc, .sl w0c2 0 p0.Mem.length]⟩), (w0c2, some ⟨3, 1, encL rI p0.Mem⟩)] (N0 + 18)) (by
  intro K k
  have e0 := nQ w0 w0c2
  simp -dsimp -implicitDefEqProofs [e0, gs_W0, List.set_set]
  cases hbg2 : ilt p1 0
  ·replace hg2 := ifF hbg2 hg2
   obtain ⟨v1, hv1, hg2⟩ := bindE hg2
   replace hg2 := Option.some.inj hg2; subst hg2
   try simp -dsimp -implicitDefEqProofs [e0, gs_W0, List.set_set, hbg2, hv1]
   cases hbg4 : (ine v1 0)
   ·replace hg4 := ifF hbg4 hg4
    obtain ⟨v3, hv3, hg4⟩ := bindE hg4
    replace hg4 := Option.some.inj hg4; subst hg4
    try simp -dsimp -implicitDefEqProofs [e0, gs_W0, List.set_set, hbg2, hv1, hbg4, hv3]
    exact k
   ·replace hg4 := ifT hbg4 hg4
    replace hg4 := Option.some.inj hg4; subst hg4
    try simp -dsimp -implicitDefEqProofs [e0, gs_W0, List.set_set, hbg2, hv1, hbg4]
    exact k
  ·replace hg2 := ifT hbg2 hg2
   replace hg2 := Option.some.inj hg2; subst hg2
   try simp -dsimp -implicitDefEqProofs [e0, gs_W0, List.set_set, hbg2]
   replace hg4 := ifT rfl hg4
   replace hg4 := Option.some.inj hg4; subst hg4
   try simp -dsimp -implicitDefEqProofs [e0, gs_W0, List.set_set, hbg2]
   exact k) ?_
 refine Cd (fun C1 => ?_) fun C1 => ?_
 ·replace H := ifT C1 H
  refine Sx tok [] [4] (by
   intro K k
   have e0 := nQ w0 w0c2
   simp -dsimp -implicitDefEqProofs [e0, gs_W0, List.set_set]
   exact k) ?_
  obtain rfl := oi H
  refine Kp [4] ?_
  refine AWP_ret ?_
  refine ⟨[.nilp], by simp, N0 + 19, by omega, ?_, ?_⟩
  ·simp
  ·rw [set_same g0]
 ·replace H := ifF C1 H
  refine AWP_skip (Jn hK1 ?_)
  obtain ⟨v5, hv5, H⟩ := bindE H
  obtain ⟨v6, hv6, H⟩ := bindE H
  refine Sx tok [] [4] (by
   intro K k
   have e0 := nQ w0 w0c2
   simp -dsimp -implicitDefEqProofs [e0, gs_W0, List.set_set, hv5, ixo24 hv6, (idx_lt3 hv6).2.2]
   exact k) ?_
  obtain rfl := oi H
  refine Kp [4] ?_
  refine AWP_ret ?_
  refine ⟨[.ptr w0c2 v5.toNat 0], by simp, N0 + 26, by omega, ?_, ?_⟩
  ·simp
  ·rw [set_same g0]
theorem c75_moo {p0 : gMachine} {p1 : Int} {p2 : Int} {r : gMachine} (H : i_Machine_set_moo p0 p1 p2 = some r) {σ : AHeap} {w0 : Nat} {W0 : List (List AV)} {r0_ : Nat} (q0 : σ.objs w0 = some ⟨63, 3, W0⟩) (g0 : W0[r0_]? = some [.osl 3 1 (encL rI p0.Regs), .int .i64 p0.Pc, .osl 3 1 (encL rI p0.Mem)]) : ACalls Tryz.prog G 75 [.ptr w0 r0_ 0, .int .i64 p1, .int .i64 p2] σ (fun v σ' => ∃ M : Nat, σ.next ≤ M ∧ v = .tup [] ∧ σ' = hp σ.objs [(w0, some ⟨63, 3, W0.set r0_ [.osl 3 1 (encL rI r.Regs), .int .i64 r.Pc, .osl 3 1 (encL rI r.Mem)]⟩)] M) := by
 refine ACalls_fr (L := [(w0, some ⟨63, 3, W0⟩)]) (Q1 := fun v σ' => ∃ M : Nat, σ.next ≤ M ∧ v = .tup [] ∧ σ' = hp E0 [(w0, some ⟨63, 3, W0.set r0_ [.osl 3 1 (encL rI r.Regs), .int .i64 r.Pc, .osl 3 1 (encL rI r.Mem)]⟩)] M) (by simp [q0]) (fun hlt => ?_) ?_ ⟨_, Tryz.func75, rfl, rfl⟩
 rotate_left
 ·rintro v σ1 ⟨M, h0, rfl, rfl⟩
  exact ⟨_, M, rfl, by simp, by simp; try omega, M, h0, rfl, rfl⟩
 generalize σ.next = N0 at hlt ⊢
 have lw0 : w0 < N0 := hlt _ (.head _) rfl
 have gs_W0 : ∀ x, (W0.set r0_ x)[r0_]? = some x := gsetW g0
 rw [← set_same g0]
 refine fnK tok Tryz.func75 Tryz.ntmps75 Tryz.results75 ?_
 simp only [argsA, Nat.reduceAdd, hp_next]
 unfold i_Machine_set_moo at H
 refine AWP_end [] fun KE hKE => ?_
 refine Sx tok [] [0, 1, 2, 7] (by intro K k; simp -dsimp -implicitDefEqProofs [gs_W0, List.set_set]; exact k) ?_
 refine Cd (fun C1 => ?_) fun C1 => ?_
 ·replace H := ifT C1 H
  refine gU AWP_ref w0 r0_ 0 ?_ (hr := by exact gs_W0 _)
  obtain ⟨v1, hv1, H⟩ := bindE H
  obtain ⟨l2, hl2, H⟩ := bindE H
  refine Rt tok [] [] (by
   intro K k
   have e0 := nQ w0 (N0 + 2)
   simp -dsimp -implicitDefEqProofs [e0, gs_W0, List.set_set, ixo24 hv1, (idx_lt3 hv1).2.2, (setx_iff.1 hl2).2.symm]
   exact k) fun a ha => ?_
  (try rw [← setx_len hl2] at ha); (try rw [← setx_len hl2])
  obtain rfl := oi H
  refine hKE _ _ ?_; rw [ha]
  refine Rc.kp [] [] rfl ?_
  refine gP Rc_ref w0 r0_ 0 ?_ (hr := by exact gs_W0 _)
  refine Rc.mk ?_
  refine ⟨[], by simp [gs_W0], N0 + 11, by omega, ?_, ?_⟩
  ·simp [encL_nil]
  ·first | rfl | simp [List.set_set]
 ·replace H := ifF C1 H
  refine AWP_skip ?_
  show KE _ _
  refine kE [] fun a' ha => ?_
  obtain rfl := oi H
  refine hKE _ _ ?_; rw [ha]
  refine Rc.kp [] [] rfl ?_
  refine Rc.mk ?_
  refine ⟨[], by simp [gs_W0], N0 + 2, by omega, ?_, ?_⟩
  ·simp [encL_nil]
  ·first | rfl | simp [List.set_set]
theorem c76 {p0 : Bool} {r : Int} (H : i_truth p0 = some r) : APure Tryz.prog G 76 [.bool p0] (.int .i64 r) := by
 refine APure_fn (fun N0 => ?_) (by simp)
 refine fnK tok Tryz.func76 Tryz.ntmps76 Tryz.results76 ?_
 simp only [argsA, Nat.reduceAdd, hp_next]
 unfold i_truth at H
 refine S0 tok [] [0] ?_
 refine AWP_sq [] fun K1 hK1 => ?_
 refine S0 tok [] [3] ?_
 refine Cd (fun C1 => ?_) fun C1 => ?_
 ·replace H := ifT C1 H
  refine S0 tok [] [2] ?_
  obtain rfl := oi H; exact AWP_ret ⟨_, rfl, 4, by simp [encL_nil]⟩
 ·replace H := ifF C1 H
  refine AWP_skip (Jn hK1 ?_)
  refine S0 tok [] [2] ?_
  obtain rfl := oi H; exact AWP_ret ⟨_, rfl, 4, by simp [encL_nil]⟩
theorem c75_c0_2_moo {p0 : gMachine} {p1 : Int} {p2 : Int} {r : gMachine} (H : i_Machine_set_c0_2_moo p0 p1 p2 = some r) {σ : AHeap} {w0 : Nat} {W0 : List (List AV)} {r0_ : Nat} {w0c2 : Nat} (q0 : σ.objs w0 = some ⟨63, 3, W0⟩) (g0 : W0[r0_]? = some [.osl 3 1 (encL rI p0.Regs), .int .i64 p0.Pc, .sl w0c2 0 p0.Mem.length]) (q0c2 : σ.objs w0c2 = some ⟨3, 1, encL rI p0.Mem⟩) (d0_1 : ¬ w0 = w0c2) : ACalls Tryz.prog G 75 [.ptr w0 r0_ 0, .int .i64 p1, .int .i64 p2] σ (fun v σ' => ∃ M : Nat, σ.next ≤ M ∧ v = .tup [] ∧ σ' = hp σ.objs [(w0, some ⟨63, 3, W0.set r0_ [.osl 3 1 (encL rI r.Regs), .int .i64 r.Pc, .osl 3 1 (encL rI r.Mem)]⟩), (w0c2, none)] M) := by
 refine ACalls_fr (L := [(w0, some ⟨63, 3, W0⟩), (w0c2, some ⟨3, 1, encL rI p0.Mem⟩)]) (Q1 := fun v σ' => ∃ M : Nat, σ.next ≤ M ∧ v = .tup [] ∧ σ' = hp E0 [(w0, some ⟨63, 3, W0.set r0_ [.osl 3 1 (encL rI r.Regs), .int .i64 r.Pc, .osl 3 1 (encL rI r.Mem)]⟩), (w0c2, none)] M) (by simp [q0, q0c2]) (fun hlt => ?_) ?_ ⟨_, Tryz.func75, rfl, rfl⟩
 rotate_left
 ·rintro v σ1 ⟨M, h0, rfl, rfl⟩
  exact ⟨_, M, rfl, by simp, by simp; try omega, M, h0, rfl, rfl⟩
 generalize σ.next = N0 at hlt ⊢
 have lw0 : w0 < N0 := hlt _ (.head _) rfl
 have lw0c2 : w0c2 < N0 := hlt _ (.tail _ (.head _)) rfl
 have gs_W0 : ∀ x, (W0.set r0_ x)[r0_]? = some x := gsetW g0
 rw [← set_same g0]
 refine fnK tok Tryz.func75 Tryz.ntmps75 Tryz.results75 ?_
 simp only [argsA, Nat.reduceAdd, hp_next]
 unfold i_Machine_set_c0_2_moo at H
 refine AWP_end [] fun KE hKE => ?_
 refine Sx tok [] [0, 1, 2, 7] (by
  intro K k
  have e0 := nQ w0 w0c2
  simp -dsimp -implicitDefEqProofs [e0, gs_W0, List.set_set]
  exact k) ?_
 refine Cd (fun C1 => ?_) fun C1 => ?_
 ·replace H := ifT C1 H
  refine gU AWP_ref w0 r0_ 0 ?_ (hr := by exact gs_W0 _)
  obtain ⟨v1, hv1, H⟩ := bindE H
  obtain ⟨l2, hl2, H⟩ := bindE H
  refine Rt tok [] [] (by
   intro K k
   have e0 := nQ w0 w0c2
   have e1 := nQ w0 (N0 + 2)
   have e2 := nQ w0c2 (N0 + 2)
   simp -dsimp -implicitDefEqProofs [e0, e1, e2, gs_W0, List.set_set, ixo24 hv1, (idx_lt3 hv1).2.2, (setx_iff.1 hl2).2.symm]
   exact k) fun a ha => ?_
  (try rw [← setx_len hl2] at ha); (try rw [← setx_len hl2])
  obtain rfl := oi H
  refine hKE _ _ ?_; rw [ha]
  refine Rc.kp [] [] rfl ?_
  refine gP Rc_ref w0 r0_ 0 ?_ (hr := by exact gs_W0 _)
  refine gP Rc_ref w0 r0_ 2 ?_ (hr := by exact gs_W0 _)
  refine Rc.mk ?_
  refine ⟨[], by simp [gs_W0], N0 + 11, by omega, ?_, ?_⟩
  ·simp [encL_nil]
  ·symm; first | exact hp_tail (L := [(w0, some ⟨63, 3, W0.set r0_ [.osl 3 1 (encL rI l2), .int .i64 p0.Pc, .osl 3 1 (encL rI p0.Mem)]⟩)]) | (simp only [List.set_set]; exact hp_tail (L := [(w0, some ⟨63, 3, W0.set r0_ [.osl 3 1 (encL rI l2), .int .i64 p0.Pc, .osl 3 1 (encL rI p0.Mem)]⟩)]))
 ·replace H := ifF C1 H
  refine AWP_skip ?_
  show KE _ _
  refine kE [] fun a' ha => ?_
  obtain rfl := oi H
  refine hKE _ _ ?_; rw [ha]
  refine Rc.kp [] [] rfl ?_
  refine gP Rc_ref w0 r0_ 2 ?_ (hr := by exact gs_W0 _)
  refine Rc.mk ?_
  refine ⟨[], by simp [gs_W0], N0 + 2, by omega, ?_, ?_⟩
  ·simp [encL_nil]
  ·symm; first | exact hp_tail (L := [(w0, some ⟨63, 3, W0.set r0_ [.osl 3 1 (encL rI p0.Regs), .int .i64 p0.Pc, .osl 3 1 (encL rI p0.Mem)]⟩)]) | (simp only [List.set_set]; exact hp_tail (L := [(w0, some ⟨63, 3, W0.set r0_ [.osl 3 1 (encL rI p0.Regs), .int .i64 p0.Pc, .osl 3 1 (encL rI p0.Mem)]⟩)]))
theorem c77 {p0 : Int} {p1 : Int} {p2 : Int} {r : Int} (H : i_apply p0 p1 p2 = some r) : APure Tryz.prog G 77 [.int .i64 p0, .int .i64 p1, .int .i64 p2] (.int .i64 r) := by
 refine APure_fn (fun N0 => ?_) (by simp)
 refine fnK tok Tryz.func77 Tryz.ntmps77 Tryz.results77 ?_
 simp only [argsA, Nat.reduceAdd, hp_next]
 unfold i_apply at H
 refine S0 tok [] [0, 1, 2] ?_
 refine AWP_sq [1, 2] fun K1 hK1 => ?_
 refine S0 tok [] [1, 2, 7] ?_
 refine AWP_block (AWP_thenB ?_)
 refine S0 tok [] [1, 2, 7, 8] ?_
 refine Cd (fun C1 => ?_) fun C1 => ?_
 ·replace H := ifT C1 H
  refine S0 tok [] [6] ?_
  obtain rfl := oi H; exact AWP_ret ⟨_, rfl, 4, by simp [encL_nil]⟩
 ·replace H := ifF C1 H
  refine S0 tok [] [1, 2, 7, 13] ?_
  refine Cd (fun C2 => ?_) fun C2 => ?_
  ·replace H := ifT C2 H
   refine S0 tok [] [6] ?_
   obtain rfl := oi H; exact AWP_ret ⟨_, rfl, 4, by simp [encL_nil]⟩
  ·replace H := ifF C2 H
   refine S0 tok [] [1, 2, 7, 18] ?_
   refine Cd (fun C3 => ?_) fun C3 => ?_
   ·replace H := ifT C3 H
    refine S0 tok [] [6] ?_
    obtain rfl := oi H; exact AWP_ret ⟨_, rfl, 4, by simp [encL_nil]⟩
   ·replace H := ifF C3 H
    refine S0 tok [] [1, 2, 7, 23] ?_
    refine Cd (fun C4 => ?_) fun C4 => ?_
    ·replace H := ifT C4 H
     obtain ⟨r1, hr1, H⟩ := bindE H
     refine Sx tok [] [6] (by intro K k; (repeat first | simp -dsimp -implicitDefEqProofs | refine (c76 hr1).app ?_); exact k) ?_
     obtain rfl := oi H; exact AWP_ret ⟨_, rfl, 4, by simp [encL_nil]⟩
    ·replace H := ifF C4 H
     refine S0 tok [] [1, 2, 7, 29] ?_
     refine Cd (fun C5 => ?_) fun C5 => ?_
     ·replace H := ifT C5 H
      obtain ⟨r2, hr2, H⟩ := bindE H
      refine Sx tok [] [6] (by intro K k; (repeat first | simp -dsimp -implicitDefEqProofs | refine (c76 hr2).app ?_); exact k) ?_
      obtain rfl := oi H; exact AWP_ret ⟨_, rfl, 4, by simp [encL_nil]⟩
     ·replace H := ifF C5 H
      refine S0 tok [] [1, 2, 7, 35] ?_
      refine Cd (fun C6 => ?_) fun C6 => ?_
      ·replace H := ifT C6 H
       obtain ⟨v3, hv3, H⟩ := bindE H
       obtain ⟨r4, hr4, H⟩ := bindE H
       refine Sx tok [] [6] (by intro K k; (repeat first | simp -dsimp -implicitDefEqProofs [hv3] | refine (c74 hr4).app ?_); exact k) ?_
       obtain rfl := oi H; exact AWP_ret ⟨_, rfl, 4, by simp [encL_nil]⟩
      ·replace H := ifF C6 H
       refine S0 tok [] [1, 2, 7, 42] ?_
       refine Cd (fun C7 => ?_) fun C7 => ?_
       ·replace H := ifT C7 H
        obtain ⟨v5, hv5, H⟩ := bindE H
        refine Sx tok [] [6] (by intro K k; simp -dsimp -implicitDefEqProofs [hv5]; exact k) ?_
        obtain rfl := oi H; exact AWP_ret ⟨_, rfl, 4, by simp [encL_nil]⟩
       ·replace H := ifF C7 H
        refine S0 tok [] [1, 2, 7, 48] ?_
        refine Cd (fun C8 => ?_) fun C8 => ?_
        ·replace H := ifT C8 H
         obtain ⟨r6, hr6, H⟩ := bindE H
         refine Sx tok [] [6] (by intro K k; (repeat first | simp -dsimp -implicitDefEqProofs | refine (c74 hr6).app ?_); exact k) ?_
         obtain rfl := oi H; exact AWP_ret ⟨_, rfl, 4, by simp [encL_nil]⟩
        ·replace H := ifF C8 H
         refine S0 tok [] [1, 2, 7, 54] ?_
         refine Cd (fun C9 => ?_) fun C9 => ?_
         ·replace H := ifT C9 H
          obtain ⟨r7, hr7, H⟩ := bindE H
          refine Sx tok [] [6] (by intro K k; (repeat first | simp -dsimp -implicitDefEqProofs | refine (c74 hr7).app ?_); exact k) ?_
          obtain rfl := oi H; exact AWP_ret ⟨_, rfl, 4, by simp [encL_nil]⟩
         ·replace H := ifF C9 H
          refine S0 tok [] [1, 2, 7, 60] ?_
          refine Cd (fun C10 => ?_) fun C10 => ?_
          ·replace H := ifT C10 H
           obtain ⟨r8, hr8, H⟩ := bindE H
           refine Sx tok [] [6] (by intro K k; (repeat first | simp -dsimp -implicitDefEqProofs | refine (c74 hr8).app ?_); exact k) ?_
           obtain rfl := oi H; exact AWP_ret ⟨_, rfl, 4, by simp [encL_nil]⟩
          ·replace H := ifF C10 H
           refine S0 tok [] [1, 2, 66] ?_
           refine Cd (fun C11 => ?_) fun C11 => ?_
           ·replace H := ifT C11 H
            refine AWP_sq [1, 2] fun K2 hK2 => ?_
            refine S0 tok [] [1, 2, 69] ?_
            refine Cd (fun C12 => ?_) fun C12 => ?_
            ·replace H := ifT C12 H
             refine S0 tok [] [6] ?_
             obtain rfl := oi H; exact AWP_ret ⟨_, rfl, 4, by simp [encL_nil]⟩
            ·replace H := ifF C12 H
             refine AWP_skip (Jn hK2 ?_)
             obtain ⟨v9, hv9, H⟩ := bindE H
             obtain ⟨r10, hr10, H⟩ := bindE H
             refine Sx tok [] [6] (by intro K k; (repeat first | simp -dsimp -implicitDefEqProofs [hv9] | refine (c74 hr10).app ?_); exact k) ?_
             obtain rfl := oi H; exact AWP_ret ⟨_, rfl, 4, by simp [encL_nil]⟩
           ·replace H := ifF C11 H
            refine AWP_skip (Jn hK1 ?_)
            refine AWP_sq [1, 2] fun K3 hK3 => ?_
            refine S0 tok [] [1, 2, 75] ?_
            refine Cd (fun C13 => ?_) fun C13 => ?_
            ·replace H := ifT C13 H
             refine S0 tok [] [6] ?_
             obtain rfl := oi H; exact AWP_ret ⟨_, rfl, 4, by simp [encL_nil]⟩
            ·replace H := ifF C13 H
             refine AWP_skip (Jn hK3 ?_)
             obtain ⟨v11, hv11, H⟩ := bindE H
             refine Sx tok [] [6] (by intro K k; simp -dsimp -implicitDefEqProofs [hv11]; exact k) ?_
             obtain rfl := oi H; exact AWP_ret ⟨_, rfl, 4, by simp [encL_nil]⟩
theorem c34 {p0 : gMachine} {r : Int × gMachine} (H : i_Machine_step p0 = some r) {σ : AHeap} {w0 : Nat} {W0 : List (List AV)} {r0_ : Nat} (q0 : σ.objs w0 = some ⟨63, 3, W0⟩) (g0 : W0[r0_]? = some [.osl 3 1 (encL rI p0.Regs), .int .i64 p0.Pc, .osl 3 1 (encL rI p0.Mem)]) : ACalls Tryz.prog G 34 [.ptr w0 r0_ 0] σ (fun v σ' => ∃ M : Nat, σ.next ≤ M ∧ v = .int .i64 r.1 ∧ σ' = hp σ.objs [(w0, some ⟨63, 3, W0.set r0_ [.osl 3 1 (encL rI r.2.Regs), .int .i64 r.2.Pc, .osl 3 1 (encL rI r.2.Mem)]⟩)] M) := by
 refine ACalls_fr (L := [(w0, some ⟨63, 3, W0⟩)]) (Q1 := fun v σ' => ∃ M : Nat, σ.next ≤ M ∧ v = .int .i64 r.1 ∧ σ' = hp E0 [(w0, some ⟨63, 3, W0.set r0_ [.osl 3 1 (encL rI r.2.Regs), .int .i64 r.2.Pc, .osl 3 1 (encL rI r.2.Mem)]⟩)] M) (by simp [q0]) (fun hlt => ?_) ?_ ⟨_, Tryz.func34, rfl, rfl⟩
 rotate_left
 ·rintro v σ1 ⟨M, h0, rfl, rfl⟩
  exact ⟨_, M, rfl, by simp, by simp; try omega, M, h0, rfl, rfl⟩
 generalize σ.next = N0 at hlt ⊢
 have lw0 : w0 < N0 := hlt _ (.head _) rfl
 have gs_W0 : ∀ x, (W0.set r0_ x)[r0_]? = some x := gsetW g0
 rw [← set_same g0]
 refine fnK tok Tryz.func34 Tryz.ntmps34 Tryz.results34 ?_
 simp only [argsA, Nat.reduceAdd, hp_next]
 unfold i_Machine_step at H
 refine Sx tok [] [0] (by intro K k; simp -dsimp -implicitDefEqProofs [gs_W0, List.set_set]; exact k) ?_
 refine gU AWP_ref w0 r0_ 2 ?_ (hr := by exact gs_W0 _)
 obtain ⟨r1, hr1, H⟩ := bindE H
 refine AWP_sr tok [] [0, 3] (fun a σ => ∃ M1 : Nat, N0 + 9 ≤ M1 ∧ a = [(0, .ptr w0 r0_ 0), (3, optp (N0 + 1) r1)] ∧ σ = hp E0 [(w0, some ⟨63, 3, W0.set r0_ [.osl 3 1 (encL rI p0.Regs), .int .i64 p0.Pc, .sl (N0 + 1) 0 p0.Mem.length]⟩), (N0 + 1, some ⟨3, 1, encL rI p0.Mem⟩)] M1) (fun K hK => ?_) ?_
 ·skip
  have e0 := nQ w0 (N0 + 1)
  simp -dsimp -implicitDefEqProofs [e0, gs_W0, List.set_set]
  refine (c71_c0_2_moo (W0 := W0.set r0_ [.osl 3 1 (encL rI p0.Regs), .int .i64 p0.Pc, .sl (N0 + 1) 0 p0.Mem.length]) (r0_ := r0_) (w0c2 := N0 + 1) (H := hr1) (by simp [e0, gs_W0, List.set_set]) (by simp [e0, gs_W0, List.set_set]) (by simp [e0, gs_W0, List.set_set]) (by simp [e0, gs_W0, List.set_set])).mono ?_; rintro _ _ ⟨M1, fM1_0, rfl, rfl⟩; simp only [hp_next] at fM1_0
  try simp -dsimp -implicitDefEqProofs [e0, gs_W0, List.set_set, hp_over_some, hp_over_none]
  exact hK _ _ ⟨M1, (by omega), rfl, rfl⟩
 rintro a σ ⟨M1, fM1_0, rfl, rfl⟩
 refine AWP_sq [0, 3] fun K1 hK1 => ?_
 refine Sx tok [] [0, 3, 17] (by
  intro K k
  have e0 := nQ w0 (N0 + 1)
  simp -dsimp -implicitDefEqProofs [e0, gs_W0, List.set_set, bin_optp (T := T) (t := 100) rfl]
  exact k) ?_
 refine Cd (fun C1 => ?_) fun C1 => ?_
 ·replace H := ifT C1 H
  refine Sx tok [] [2] (by
   intro K k
   have e0 := nQ w0 (N0 + 1)
   simp -dsimp -implicitDefEqProofs [e0, gs_W0, List.set_set]
   exact k) ?_
  obtain rfl := oi H
  refine Kp [2] ?_
  refine gP AWP_ref w0 r0_ 2 ?_ (hr := by exact gs_W0 _)
  refine AWP_ret ?_
  refine ⟨[.int .i64 3], by simp [gs_W0], M1 + 3, by omega, ?_, ?_⟩
  ·simp [encL_nil]
  ·first | rfl | simp [List.set_set]
 ·replace H := ifF C1 H
  refine AWP_skip (Jn hK1 ?_)
  obtain ⟨i2, hi2, H⟩ := bindE H
  obtain ⟨v3, hv3, H⟩ := bindE H
  obtain ⟨r4, hr4, H⟩ := bindE H
  obtain ⟨r5, hr5, H⟩ := bindE H
  refine Sx tok [] [0, 4, 5] (by
   intro K k
   have e0 := nQ w0 (N0 + 1)
   have e1 := nQ w0 (M1 + 10)
   have e2 := nQ (N0 + 1) (M1 + 10)
   have e3 := nQ N0 (M1 + 9)
   repeat first | simp -dsimp -implicitDefEqProofs [e0, e1, e2, e3, gs_W0, List.set_set, hi2, (idx_lt3 hv3).2.2] | refine (c73 hr4).app ?_ | refine (c72 hr5).app ?_
   exact k) ?_
  refine AWP_sq [0, 4] fun K2 hK2 => ?_
  refine Sx tok [] [0, 4, 27] (by
   intro K k
   have e0 := nQ w0 (N0 + 1)
   have e1 := nQ w0 (M1 + 10)
   have e2 := nQ (N0 + 1) (M1 + 10)
   have e3 := nQ N0 (M1 + 9)
   simp -dsimp -implicitDefEqProofs [e0, e1, e2, e3, gs_W0, List.set_set]
   exact k) ?_
  refine Cd (fun C2 => ?_) fun C2 => ?_
  ·replace H := ifT C2 H
   refine Sx tok [] [2] (by
    intro K k
    have e0 := nQ w0 (N0 + 1)
    have e1 := nQ w0 (M1 + 10)
    have e2 := nQ (N0 + 1) (M1 + 10)
    have e3 := nQ N0 (M1 + 9)
    simp -dsimp -implicitDefEqProofs [e0, e1, e2, e3, gs_W0, List.set_set]
    exact k) ?_
   obtain rfl := oi H
   refine Kp [2] ?_
   refine gP AWP_ref w0 r0_ 2 ?_ (hr := by exact gs_W0 _)
   have z0 := nQ w0 (M1 + 10)
   refine gDrop AWP_ref [(w0, some ⟨63, 3, W0.set r0_ [.osl 3 1 (encL rI p0.Regs), .int .i64 p0.Pc, .osl 3 1 (encL rI p0.Mem)]⟩)] (hp_skip (AHeap.Sub.trans (AHeap.Sub.refl _) (hp_drop rfl (by simp; try omega)))) ?_
   refine AWP_ret ?_
   refine ⟨[.int .i64 3], by simp [z0, gs_W0], M1 + 16, by omega, ?_, ?_⟩
   ·simp [encL_nil]
   ·first | rfl | simp [List.set_set]
  ·replace H := ifF C2 H
   refine AWP_skip (Jn hK2 ?_)
   refine gU AWP_ref w0 r0_ 0 ?_ (hr := by exact gs_W0 _)
   obtain ⟨v6, hv6, H⟩ := bindE H
   obtain ⟨v7, hv7, H⟩ := bindE H
   refine Sd tok tokM [] [3, 5, 6, 7, 11, 13, 14, 15] [0, 1, 2, 4, 8, 9, 10, 12, 3, 5, 6, 7, 16, 11, 13, 14, 15, 17] [0, 4, 6, 7] (by
    intro K k
    have e0 := nQ w0 (N0 + 1)
    have e1 := nQ w0 (M1 + 10)
    have e2 := nQ w0 (M1 + 15)
    have e3 := nQ (N0 + 1) (M1 + 10)
    have e4 := nQ N0 (M1 + 9)
    have e5 := nQ (N0 + 1) (M1 + 15)
    have e6 := nQ N0 (M1 + 14)
    simp only [pickL, nthO_succ, nthO_zero]
    simp -dsimp -implicitDefEqProofs [e0, e1, e2, e3, e4, e5, e6, gs_W0, List.set_set, ixo24 hv6, (idx_lt3 hv6).2.2, ixo24 hv7, (idx_lt3 hv7).2.2]
    exact k) ?_
   refine gP AWP_ref w0 r0_ 0 ?_ (hr := by exact gs_W0 _)
   refine gP AWP_ref w0 r0_ 2 ?_ (hr := by exact gs_W0 _)
   obtain ⟨r8, hr8, H⟩ := bindE H
   refine Sx tok [] [0, 4, 6, 7, 8] (by
    intro K k
    have e0 := nQ w0 (M1 + 10)
    repeat first | simp -dsimp -implicitDefEqProofs [e0, gs_W0, List.set_set] | refine (c74 hr8).app ?_
    exact k) ?_
   obtain ⟨flj1, hflj1, H⟩ := bindE H
   refine AWP_seq (AWP_named fun K3 hK3 => ?_)
   have hJ1 : ∀ (j1 : Int × gMachine) a σ, flj1 = .next j1 → Rc G 175 N0 (fun a σ => ∃ M2 : Nat, N0 ≤ M2 ∧ a = [(0, .ptr w0 r0_ 0), (8, .int .i64 j1.1)] ∧ σ = hp E0 [(w0, some ⟨63, 3, W0.set r0_ [.osl 3 1 (encL rI j1.2.Regs), .int .i64 j1.2.Pc, .osl 3 1 (encL rI j1.2.Mem)]⟩)] M2) (AAct.keep a [0, 8]) σ → K3 a σ := by
    rintro j1 a σ hfl ⟨b, τ, hr, M2, fM2_0, rfl, rfl⟩
    subst hfl; dsimp only at H
    refine hK3 _ _ (AWP_keep [0, 8] (AWP_ref hr ?_))
    refine Sx tok [] [] (by intro K k; simp -dsimp -implicitDefEqProofs [gs_W0, List.set_set]; exact k) ?_
    refine Sx tok [] [2] (by intro K k; simp -dsimp -implicitDefEqProofs [gs_W0, List.set_set]; exact k) ?_
    obtain rfl := oi H
    refine Kp [2] ?_
    refine AWP_ret ?_
    refine ⟨[.int .i64 1], by simp [gs_W0], M2 + 6, by omega, ?_, ?_⟩
    ·simp [encL_nil]
    ·first | rfl | simp [List.set_set]
   have Gj1 := H; replace H := hflj1
   refine Sx tok [] [0, 4, 6, 7, 8, 51] (by
    intro K k
    have e0 := nQ w0 (M1 + 10)
    simp -dsimp -implicitDefEqProofs [e0, gs_W0, List.set_set]
    exact k) ?_
   refine AWP_block (AWP_thenB ?_)
   refine Sx tok [] [0, 4, 6, 7, 8, 51, 64] (by
    intro K k
    have e0 := nQ w0 (M1 + 10)
    simp -dsimp -implicitDefEqProofs [e0, gs_W0, List.set_set]
    exact k) ?_
   refine Cd (fun C3 => ?_) fun C3 => ?_
   ·replace H := ifT C3 H
    refine Sx tok [] [2] (by
     intro K k
     have e0 := nQ w0 (M1 + 10)
     simp -dsimp -implicitDefEqProofs [e0, gs_W0, List.set_set]
     exact k) ?_
    obtain ⟨z, hz, H⟩ := bindE H
    obtain rfl := oi H; dsimp only at Gj1; obtain rfl := oi Gj1; have H := hz
    obtain rfl := oi H
    refine Kp [2] ?_
    have z1 := nQ w0 (M1 + 10)
    refine gDrop AWP_ref [(w0, some ⟨63, 3, W0.set r0_ [.osl 3 1 (encL rI p0.Regs), .int .i64 p0.Pc, .osl 3 1 (encL rI p0.Mem)]⟩)] (hp_skip (AHeap.Sub.trans (AHeap.Sub.refl _) (hp_drop rfl (by simp; try omega)))) ?_
    refine AWP_ret ?_
    refine ⟨[.int .i64 2], by simp [z1, gs_W0], M1 + 46, by omega, ?_, ?_⟩
    ·simp [encL_nil]
    ·first | rfl | simp [List.set_set]
   ·replace H := ifF C3 H
    refine Sx tok [] [0, 4, 6, 7, 8, 51, 66] (by
     intro K k
     have e0 := nQ w0 (M1 + 10)
     simp -dsimp -implicitDefEqProofs [e0, gs_W0, List.set_set]
     exact k) ?_
    refine Cd (fun C4 => ?_) fun C4 => ?_
    ·replace H := ifT C4 H
     obtain ⟨r11, hr11, H⟩ := bindE H
     obtain ⟨r12, hr12, H⟩ := bindE H
     refine AWP_rd tok tokM [] [2, 5, 8] [0, 1, 3, 4, 5, 6, 7, 2, 8] [0, 8] (fun a σ => ∃ M3 : Nat, M1 + 56 ≤ M3 ∧ a = [(0, .ptr w0 r0_ 0), (8, .int .i64 r8)] ∧ σ = hp E0 [(w0, some ⟨63, 3, W0.set r0_ [.osl 3 1 (encL rI r12.Regs), .int .i64 r12.Pc, .osl 3 1 (encL rI r12.Mem)]⟩), (M1 + 10, some ⟨103, 5, [[.int .i64 r5.1.Op, .int .i64 r5.1.Rd, .int .i64 r5.1.Rs, .int .i64 r5.1.Rt, .int .i64 r5.1.Imm]]⟩)] M3) (by decide) (fun K hK => ?_) ?_
     ·simp only [pickL, nthO_succ, nthO_zero]
      have e0 := nQ w0 (M1 + 10)
      simp -dsimp -implicitDefEqProofs [e0, gs_W0, List.set_set]
      refine Pc.mk (c74 hr11) ?_; try simp -dsimp -implicitDefEqProofs [e0, gs_W0, List.set_set]
      refine (c75_moo (W0 := W0.set r0_ [.osl 3 1 (encL rI p0.Regs), .int .i64 p0.Pc, .osl 3 1 (encL rI p0.Mem)]) (r0_ := r0_) (H := hr12) (by simp [e0, gs_W0, List.set_set]) (by simp [e0, gs_W0, List.set_set])).mono ?_; rintro _ _ ⟨M3, fM3_0, rfl, rfl⟩; simp only [hp_next] at fM3_0
      try simp -dsimp -implicitDefEqProofs [e0, gs_W0, List.set_set, hp_over_some, hp_over_none]
      exact hK _ _ ⟨M3, (by omega), rfl, rfl⟩
     rintro a σ ⟨M3, fM3_0, ha, rfl⟩
     replace H := oi H
     refine hJ1 _ _ _ H.symm ?_; rw [ha]
     exact Rc.fin (hp_skip (AHeap.Sub.trans (AHeap.Sub.refl _) (hp_drop rfl (by simp; try omega)))) ⟨M3, (by omega), rfl, rfl⟩
    ·replace H := ifF C4 H
     refine Sx tok [] [0, 4, 6, 7, 8, 51, 77] (by
      intro K k
      have e0 := nQ w0 (M1 + 10)
      simp -dsimp -implicitDefEqProofs [e0, gs_W0, List.set_set]
      exact k) ?_
     refine Cd (fun C5 => ?_) fun C5 => ?_
     ·replace H := ifT C5 H
      obtain ⟨r13, hr13, H⟩ := bindE H
      obtain ⟨r14, hr14, H⟩ := bindE H
      obtain ⟨r15, hr15, H⟩ := bindE H
      obtain ⟨r16, hr16, H⟩ := bindE H
      refine AWP_rd tok tokM [] [2, 6, 10] [0, 1, 3, 4, 5, 6, 7, 8, 9, 2, 10] [0, 8] (fun a σ => ∃ M4 : Nat, M1 + 60 ≤ M4 ∧ a = [(0, .ptr w0 r0_ 0), (8, .int .i64 r8)] ∧ σ = hp E0 [(w0, some ⟨63, 3, W0.set r0_ [.osl 3 1 (encL rI r16.Regs), .int .i64 r16.Pc, .osl 3 1 (encL rI r16.Mem)]⟩), (M1 + 10, some ⟨103, 5, [[.int .i64 r5.1.Op, .int .i64 r5.1.Rd, .int .i64 r5.1.Rs, .int .i64 r5.1.Rt, .int .i64 r5.1.Imm]]⟩)] M4) (by decide) (fun K hK => ?_) ?_
      ·simp only [pickL, nthO_succ, nthO_zero]
       have e0 := nQ w0 (M1 + 10)
       simp -dsimp -implicitDefEqProofs [e0, gs_W0, List.set_set]
       refine Pc.mk (c73 hr13) ?_; try simp -dsimp -implicitDefEqProofs [e0, gs_W0, List.set_set]
       refine Pc.mk (c73 hr14) ?_; try simp -dsimp -implicitDefEqProofs [e0, gs_W0, List.set_set]
       refine Pc.mk (c76 hr15) ?_; try simp -dsimp -implicitDefEqProofs [e0, gs_W0, List.set_set]
       refine (c75_moo (W0 := W0.set r0_ [.osl 3 1 (encL rI p0.Regs), .int .i64 p0.Pc, .osl 3 1 (encL rI p0.Mem)]) (r0_ := r0_) (H := hr16) (by simp [e0, gs_W0, List.set_set]) (by simp [e0, gs_W0, List.set_set])).mono ?_; rintro _ _ ⟨M4, fM4_0, rfl, rfl⟩; simp only [hp_next] at fM4_0
       try simp -dsimp -implicitDefEqProofs [e0, gs_W0, List.set_set, hp_over_some, hp_over_none]
       exact hK _ _ ⟨M4, (by omega), rfl, rfl⟩
      rintro a σ ⟨M4, fM4_0, ha, rfl⟩
      replace H := oi H
      refine hJ1 _ _ _ H.symm ?_; rw [ha]
      exact Rc.fin (hp_skip (AHeap.Sub.trans (AHeap.Sub.refl _) (hp_drop rfl (by simp; try omega)))) ⟨M4, (by omega), rfl, rfl⟩
     ·replace H := ifF C5 H
      obtain ⟨j2, hj2, H⟩ := bindE H
      refine AWP_seq (AWP_named fun K6 hK6 => ?_)
      have hJ2 : ∀ a σ, Rc G 175 N0 (fun a σ => ∃ M5 : Nat, N0 ≤ M5 ∧ M1 + 10 < M5 ∧ a = [(0, .ptr w0 r0_ 0), (4, .ptr (M1 + 10) 0 0), (6, .int .i64 v6), (7, .int .i64 v7), (8, .int .i64 r8), (51, .int .i64 r5.1.Op), (90, .bool j2)] ∧ σ = hp E0 [(w0, some ⟨63, 3, W0.set r0_ [.osl 3 1 (encL rI p0.Regs), .int .i64 p0.Pc, .osl 3 1 (encL rI p0.Mem)]⟩), (M1 + 10, some ⟨103, 5, [[.int .i64 r5.1.Op, .int .i64 r5.1.Rd, .int .i64 r5.1.Rs, .int .i64 r5.1.Rt, .int .i64 r5.1.Imm]]⟩)] M5) (a.keep [0, 4, 6, 7, 8, 51, 90]) σ → K6 a σ := by
       rintro a σ ⟨b, τ, hr, M5, fM5_0, fM5_1, rfl, rfl⟩
       refine hK6 _ _ (AWP_keep [0, 4, 6, 7, 8, 51, 90] (AWP_ref hr ?_))
       refine Cd (fun C6 => ?_) fun C6 => ?_
       ·replace H := ifT C6 H
        refine gU AWP_ref w0 r0_ 2 ?_ (hr := by exact gs_W0 _)
        obtain ⟨r19, hr19, H⟩ := bindE H
        obtain ⟨r20, hr20, H⟩ := bindE H
        refine AWP_sr tok [] [0, 4, 7, 8, 9] (fun a σ => ∃ M6 : Nat, M5 + 9 ≤ M6 ∧ a = [(0, .ptr w0 r0_ 0), (4, .ptr (M1 + 10) 0 0), (7, .int .i64 v7), (8, .int .i64 r8), (9, optp M5 r20)] ∧ σ = hp E0 [(w0, some ⟨63, 3, W0.set r0_ [.osl 3 1 (encL rI p0.Regs), .int .i64 p0.Pc, .sl M5 0 p0.Mem.length]⟩), (M1 + 10, some ⟨103, 5, [[.int .i64 r5.1.Op, .int .i64 r5.1.Rd, .int .i64 r5.1.Rs, .int .i64 r5.1.Rt, .int .i64 r5.1.Imm]]⟩), (M5, some ⟨3, 1, encL rI p0.Mem⟩)] M6) (fun K hK => ?_) ?_
        ·skip
         have e0 := nQ w0 (M1 + 10)
         have e1 := nQ w0 M5
         have e2 := nQ (M1 + 10) M5
         simp -dsimp -implicitDefEqProofs [e0, e1, e2, gs_W0, List.set_set]
         refine (c74 hr19).app ?_; try simp -dsimp -implicitDefEqProofs [e0, e1, e2, gs_W0, List.set_set]
         refine (c71_c0_2_moo (W0 := W0.set r0_ [.osl 3 1 (encL rI p0.Regs), .int .i64 p0.Pc, .sl M5 0 p0.Mem.length]) (r0_ := r0_) (w0c2 := M5) (H := hr20) (by simp [e0, e1, e2, gs_W0, List.set_set]) (by simp [e0, e1, e2, gs_W0, List.set_set]) (by simp [e0, e1, e2, gs_W0, List.set_set]) (by simp [e0, e1, e2, gs_W0, List.set_set])).mono ?_; rintro _ _ ⟨M6, fM6_0, rfl, rfl⟩; simp only [hp_next] at fM6_0
         try simp -dsimp -implicitDefEqProofs [e0, e1, e2, gs_W0, List.set_set, hp_over_some, hp_over_none]
         exact hK _ _ ⟨M6, (by omega), rfl, rfl⟩
        rintro a σ ⟨M6, fM6_0, rfl, rfl⟩
        refine AWP_sq [0, 4, 7, 8, 9] fun K4 hK4 => ?_
        refine Sx tok [] [0, 4, 7, 8, 9, 101] (by
         intro K k
         have e0 := nQ w0 (M1 + 10)
         have e1 := nQ w0 M5
         have e2 := nQ (M1 + 10) M5
         simp -dsimp -implicitDefEqProofs [e0, e1, e2, gs_W0, List.set_set, bin_optp (T := T) (t := 100) rfl]
         exact k) ?_
        refine Cd (fun C7 => ?_) fun C7 => ?_
        ·replace H := ifT C7 H
         refine Sx tok [] [2] (by
          intro K k
          have e0 := nQ w0 (M1 + 10)
          have e1 := nQ w0 M5
          have e2 := nQ (M1 + 10) M5
          simp -dsimp -implicitDefEqProofs [e0, e1, e2, gs_W0, List.set_set]
          exact k) ?_
         obtain ⟨z, hz, H⟩ := bindE H
         obtain rfl := oi H; dsimp only at Gj1; obtain rfl := oi Gj1; have H := hz
         obtain rfl := oi H
         refine Kp [2] ?_
         refine gP AWP_ref w0 r0_ 2 ?_ (hr := by exact gs_W0 _)
         have z2 := nQ w0 (M1 + 10)
         refine gDrop AWP_ref [(w0, some ⟨63, 3, W0.set r0_ [.osl 3 1 (encL rI p0.Regs), .int .i64 p0.Pc, .osl 3 1 (encL rI p0.Mem)]⟩)] (hp_skip (AHeap.Sub.trans (AHeap.Sub.refl _) (hp_drop rfl (by simp; try omega)))) ?_
         refine AWP_ret ?_
         refine ⟨[.int .i64 3], by simp [z2, gs_W0], M6 + 3, by omega, ?_, ?_⟩
         ·simp [encL_nil]
         ·first | rfl | simp [List.set_set]
        ·replace H := ifF C7 H
         refine AWP_skip (Jn hK4 ?_)
         refine Sx tok [] [0, 4, 7, 8, 9, 104] (by
          intro K k
          have e0 := nQ w0 (M1 + 10)
          have e1 := nQ w0 M5
          have e2 := nQ (M1 + 10) M5
          simp -dsimp -implicitDefEqProofs [e0, e1, e2, gs_W0, List.set_set]
          exact k) ?_
         refine Cd (fun C8 => ?_) fun C8 => ?_
         ·replace H := ifT C8 H
          obtain ⟨i21, hi21, H⟩ := bindE H
          obtain ⟨v22, hv22, H⟩ := bindE H
          obtain ⟨l23, hl23, H⟩ := bindE H
          refine Rt tok [] [0, 8] (by
           intro K k
           have e0 := nQ w0 (M1 + 10)
           have e1 := nQ w0 M5
           have e2 := nQ (M1 + 10) M5
           simp -dsimp -implicitDefEqProofs [e0, e1, e2, gs_W0, List.set_set, hi21, (idx_lt3 hv22).2.2, (setx_iff.1 hl23).2.symm]
           exact k) fun a ha => ?_
          (try rw [← setx_len hl23] at ha); (try rw [← setx_len hl23])
          replace H := oi H
          refine hJ1 _ _ _ H.symm ?_; rw [ha]
          refine gP Rc_ref w0 r0_ 2 ?_ (hr := by exact gs_W0 _)
          exact Rc.fin (hp_skip (AHeap.Sub.trans (AHeap.Sub.refl _) (hp_drop rfl (by simp; try omega)))) ⟨M6 + 9, (by omega), rfl, rfl⟩
         ·replace H := ifF C8 H
          obtain ⟨i24, hi24, H⟩ := bindE H
          obtain ⟨v25, hv25, H⟩ := bindE H
          obtain ⟨r26, hr26, H⟩ := bindE H
          refine AWP_rd tok tokM [] [2, 5, 6] [0, 1, 3, 4, 2, 5, 6] [0, 8] (fun a σ => ∃ M7 : Nat, M6 + 12 ≤ M7 ∧ a = [(0, .ptr w0 r0_ 0), (8, .int .i64 r8)] ∧ σ = hp E0 [(w0, some ⟨63, 3, W0.set r0_ [.osl 3 1 (encL rI r26.Regs), .int .i64 r26.Pc, .osl 3 1 (encL rI r26.Mem)]⟩), (M1 + 10, some ⟨103, 5, [[.int .i64 r5.1.Op, .int .i64 r5.1.Rd, .int .i64 r5.1.Rs, .int .i64 r5.1.Rt, .int .i64 r5.1.Imm]]⟩)] M7) (by decide) (fun K hK => ?_) ?_
          ·simp only [pickL, nthO_succ, nthO_zero]
           have e0 := nQ w0 (M1 + 10)
           have e1 := nQ w0 M5
           have e2 := nQ (M1 + 10) M5
           simp -dsimp -implicitDefEqProofs [e0, e1, e2, gs_W0, List.set_set, hi24, (idx_lt3 hv25).2.2]
           refine (c75_c0_2_moo (w0c2 := M5) (W0 := W0.set r0_ [.osl 3 1 (encL rI p0.Regs), .int .i64 p0.Pc, .sl M5 0 p0.Mem.length]) (r0_ := r0_) (H := hr26) (by simp [e0, e1, e2, gs_W0, List.set_set, hi24, (idx_lt3 hv25).2.2]) (by simp [e0, e1, e2, gs_W0, List.set_set, hi24, (idx_lt3 hv25).2.2]) (by simp [e0, e1, e2, gs_W0, List.set_set, hi24, (idx_lt3 hv25).2.2]) (by simp [e0, e1, e2, gs_W0, List.set_set, hi24, (idx_lt3 hv25).2.2])).mono ?_; rintro _ _ ⟨M7, fM7_0, rfl, rfl⟩; simp only [hp_next] at fM7_0
           try simp -dsimp -implicitDefEqProofs [e0, e1, e2, gs_W0, List.set_set, hi24, (idx_lt3 hv25).2.2, hp_over_some, hp_over_none]
           exact hK _ _ ⟨M7, (by omega), rfl, rfl⟩
          rintro a σ ⟨M7, fM7_0, ha, rfl⟩
          replace H := oi H
          refine hJ1 _ _ _ H.symm ?_; rw [ha]
          exact Rc.fin (hp_skip (AHeap.Sub.trans (AHeap.Sub.refl _) (hp_drop rfl (by simp; try omega)))) ⟨M7, (by omega), rfl, rfl⟩
       ·replace H := ifF C6 H
        refine Sx tok [] [0, 4, 6, 7, 8, 51, 115] (by
         intro K k
         have e0 := nQ w0 (M1 + 10)
         simp -dsimp -implicitDefEqProofs [e0, gs_W0, List.set_set]
         exact k) ?_
        refine Cd (fun C9 => ?_) fun C9 => ?_
        ·replace H := ifT C9 H
         obtain ⟨r27, hr27, H⟩ := bindE H
         refine AWP_sr tok [] [0, 4, 6] (fun a σ => ∃ M8 : Nat, M5 + 7 ≤ M8 ∧ a = [(0, .ptr w0 r0_ 0), (4, .ptr (M1 + 10) 0 0), (6, .int .i64 v6)] ∧ σ = hp E0 [(w0, some ⟨63, 3, W0.set r0_ [.osl 3 1 (encL rI r27.Regs), .int .i64 r27.Pc, .osl 3 1 (encL rI r27.Mem)]⟩), (M1 + 10, some ⟨103, 5, [[.int .i64 r5.1.Op, .int .i64 r5.1.Rd, .int .i64 r5.1.Rs, .int .i64 r5.1.Rt, .int .i64 r5.1.Imm]]⟩)] M8) (fun K hK => ?_) ?_
         ·skip
          have e0 := nQ w0 (M1 + 10)
          simp -dsimp -implicitDefEqProofs [e0, gs_W0, List.set_set]
          refine (c75_moo (W0 := W0.set r0_ [.osl 3 1 (encL rI p0.Regs), .int .i64 p0.Pc, .osl 3 1 (encL rI p0.Mem)]) (r0_ := r0_) (H := hr27) (by simp [e0, gs_W0, List.set_set]) (by simp [e0, gs_W0, List.set_set])).mono ?_; rintro _ _ ⟨M8, fM8_0, rfl, rfl⟩; simp only [hp_next] at fM8_0
          try simp -dsimp -implicitDefEqProofs [e0, gs_W0, List.set_set, hp_over_some, hp_over_none]
          exact hK _ _ ⟨M8, (by omega), rfl, rfl⟩
         rintro a σ ⟨M8, fM8_0, rfl, rfl⟩
         obtain ⟨r28, hr28, H⟩ := bindE H
         refine Rt tok [] [0, 8] (by
          intro K k
          have e0 := nQ w0 (M1 + 10)
          repeat first | simp -dsimp -implicitDefEqProofs [e0, gs_W0, List.set_set] | refine (c74 hr28).app ?_
          exact k) fun a ha => ?_
         replace H := oi H
         refine hJ1 _ _ _ H.symm ?_; rw [ha]
         exact Rc.fin (hp_skip (AHeap.Sub.trans (AHeap.Sub.refl _) (hp_drop rfl (by simp; try omega)))) ⟨M8 + 7, (by omega), rfl, rfl⟩
        ·replace H := ifF C9 H
         obtain ⟨j3, hj3, H⟩ := bindE H
         refine AWP_seq (AWP_named fun K5 hK5 => ?_)
         have hJ3 : ∀ a σ, Rc G 175 N0 (fun a σ => ∃ M9 : Nat, N0 ≤ M9 ∧ M1 + 10 < M9 ∧ a = [(0, .ptr w0 r0_ 0), (4, .ptr (M1 + 10) 0 0), (6, .int .i64 v6), (7, .int .i64 v7), (8, .int .i64 r8), (51, .int .i64 r5.1.Op), (128, .bool j3)] ∧ σ = hp E0 [(w0, some ⟨63, 3, W0.set r0_ [.osl 3 1 (encL rI p0.Regs), .int .i64 p0.Pc, .osl 3 1 (encL rI p0.Mem)]⟩), (M1 + 10, some ⟨103, 5, [[.int .i64 r5.1.Op, .int .i64 r5.1.Rd, .int .i64 r5.1.Rs, .int .i64 r5.1.Rt, .int .i64 r5.1.Imm]]⟩)] M9) (a.keep [0, 4, 6, 7, 8, 51, 128]) σ → K5 a σ := by
          rintro a σ ⟨b, τ, hr, M9, fM9_0, fM9_1, rfl, rfl⟩
          refine hK5 _ _ (AWP_keep [0, 4, 6, 7, 8, 51, 128] (AWP_ref hr ?_))
          refine Cd (fun C10 => ?_) fun C10 => ?_
          ·replace H := ifT C10 H
           refine Sx tok [] [0, 4, 8, 137] (by
            intro K k
            have e0 := nQ w0 (M1 + 10)
            simp -dsimp -implicitDefEqProofs [e0, gs_W0, List.set_set]
            exact k) ?_
           refine Cd (fun C11 => ?_) fun C11 => ?_
           ·replace H := ifT C11 H
            obtain ⟨r30, hr30, H⟩ := bindE H
            refine AWP_rd tok tokM [] [3, 5] [0, 1, 2, 4, 3, 5, 6, 7, 8] [0, 8] (fun a σ => a = [(0, .ptr w0 r0_ 0), (8, .int .i64 r30)] ∧ σ = hp E0 [(w0, some ⟨63, 3, W0.set r0_ [.osl 3 1 (encL rI p0.Regs), .int .i64 p0.Pc, .osl 3 1 (encL rI p0.Mem)]⟩), (M1 + 10, some ⟨103, 5, [[.int .i64 r5.1.Op, .int .i64 r5.1.Rd, .int .i64 r5.1.Rs, .int .i64 r5.1.Rt, .int .i64 r5.1.Imm]]⟩)] (M9 + 16)) (by decide) (fun K hK => ?_) ?_
            ·simp only [pickL, nthO_succ, nthO_zero]
             have e0 := nQ w0 (M1 + 10)
             simp -dsimp -implicitDefEqProofs [e0, gs_W0, List.set_set]
             refine Pc.mk (c74 hr30) ?_; try simp -dsimp -implicitDefEqProofs [e0, gs_W0, List.set_set]
             exact hK _ _ ⟨rfl, rfl⟩
            rintro a σ ⟨ha, rfl⟩
            replace H := oi H
            refine hJ1 _ _ _ H.symm ?_; rw [ha]
            exact Rc.fin (hp_skip (AHeap.Sub.trans (AHeap.Sub.refl _) (hp_drop rfl (by simp; try omega)))) ⟨M9 + 16, (by omega), rfl, rfl⟩
           ·replace H := ifF C11 H
            refine AWP_skip ?_
            show K3 _ _
            refine kE [0, 8] fun a' ha => ?_
            replace H := oi H
            refine hJ1 _ _ _ H.symm ?_; rw [ha]
            exact Rc.fin (hp_skip (AHeap.Sub.trans (AHeap.Sub.refl _) (hp_drop rfl (by simp; try omega)))) ⟨M9 + 7, (by omega), rfl, rfl⟩
          ·replace H := ifF C10 H
           refine Sx tok [] [0, 4, 6, 7, 8, 51, 146] (by
            intro K k
            have e0 := nQ w0 (M1 + 10)
            simp -dsimp -implicitDefEqProofs [e0, gs_W0, List.set_set]
            exact k) ?_
           refine Cd (fun C12 => ?_) fun C12 => ?_
           ·replace H := ifT C12 H
            obtain ⟨r31, hr31, H⟩ := bindE H
            obtain ⟨r32, hr32, H⟩ := bindE H
            refine AWP_rd tok tokM [] [2, 4, 7] [0, 1, 3, 4, 5, 6, 2, 7] [0, 8] (fun a σ => ∃ M10 : Nat, M9 + 10 ≤ M10 ∧ a = [(0, .ptr w0 r0_ 0), (8, .int .i64 r8)] ∧ σ = hp E0 [(w0, some ⟨63, 3, W0.set r0_ [.osl 3 1 (encL rI r32.Regs), .int .i64 r32.Pc, .osl 3 1 (encL rI r32.Mem)]⟩), (M1 + 10, some ⟨103, 5, [[.int .i64 r5.1.Op, .int .i64 r5.1.Rd, .int .i64 r5.1.Rs, .int .i64 r5.1.Rt, .int .i64 r5.1.Imm]]⟩)] M10) (by decide) (fun K hK => ?_) ?_
            ·simp only [pickL, nthO_succ, nthO_zero]
             have e0 := nQ w0 (M1 + 10)
             simp -dsimp -implicitDefEqProofs [e0, gs_W0, List.set_set]
             refine Pc.mk (c74 hr31) ?_; try simp -dsimp -implicitDefEqProofs [e0, gs_W0, List.set_set]
             refine (c75_moo (W0 := W0.set r0_ [.osl 3 1 (encL rI p0.Regs), .int .i64 p0.Pc, .osl 3 1 (encL rI p0.Mem)]) (r0_ := r0_) (H := hr32) (by simp [e0, gs_W0, List.set_set]) (by simp [e0, gs_W0, List.set_set])).mono ?_; rintro _ _ ⟨M10, fM10_0, rfl, rfl⟩; simp only [hp_next] at fM10_0
             try simp -dsimp -implicitDefEqProofs [e0, gs_W0, List.set_set, hp_over_some, hp_over_none]
             exact hK _ _ ⟨M10, (by omega), rfl, rfl⟩
            rintro a σ ⟨M10, fM10_0, ha, rfl⟩
            replace H := oi H
            refine hJ1 _ _ _ H.symm ?_; rw [ha]
            exact Rc.fin (hp_skip (AHeap.Sub.trans (AHeap.Sub.refl _) (hp_drop rfl (by simp; try omega)))) ⟨M10, (by omega), rfl, rfl⟩
           ·replace H := ifF C12 H
            refine Sx tok [] [0, 4, 6, 7, 8, 156] (by
             intro K k
             have e0 := nQ w0 (M1 + 10)
             simp -dsimp -implicitDefEqProofs [e0, gs_W0, List.set_set]
             exact k) ?_
            refine Cd (fun C13 => ?_) fun C13 => ?_
            ·replace H := ifT C13 H
             obtain ⟨r33, hr33, H⟩ := bindE H
             refine AWP_sr tok [] [0, 4] (fun a σ => ∃ M11 : Nat, M9 + 9 ≤ M11 ∧ a = [(0, .ptr w0 r0_ 0), (4, .ptr (M1 + 10) 0 0)] ∧ σ = hp E0 [(w0, some ⟨63, 3, W0.set r0_ [.osl 3 1 (encL rI r33.Regs), .int .i64 r33.Pc, .osl 3 1 (encL rI r33.Mem)]⟩), (M1 + 10, some ⟨103, 5, [[.int .i64 r5.1.Op, .int .i64 r5.1.Rd, .int .i64 r5.1.Rs, .int .i64 r5.1.Rt, .int .i64 r5.1.Imm]]⟩)] M11) (fun K hK => ?_) ?_
             ·skip
              have e0 := nQ w0 (M1 + 10)
              simp -dsimp -implicitDefEqProofs [e0, gs_W0, List.set_set]
              refine (c75_moo (W0 := W0.set r0_ [.osl 3 1 (encL rI p0.Regs), .int .i64 p0.Pc, .osl 3 1 (encL rI p0.Mem)]) (r0_ := r0_) (H := hr33) (by simp [e0, gs_W0, List.set_set]) (by simp [e0, gs_W0, List.set_set])).mono ?_; rintro _ _ ⟨M11, fM11_0, rfl, rfl⟩; simp only [hp_next] at fM11_0
              try simp -dsimp -implicitDefEqProofs [e0, gs_W0, List.set_set, hp_over_some, hp_over_none]
              exact hK _ _ ⟨M11, (by omega), rfl, rfl⟩
             rintro a σ ⟨M11, fM11_0, rfl, rfl⟩
             obtain ⟨r34, hr34, H⟩ := bindE H
             refine AWP_rd tok tokM [] [3, 5] [0, 1, 2, 4, 3, 5, 6, 7, 8] [0, 8] (fun a σ => a = [(0, .ptr w0 r0_ 0), (8, .int .i64 r34)] ∧ σ = hp E0 [(w0, some ⟨63, 3, W0.set r0_ [.osl 3 1 (encL rI r33.Regs), .int .i64 r33.Pc, .osl 3 1 (encL rI r33.Mem)]⟩), (M1 + 10, some ⟨103, 5, [[.int .i64 r5.1.Op, .int .i64 r5.1.Rd, .int .i64 r5.1.Rs, .int .i64 r5.1.Rt, .int .i64 r5.1.Imm]]⟩)] (M11 + 9)) (by decide) (fun K hK => ?_) ?_
             ·simp only [pickL, nthO_succ, nthO_zero]
              have e0 := nQ w0 (M1 + 10)
              simp -dsimp -implicitDefEqProofs [e0, gs_W0, List.set_set]
              refine Pc.mk (c74 hr34) ?_; try simp -dsimp -implicitDefEqProofs [e0, gs_W0, List.set_set]
              exact hK _ _ ⟨rfl, rfl⟩
             rintro a σ ⟨ha, rfl⟩
             replace H := oi H
             refine hJ1 _ _ _ H.symm ?_; rw [ha]
             exact Rc.fin (hp_skip (AHeap.Sub.trans (AHeap.Sub.refl _) (hp_drop rfl (by simp; try omega)))) ⟨M11 + 9, (by omega), rfl, rfl⟩
            ·replace H := ifF C13 H
             obtain ⟨v35, hv35, H⟩ := bindE H
             obtain ⟨r36, hr36, H⟩ := bindE H
             obtain ⟨r37, hr37, H⟩ := bindE H
             refine AWP_rd tok tokM [] [2, 4, 11] [0, 1, 3, 8, 9, 4, 5, 6, 7, 10, 2, 11] [0, 8] (fun a σ => ∃ M12 : Nat, M9 + 16 ≤ M12 ∧ a = [(0, .ptr w0 r0_ 0), (8, .int .i64 r8)] ∧ σ = hp E0 [(w0, some ⟨63, 3, W0.set r0_ [.osl 3 1 (encL rI r37.Regs), .int .i64 r37.Pc, .osl 3 1 (encL rI r37.Mem)]⟩), (M1 + 10, some ⟨103, 5, [[.int .i64 r5.1.Op, .int .i64 r5.1.Rd, .int .i64 r5.1.Rs, .int .i64 r5.1.Rt, .int .i64 r5.1.Imm]]⟩)] M12) (by decide) (fun K hK => ?_) ?_
             ·simp only [pickL, nthO_succ, nthO_zero]
              have e0 := nQ w0 (M1 + 10)
              simp -dsimp -implicitDefEqProofs [e0, gs_W0, List.set_set, gx109 hv35]
              refine Pc.mk (c77 hr36) ?_; try simp -dsimp -implicitDefEqProofs [e0, gs_W0, List.set_set, gx109 hv35]
              refine (c75_moo (W0 := W0.set r0_ [.osl 3 1 (encL rI p0.Regs), .int .i64 p0.Pc, .osl 3 1 (encL rI p0.Mem)]) (r0_ := r0_) (H := hr37) (by simp [e0, gs_W0, List.set_set, gx109 hv35]) (by simp [e0, gs_W0, List.set_set, gx109 hv35])).mono ?_; rintro _ _ ⟨M12, fM12_0, rfl, rfl⟩; simp only [hp_next] at fM12_0
              try simp -dsimp -implicitDefEqProofs [e0, gs_W0, List.set_set, gx109 hv35, hp_over_some, hp_over_none]
              exact hK _ _ ⟨M12, (by omega), rfl, rfl⟩
             rintro a σ ⟨M12, fM12_0, ha, rfl⟩
             replace H := oi H
             refine hJ1 _ _ _ H.symm ?_; rw [ha]
             exact Rc.fin (hp_skip (AHeap.Sub.trans (AHeap.Sub.refl _) (hp_drop rfl (by simp; try omega)))) ⟨M12, (by omega), rfl, rfl⟩
         replace H := hj3
         refine Sx tok [] [0, 4, 6, 7, 8, 51, 128] (by
          intro K k
          have e0 := nQ w0 (M1 + 10)
          simp -dsimp -implicitDefEqProofs [e0, gs_W0, List.set_set]
          exact k) ?_
         refine Cd (fun C14 => ?_) fun C14 => ?_
         ·replace H := ifT C14 H
          refine AWP_skip ?_
          show K5 _ _
          refine kE [0, 4, 6, 7, 8, 51, 128] fun a' ha => ?_
          obtain rfl := oi H
          refine hJ3 _ _ ?_; rw [ha]
          exact Rf ⟨M5 + 4, (by omega), (by omega), rfl, rfl⟩
         ·replace H := ifF C14 H
          refine Rt tok [] [0, 4, 6, 7, 8, 51, 128] (by
           intro K k
           have e0 := nQ w0 (M1 + 10)
           simp -dsimp -implicitDefEqProofs [e0, gs_W0, List.set_set]
           exact k) fun a ha => ?_
          obtain rfl := oi H
          refine hJ3 _ _ ?_; rw [ha]
          exact Rf ⟨M5 + 6, (by omega), (by omega), rfl, rfl⟩
      replace H := hj2
      refine Sx tok [] [0, 4, 6, 7, 8, 51, 90] (by
       intro K k
       have e0 := nQ w0 (M1 + 10)
       simp -dsimp -implicitDefEqProofs [e0, gs_W0, List.set_set]
       exact k) ?_
      refine Cd (fun C15 => ?_) fun C15 => ?_
      ·replace H := ifT C15 H
       refine AWP_skip ?_
       show K6 _ _
       refine kE [0, 4, 6, 7, 8, 51, 90] fun a' ha => ?_
       obtain rfl := oi H
       refine hJ2 _ _ ?_; rw [ha]
       exact Rf ⟨M1 + 51, (by omega), (by omega), rfl, rfl⟩
      ·replace H := ifF C15 H
       refine Rt tok [] [0, 4, 6, 7, 8, 51, 90] (by
        intro K k
        have e0 := nQ w0 (M1 + 10)
        simp -dsimp -implicitDefEqProofs [e0, gs_W0, List.set_set]
        exact k) fun a ha => ?_
       obtain rfl := oi H
       refine hJ2 _ _ ?_; rw [ha]
       exact Rf ⟨M1 + 53, (by omega), (by omega), rfl, rfl⟩
theorem c33_moo {p0 : gMachine} {p1 : (List gBox)} {p2 : (List Int)} {r : Int × gMachine × (List gBox) × (List Int)} (H : i_Machine_call_moo p0 p1 p2 = some r) {σ : AHeap} {w0 : Nat} {W0 : List (List AV)} {r0_ : Nat} {w1 : Nat} {w2 : Nat} {W2 : List (List AV)} {r2_ : Nat} {x2_ : List AV} {i2_ : Nat} {t2_ s2_ : Nat} (q0 : σ.objs w0 = some ⟨63, 3, W0⟩) (g0 : W0[r0_]? = some [.osl 3 1 (encL rI p0.Regs), .int .i64 p0.Pc, .osl 3 1 (encL rI p0.Mem)]) (q1 : σ.objs w1 = some ⟨93, 2, encL rBox_o p1⟩) (q2 : σ.objs w2 = some ⟨t2_, s2_, W2⟩) (g2 : W2[r2_]? = some x2_) (k2 : x2_[i2_]? = some (.osl 3 1 (encL rI p2))) (d0_1 : ¬ w0 = w1) (d0_2 : ¬ w0 = w2) (d1_2 : ¬ w1 = w2) : ACalls Tryz.prog G 33 [.ptr w0 r0_ 0, .sl w1 0 p1.length, .ptr w2 r2_ i2_] σ (fun v σ' => ∃ M : Nat, σ.next ≤ M ∧ r.2.2.1.length = p1.length ∧ v = .int .i64 r.1 ∧ σ' = hp σ.objs [(w0, some ⟨63, 3, W0.set r0_ [.osl 3 1 (encL rI r.2.1.Regs), .int .i64 r.2.1.Pc, .osl 3 1 (encL rI r.2.1.Mem)]⟩), (w1, some ⟨93, 2, encL rBox_o r.2.2.1⟩), (w2, some ⟨t2_, s2_, W2.set r2_ (x2_.set i2_ (.osl 3 1 (encL rI r.2.2.2)))⟩)] M) := by
 refine ACalls_fr (L := [(w0, some ⟨63, 3, W0⟩), (w1, some ⟨93, 2, encL rBox_o p1⟩), (w2, some ⟨t2_, s2_, W2⟩)]) (Q1 := fun v σ' => ∃ M : Nat, σ.next ≤ M ∧ r.2.2.1.length = p1.length ∧ v = .int .i64 r.1 ∧ σ' = hp E0 [(w0, some ⟨63, 3, W0.set r0_ [.osl 3 1 (encL rI r.2.1.Regs), .int .i64 r.2.1.Pc, .osl 3 1 (encL rI r.2.1.Mem)]⟩), (w1, some ⟨93, 2, encL rBox_o r.2.2.1⟩), (w2, some ⟨t2_, s2_, W2.set r2_ (x2_.set i2_ (.osl 3 1 (encL rI r.2.2.2)))⟩)] M) (by simp [q0, q1, q2]) (fun hlt => ?_) ?_ ⟨_, Tryz.func33, rfl, rfl⟩
 rotate_left
 ·rintro v σ1 ⟨M, h0, h1, rfl, rfl⟩
  exact ⟨_, M, rfl, by simp, by simp; try omega, M, h0, h1, rfl, rfl⟩
 generalize σ.next = N0 at hlt ⊢
 have lw0 : w0 < N0 := hlt _ (.head _) rfl
 have lw1 : w1 < N0 := hlt _ (.tail _ (.head _)) rfl
 have lw2 : w2 < N0 := hlt _ (.tail _ (.tail _ (.head _))) rfl
 have gs_W0 : ∀ x, (W0.set r0_ x)[r0_]? = some x := gsetW g0
 rw [← set_same g0]
 have gs_W2 : ∀ x, (W2.set r2_ x)[r2_]? = some x := gsetW g2
 have gs_x2_ : ∀ x, (x2_.set i2_ x)[i2_]? = some x := gsetC k2
 have ws_x2_ := winS k2
 have wl_x2_ := winL k2
 rw [show W2 = W2.set r2_ (x2_.set i2_ (.osl 3 1 (encL rI p2))) from by rw [set_same k2, set_same g2]]
 refine fnK tok Tryz.func33 Tryz.ntmps33 Tryz.results33 ?_
 simp only [argsA, Nat.reduceAdd, hp_next]
 unfold i_Machine_call_moo at H
 refine Sx tok [] [0, 1, 2] (by
  intro K k
  have e0 := nQ w0 w1
  have e1 := nQ w0 w2
  have e2 := nQ w1 w2
  simp -dsimp -implicitDefEqProofs [e0, e1, e2, gs_W0, List.set_set, gs_W2, gs_x2_, ws_x2_, wl_x2_]
  exact k) ?_
 refine gU AWP_ref w0 r0_ 0 ?_ (hr := by exact gs_W0 _)
 obtain ⟨v1, hv1, H⟩ := bindE H
 obtain ⟨v2, hv2, H⟩ := bindE H
 refine Sd tok tokM [] [3, 4, 5, 9, 10, 11] [0, 1, 2, 6, 7, 8, 3, 4, 5, 12, 9, 10, 11, 13] [0, 1, 2, 7, 8] (by
  intro K k
  have e0 := nQ w0 w1
  have e1 := nQ w0 w2
  have e2 := nQ w0 (N0 + 1)
  have e3 := nQ w1 w2
  have e4 := nQ w1 (N0 + 1)
  have e5 := nQ w2 (N0 + 1)
  simp only [pickL, nthO_succ, nthO_zero]
  simp -dsimp -implicitDefEqProofs [e0, e1, e2, e3, e4, e5, gs_W0, List.set_set, gs_W2, gs_x2_, ws_x2_, wl_x2_, ixo24 hv1, (show _[17]? = some v1 from (idx_lt3 hv1).2.2), ixo24 hv2, (show _[11]? = some v2 from (idx_lt3 hv2).2.2)]
  exact k) ?_
 refine AWP_sq [0, 1, 2, 7, 8] fun K1 hK1 => ?_
 obtain ⟨g6, hg6, H⟩ := bindE H
 refine Sx tok [] [0, 1, 2, 7, 8, 46] (X := [(0, .ptr w0 r0_ 0), (1, .sl w1 0 p1.length), (2, .ptr w2 r2_ i2_), (7, .int .i64 v1), (8, .int .i64 v2), (46, .bool g6)]) (Y := hp E0 [(w0, some ⟨63, 3, W0.set r0_ [.sl (N0 + 1) 0 p0.Regs.length, .int .i64 p0.Pc, .osl 3 1 (encL rI p0.Mem)]⟩), (w1, some ⟨93, 2, encL rBox_o p1⟩), (w2, some ⟨t2_, s2_, W2.set r2_ (x2_.set i2_ (.osl 3 1 (encL rI p2)))⟩), (N0 + 1, some ⟨3, 1, encL rI p0.Regs⟩)] (N0 + 39)) (by
  intro K k
  have e0 := nQ w0 w1
  have e1 := nQ w0 w2
  have e2 := nQ w0 (N0 + 1)
  have e3 := nQ w1 w2
  have e4 := nQ w1 (N0 + 1)
  have e5 := nQ w2 (N0 + 1)
  simp -dsimp -implicitDefEqProofs [e0, e1, e2, e3, e4, e5, gs_W0, List.set_set, gs_W2, gs_x2_, ws_x2_, wl_x2_]
  cases hbg6 : ine p0.Pc 0
  ·replace hg6 := ifF hbg6 hg6
   obtain ⟨g3, hg3, hg6⟩ := bindE hg6
   obtain ⟨g5, hg5, hg6⟩ := bindE hg6
   replace hg6 := Option.some.inj hg6; subst hg6
   try simp -dsimp -implicitDefEqProofs [e0, e1, e2, e3, e4, e5, gs_W0, List.set_set, gs_W2, gs_x2_, ws_x2_, wl_x2_, hbg6]
   cases hbg3 : ieq v1 1
   ·replace hg3 := ifF hbg3 hg3
    replace hg3 := Option.some.inj hg3; subst hg3
    try simp -dsimp -implicitDefEqProofs [e0, e1, e2, e3, e4, e5, gs_W0, List.set_set, gs_W2, gs_x2_, ws_x2_, wl_x2_, hbg6, hbg3]
    cases hbg5 : (ieq v1 2)
    ·replace hg5 := ifF hbg5 hg5
     replace hg5 := Option.some.inj hg5; subst hg5
     try simp -dsimp -implicitDefEqProofs [e0, e1, e2, e3, e4, e5, gs_W0, List.set_set, gs_W2, gs_x2_, ws_x2_, wl_x2_, hbg6, hbg3, hbg5]
     exact k
    ·replace hg5 := ifT hbg5 hg5
     obtain ⟨g4, hg4, hg5⟩ := bindE hg5
     replace hg5 := Option.some.inj hg5; subst hg5
     try simp -dsimp -implicitDefEqProofs [e0, e1, e2, e3, e4, e5, gs_W0, List.set_set, gs_W2, gs_x2_, ws_x2_, wl_x2_, hbg6, hbg3, hbg5]
     cases hbg4 : ilt v2 0
     ·replace hg4 := ifF hbg4 hg4
      replace hg4 := Option.some.inj hg4; subst hg4
      try simp -dsimp -implicitDefEqProofs [e0, e1, e2, e3, e4, e5, gs_W0, List.set_set, gs_W2, gs_x2_, ws_x2_, wl_x2_, hbg6, hbg3, hbg5, hbg4]
      exact k
     ·replace hg4 := ifT hbg4 hg4
      replace hg4 := Option.some.inj hg4; subst hg4
      try simp -dsimp -implicitDefEqProofs [e0, e1, e2, e3, e4, e5, gs_W0, List.set_set, gs_W2, gs_x2_, ws_x2_, wl_x2_, hbg6, hbg3, hbg5, hbg4]
      exact k
   ·replace hg3 := ifT hbg3 hg3
    replace hg3 := Option.some.inj hg3; subst hg3
    try simp -dsimp -implicitDefEqProofs [e0, e1, e2, e3, e4, e5, gs_W0, List.set_set, gs_W2, gs_x2_, ws_x2_, wl_x2_, hbg6, hbg3]
    replace hg5 := ifT rfl hg5
    obtain ⟨g4, hg4, hg5⟩ := bindE hg5
    replace hg5 := Option.some.inj hg5; subst hg5
    try simp -dsimp -implicitDefEqProofs [e0, e1, e2, e3, e4, e5, gs_W0, List.set_set, gs_W2, gs_x2_, ws_x2_, wl_x2_, hbg6, hbg3]
    cases hbg4 : ilt v2 0
    ·replace hg4 := ifF hbg4 hg4
     replace hg4 := Option.some.inj hg4; subst hg4
     try simp -dsimp -implicitDefEqProofs [e0, e1, e2, e3, e4, e5, gs_W0, List.set_set, gs_W2, gs_x2_, ws_x2_, wl_x2_, hbg6, hbg3, hbg4]
     exact k
    ·replace hg4 := ifT hbg4 hg4
     replace hg4 := Option.some.inj hg4; subst hg4
     try simp -dsimp -implicitDefEqProofs [e0, e1, e2, e3, e4, e5, gs_W0, List.set_set, gs_W2, gs_x2_, ws_x2_, wl_x2_, hbg6, hbg3, hbg4]
     exact k
  ·replace hg6 := ifT hbg6 hg6
   replace hg6 := Option.some.inj hg6; subst hg6
   try simp -dsimp -implicitDefEqProofs [e0, e1, e2, e3, e4, e5, gs_W0, List.set_set, gs_W2, gs_x2_, ws_x2_, wl_x2_, hbg6]
   exact k) ?_
 refine Cd (fun C1 => ?_) fun C1 => ?_
 ·replace H := ifT C1 H
  refine Sx tok [] [6] (by
   intro K k
   have e0 := nQ w0 w1
   have e1 := nQ w0 w2
   have e2 := nQ w0 (N0 + 1)
   have e3 := nQ w1 w2
   have e4 := nQ w1 (N0 + 1)
   have e5 := nQ w2 (N0 + 1)
   simp -dsimp -implicitDefEqProofs [e0, e1, e2, e3, e4, e5, gs_W0, List.set_set, gs_W2, gs_x2_, ws_x2_, wl_x2_]
   exact k) ?_
  obtain rfl := oi H
  refine Kp [6] ?_
  refine gP AWP_ref w0 r0_ 0 ?_ (hr := by exact gs_W0 _)
  have z0 := nQ w0 w1
  have z1 := nQ w0 w2
  have z2 := nQ w1 w2
  refine AWP_ret ?_
  refine ⟨[.int .i64 0], by simp [z0, z1, z2, gs_W0, gs_W2, gs_x2_, ws_x2_, wl_x2_], N0 + 40, by omega, by first | rfl | exact rfl | omega, ?_, ?_⟩
  ·simp [encL_nil]
  ·first | rfl | simp [List.set_set]
 ·replace H := ifF C1 H
  refine AWP_skip (Jn hK1 ?_)
  refine Sx tok [] [0, 1, 2, 7, 8, 9] (by
   intro K k
   have e0 := nQ w0 w1
   have e1 := nQ w0 w2
   have e2 := nQ w0 (N0 + 1)
   have e3 := nQ w1 w2
   have e4 := nQ w1 (N0 + 1)
   have e5 := nQ w2 (N0 + 1)
   simp -dsimp -implicitDefEqProofs [e0, e1, e2, e3, e4, e5, gs_W0, List.set_set, gs_W2, gs_x2_, ws_x2_, wl_x2_]
   exact k) ?_
  obtain ⟨flj1, hflj1, H⟩ := bindE H
  refine AWP_seq (AWP_named fun K2 hK2 => ?_)
  have hJ1 : ∀ (j1 : Int × gMachine × (List gBox) × (List Int)) a σ, flj1 = .next j1 → Rc G 107 N0 (fun a σ => ∃ M1 : Nat, N0 ≤ M1 ∧ j1.2.2.1.length = p1.length ∧ a = [(0, .ptr w0 r0_ 0), (9, .int .i64 j1.1)] ∧ σ = hp E0 [(w0, some ⟨63, 3, W0.set r0_ [.osl 3 1 (encL rI j1.2.1.Regs), .int .i64 j1.2.1.Pc, .osl 3 1 (encL rI j1.2.1.Mem)]⟩), (w1, some ⟨93, 2, encL rBox_o j1.2.2.1⟩), (w2, some ⟨t2_, s2_, W2.set r2_ (x2_.set i2_ (.osl 3 1 (encL rI j1.2.2.2)))⟩)] M1) (AAct.keep a [0, 9]) σ → K2 a σ := by
   rintro j1 a σ hfl ⟨b, τ, hr, M1, fM1_0, fM1_1, rfl, rfl⟩
   subst hfl; dsimp only at H
   refine hK2 _ _ (AWP_keep [0, 9] (AWP_ref hr ?_))
   refine gU AWP_ref w0 r0_ 0 ?_ (hr := by exact gs_W0 _)
   obtain ⟨v11, hv11, H⟩ := bindE H
   refine Sx tok [] [9] (by
    intro K k
    have e0 := nQ w0 w1
    have e1 := nQ w0 w2
    have e2 := nQ w0 M1
    have e3 := nQ w1 w2
    have e4 := nQ w1 M1
    have e5 := nQ w2 M1
    simp -dsimp -implicitDefEqProofs [e0, e1, e2, e3, e4, e5, gs_W0, List.set_set, gs_W2, gs_x2_, ws_x2_, wl_x2_, ixo24 hv11, (show _[1]? = some v11 from (idx_lt3 hv11).2.2)]
    exact k) ?_
   refine Sx tok [] [6] (by
    intro K k
    have e0 := nQ w0 w1
    have e1 := nQ w0 w2
    have e2 := nQ w0 M1
    have e3 := nQ w1 w2
    have e4 := nQ w1 M1
    have e5 := nQ w2 M1
    simp -dsimp -implicitDefEqProofs [e0, e1, e2, e3, e4, e5, gs_W0, List.set_set, gs_W2, gs_x2_, ws_x2_, wl_x2_]
    exact k) ?_
   obtain rfl := oi H
   refine Kp [6] ?_
   refine gP AWP_ref w0 r0_ 0 ?_ (hr := by exact gs_W0 _)
   have z3 := nQ w0 w1
   have z4 := nQ w0 w2
   have z5 := nQ w1 w2
   refine AWP_ret ?_
   refine ⟨[.int .i64 j1.1], by simp [z3, z4, z5, gs_W0, gs_W2, gs_x2_, ws_x2_, wl_x2_], M1 + 13, by omega, by first | rfl | exact fM1_1 | omega, ?_, ?_⟩
   ·simp [encL_nil]
   ·first | rfl | simp [List.set_set]
  have Gj1 := H; replace H := hflj1
  refine Sx tok [] [0, 1, 2, 8, 9, 47] (by
   intro K k
   have e0 := nQ w0 w1
   have e1 := nQ w0 w2
   have e2 := nQ w0 (N0 + 1)
   have e3 := nQ w1 w2
   have e4 := nQ w1 (N0 + 1)
   have e5 := nQ w2 (N0 + 1)
   simp -dsimp -implicitDefEqProofs [e0, e1, e2, e3, e4, e5, gs_W0, List.set_set, gs_W2, gs_x2_, ws_x2_, wl_x2_]
   exact k) ?_
  refine AWP_block (AWP_thenB ?_)
  refine Sx tok [] [0, 1, 2, 8, 9, 47, 48] (by
   intro K k
   have e0 := nQ w0 w1
   have e1 := nQ w0 w2
   have e2 := nQ w0 (N0 + 1)
   have e3 := nQ w1 w2
   have e4 := nQ w1 (N0 + 1)
   have e5 := nQ w2 (N0 + 1)
   simp -dsimp -implicitDefEqProofs [e0, e1, e2, e3, e4, e5, gs_W0, List.set_set, gs_W2, gs_x2_, ws_x2_, wl_x2_]
   exact k) ?_
  refine Cd (fun C2 => ?_) fun C2 => ?_
  ·replace H := ifT C2 H
   refine gP AWP_ref w0 r0_ 0 ?_ (hr := by exact gs_W0 _)
   refine gU AWP_ref w0 r0_ 0 ?_ (hr := by exact gs_W0 _)
   obtain ⟨v13, hv13, H⟩ := bindE H
   obtain ⟨v14, hv14, H⟩ := bindE H
   obtain ⟨r15, hr15, H⟩ := bindE H
   obtain ⟨l16, hl16, H⟩ := bindE H
   refine AWP_sd tok tokM [] [2, 6, 7, 8, 9] [0, 1, 3, 4, 5, 2, 6, 7, 8, 9, 10] [0, 9, 60] (fun a σ => ∃ M2 : Nat, N0 + 55 ≤ M2 ∧ a = [(0, .ptr w0 r0_ 0), (9, .int .i64 1), (60, .bool (bnot r15.1))] ∧ σ = hp E0 [(w0, some ⟨63, 3, W0.set r0_ [.sl (N0 + 43) 0 p0.Regs.length, .int .i64 p0.Pc, .osl 3 1 (encL rI p0.Mem)]⟩), (w1, some ⟨93, 2, encL rBox_o l16⟩), (w2, some ⟨t2_, s2_, W2.set r2_ (x2_.set i2_ (.osl 3 1 (encL rI p2)))⟩), (N0 + 43, some ⟨3, 1, encL rI p0.Regs⟩)] M2) (by decide) (fun K hK => ?_) ?_
   ·simp only [pickL, nthO_succ, nthO_zero]
    have e0 := nQ w0 w1
    have e1 := nQ w0 w2
    have e2 := nQ w0 (N0 + 43)
    have e3 := nQ w1 w2
    have e4 := nQ w1 (N0 + 43)
    have e5 := nQ w2 (N0 + 43)
    simp -dsimp -implicitDefEqProofs [e0, e1, e2, e3, e4, e5, gs_W0, List.set_set, gs_W2, gs_x2_, ws_x2_, wl_x2_, ixo29 hv13, (idx_lt3 hv13).2.2, ixo24 hv14, (show _[10]? = some v14 from (idx_lt3 hv14).2.2), (setx_iff.1 hl16).2.symm, set_rBox_o]
    refine (c69 (W0 := encL rBox_o p1) (r0_ := v2.toNat) (H := hr15) (by simp [e0, e1, e2, e3, e4, e5, gs_W0, List.set_set, gs_W2, gs_x2_, ws_x2_, wl_x2_, ixo29 hv13, (idx_lt3 hv13).2.2, ixo24 hv14, (show _[10]? = some v14 from (idx_lt3 hv14).2.2), (setx_iff.1 hl16).2.symm, set_rBox_o]) (by simp [e0, e1, e2, e3, e4, e5, gs_W0, List.set_set, gs_W2, gs_x2_, ws_x2_, wl_x2_, ixo29 hv13, (idx_lt3 hv13).2.2, ixo24 hv14, (show _[10]? = some v14 from (idx_lt3 hv14).2.2), (setx_iff.1 hl16).2.symm, set_rBox_o])).mono ?_; rintro _ _ ⟨M2, fM2_0, rfl, rfl⟩; simp only [hp_next] at fM2_0
    try simp -dsimp -implicitDefEqProofs [e0, e1, e2, e3, e4, e5, gs_W0, List.set_set, gs_W2, gs_x2_, ws_x2_, wl_x2_, ixo29 hv13, (idx_lt3 hv13).2.2, ixo24 hv14, (show _[10]? = some v14 from (idx_lt3 hv14).2.2), (setx_iff.1 hl16).2.symm, set_rBox_o, hp_over_some, hp_over_none]
    exact hK _ _ ⟨M2, (by omega), rfl, rfl⟩
   rintro a σ ⟨M2, fM2_0, rfl, rfl⟩
   try rw [← setx_len hl16]
   refine Cd (fun C3 => ?_) fun C3 => ?_
   ·replace H := ifT C3 H
    refine Sx tok [] [6] (by
     intro K k
     have e0 := nQ w0 w1
     have e1 := nQ w0 w2
     have e2 := nQ w0 (N0 + 43)
     have e3 := nQ w1 w2
     have e4 := nQ w1 (N0 + 43)
     have e5 := nQ w2 (N0 + 43)
     simp -dsimp -implicitDefEqProofs [e0, e1, e2, e3, e4, e5, gs_W0, List.set_set, gs_W2, gs_x2_, ws_x2_, wl_x2_]
     exact k) ?_
    obtain ⟨z, hz, H⟩ := bindE H
    obtain rfl := oi H; dsimp only at Gj1; obtain rfl := oi Gj1; have H := hz
    obtain rfl := oi H
    refine Kp [6] ?_
    refine gP AWP_ref w0 r0_ 0 ?_ (hr := by exact gs_W0 _)
    have z6 := nQ w0 w1
    have z7 := nQ w0 w2
    have z8 := nQ w1 w2
    refine AWP_ret ?_
    refine ⟨[.int .i64 3], by simp [z6, z7, z8, gs_W0, gs_W2, gs_x2_, ws_x2_, wl_x2_], M2 + 1, by omega, by first | rfl | exact (setx_len hl16) | omega, ?_, ?_⟩
    ·simp [encL_nil]
    ·first | rfl | simp [List.set_set]
   ·replace H := ifF C3 H
    refine AWP_skip ?_
    show K2 _ _
    refine kE [0, 9] fun a' ha => ?_
    replace H := oi H
    refine hJ1 _ _ _ H.symm ?_; rw [ha]
    refine gP Rc_ref w0 r0_ 0 ?_ (hr := by exact gs_W0 _)
    exact Rf ⟨M2, (by omega), (by first | rfl | exact (setx_len hl16) | omega), rfl, rfl⟩
  ·replace H := ifF C2 H
   refine Sx tok [] [0, 1, 2, 8, 9, 47, 61] (by
    intro K k
    have e0 := nQ w0 w1
    have e1 := nQ w0 w2
    have e2 := nQ w0 (N0 + 1)
    have e3 := nQ w1 w2
    have e4 := nQ w1 (N0 + 1)
    have e5 := nQ w2 (N0 + 1)
    simp -dsimp -implicitDefEqProofs [e0, e1, e2, e3, e4, e5, gs_W0, List.set_set, gs_W2, gs_x2_, ws_x2_, wl_x2_]
    exact k) ?_
   refine Cd (fun C4 => ?_) fun C4 => ?_
   ·replace H := ifT C4 H
    refine gP AWP_ref w0 r0_ 0 ?_ (hr := by exact gs_W0 _)
    obtain ⟨v17, hv17, H⟩ := bindE H
    obtain ⟨r18, hr18, H⟩ := bindE H
    obtain ⟨l19, hl19, H⟩ := bindE H
    refine AWP_sr tok [] [0, 9, 10, 11] (fun a σ => ∃ M3 : Nat, N0 + 54 ≤ M3 ∧ a = [(0, .ptr w0 r0_ 0), (9, .int .i64 1), (10, .int .i64 r18.1), (11, .bool r18.2.1)] ∧ σ = hp E0 [(w0, some ⟨63, 3, W0.set r0_ [.osl 3 1 (encL rI p0.Regs), .int .i64 p0.Pc, .osl 3 1 (encL rI p0.Mem)]⟩), (w1, some ⟨93, 2, encL rBox_o l19⟩), (w2, some ⟨t2_, s2_, W2.set r2_ (x2_.set i2_ (.osl 3 1 (encL rI p2)))⟩)] M3) (fun K hK => ?_) ?_
    ·skip
     have e0 := nQ w0 w1
     have e1 := nQ w0 w2
     have e2 := nQ w1 w2
     simp -dsimp -implicitDefEqProofs [e0, e1, e2, gs_W0, List.set_set, gs_W2, gs_x2_, ws_x2_, wl_x2_, ixo29 hv17, (idx_lt3 hv17).2.2, (setx_iff.1 hl19).2.symm, set_rBox_o]
     refine (c70 (W0 := encL rBox_o p1) (r0_ := v2.toNat) (H := hr18) (by simp [e0, e1, e2, gs_W0, List.set_set, gs_W2, gs_x2_, ws_x2_, wl_x2_, ixo29 hv17, (idx_lt3 hv17).2.2, (setx_iff.1 hl19).2.symm, set_rBox_o]) (by simp [e0, e1, e2, gs_W0, List.set_set, gs_W2, gs_x2_, ws_x2_, wl_x2_, ixo29 hv17, (idx_lt3 hv17).2.2, (setx_iff.1 hl19).2.symm, set_rBox_o])).mono ?_; rintro _ _ ⟨M3, fM3_0, rfl, rfl⟩; simp only [hp_next] at fM3_0
     try simp -dsimp -implicitDefEqProofs [e0, e1, e2, gs_W0, List.set_set, gs_W2, gs_x2_, ws_x2_, wl_x2_, ixo29 hv17, (idx_lt3 hv17).2.2, (setx_iff.1 hl19).2.symm, set_rBox_o, hp_over_some, hp_over_none]
     exact hK _ _ ⟨M3, (by omega), rfl, rfl⟩
    rintro a σ ⟨M3, fM3_0, rfl, rfl⟩
    try rw [← setx_len hl19]
    refine AWP_sq [0, 9, 10] fun K3 hK3 => ?_
    refine Sx tok [] [0, 9, 10, 71] (by
     intro K k
     have e0 := nQ w0 w1
     have e1 := nQ w0 w2
     have e2 := nQ w1 w2
     simp -dsimp -implicitDefEqProofs [e0, e1, e2, gs_W0, List.set_set, gs_W2, gs_x2_, ws_x2_, wl_x2_]
     exact k) ?_
    refine Cd (fun C5 => ?_) fun C5 => ?_
    ·replace H := ifT C5 H
     refine Sx tok [] [6] (by
      intro K k
      have e0 := nQ w0 w1
      have e1 := nQ w0 w2
      have e2 := nQ w1 w2
      simp -dsimp -implicitDefEqProofs [e0, e1, e2, gs_W0, List.set_set, gs_W2, gs_x2_, ws_x2_, wl_x2_]
      exact k) ?_
     obtain ⟨z, hz, H⟩ := bindE H
     obtain rfl := oi H; dsimp only at Gj1; obtain rfl := oi Gj1; have H := hz
     obtain rfl := oi H
     refine Kp [6] ?_
     have z9 := nQ w0 w1
     have z10 := nQ w0 w2
     have z11 := nQ w1 w2
     refine AWP_ret ?_
     refine ⟨[.int .i64 3], by simp [z9, z10, z11, gs_W0, gs_W2, gs_x2_, ws_x2_, wl_x2_], M3 + 3, by omega, by first | rfl | exact (setx_len hl19) | omega, ?_, ?_⟩
     ·simp [encL_nil]
     ·first | rfl | simp [List.set_set]
    ·replace H := ifF C5 H
     refine AWP_skip (Jn hK3 ?_)
     refine gU AWP_ref w0 r0_ 0 ?_ (hr := by exact gs_W0 _)
     obtain ⟨v20, hv20, H⟩ := bindE H
     obtain ⟨l21, hl21, H⟩ := bindE H
     refine Rt tok [] [0, 9] (by
      intro K k
      have e0 := nQ w0 w1
      have e1 := nQ w0 w2
      have e2 := nQ w0 (M3 + 2)
      have e3 := nQ w1 w2
      have e4 := nQ w1 (M3 + 2)
      have e5 := nQ w2 (M3 + 2)
      simp -dsimp -implicitDefEqProofs [e0, e1, e2, e3, e4, e5, gs_W0, List.set_set, gs_W2, gs_x2_, ws_x2_, wl_x2_, ixo24 hv20, (show _[10]? = some v20 from (idx_lt3 hv20).2.2), (show List.set _ 10 _ = l21 from (setx_iff.1 hl21).2.symm)]
      exact k) fun a ha => ?_
     (try rw [← setx_len hl21] at ha); (try rw [← setx_len hl21])
     replace H := oi H
     refine hJ1 _ _ _ H.symm ?_; rw [ha]
     refine gP Rc_ref w0 r0_ 0 ?_ (hr := by exact gs_W0 _)
     exact Rf ⟨M3 + 10, (by omega), (by first | rfl | exact (setx_len hl19) | omega), rfl, rfl⟩
   ·replace H := ifF C4 H
    refine Sx tok [] [0, 2, 9, 47, 78] (by
     intro K k
     have e0 := nQ w0 w1
     have e1 := nQ w0 w2
     have e2 := nQ w0 (N0 + 1)
     have e3 := nQ w1 w2
     have e4 := nQ w1 (N0 + 1)
     have e5 := nQ w2 (N0 + 1)
     simp -dsimp -implicitDefEqProofs [e0, e1, e2, e3, e4, e5, gs_W0, List.set_set, gs_W2, gs_x2_, ws_x2_, wl_x2_]
     exact k) ?_
    refine Cd (fun C6 => ?_) fun C6 => ?_
    ·replace H := ifT C6 H
     refine Rt tok [] [0, 9] (by
      intro K k
      have e0 := nQ w0 w1
      have e1 := nQ w0 w2
      have e2 := nQ w0 (N0 + 1)
      have e3 := nQ w1 w2
      have e4 := nQ w1 (N0 + 1)
      have e5 := nQ w2 (N0 + 1)
      simp -dsimp -implicitDefEqProofs [e0, e1, e2, e3, e4, e5, gs_W0, List.set_set, gs_W2, gs_x2_, ws_x2_, wl_x2_]
      exact k) fun a ha => ?_
     replace H := oi H
     refine hJ1 _ _ _ H.symm ?_; rw [ha]
     refine gP Rc_ref w0 r0_ 0 ?_ (hr := by exact gs_W0 _)
     exact Rf ⟨N0 + 48, (by omega), (by first | rfl | exact rfl | omega), rfl, rfl⟩
    ·replace H := ifF C6 H
     refine Sx tok [] [0, 2, 9, 47, 80] (by
      intro K k
      have e0 := nQ w0 w1
      have e1 := nQ w0 w2
      have e2 := nQ w0 (N0 + 1)
      have e3 := nQ w1 w2
      have e4 := nQ w1 (N0 + 1)
      have e5 := nQ w2 (N0 + 1)
      simp -dsimp -implicitDefEqProofs [e0, e1, e2, e3, e4, e5, gs_W0, List.set_set, gs_W2, gs_x2_, ws_x2_, wl_x2_]
      exact k) ?_
     refine Cd (fun C7 => ?_) fun C7 => ?_
     ·replace H := ifT C7 H
      refine gUnp AWP_ref (ty := 3) (sz := 1) (es := encL rI p2) (o := w2) (ob := ⟨t2_, s2_, W2.set r2_ (x2_.set i2_ (.osl 3 1 (encL rI p2)))⟩) (row := x2_.set i2_ (.osl 3 1 (encL rI p2))) (r := r2_) (i := i2_) [(w0, some ⟨63, 3, W0.set r0_ [.sl (N0 + 1) 0 p0.Regs.length, .int .i64 p0.Pc, .osl 3 1 (encL rI p0.Mem)]⟩), (w1, some ⟨93, 2, encL rBox_o p1⟩), (w2, some ⟨t2_, s2_, W2.set r2_ (x2_.set i2_ (.sl (N0 + 49) 0 p2.length))⟩), (N0 + 1, some ⟨3, 1, encL rI p0.Regs⟩), (N0 + 49, some ⟨3, 1, encL rI p2⟩)] (by simp (disch := omega)) (by simp (disch := omega) [gs_W2]) (by simp (disch := omega) [gs_x2_]) (by simp (disch := omega) [List.set_set]) ?_
      obtain ⟨v22, hv22, H⟩ := bindE H
      obtain ⟨l23, hl23, H⟩ := bindE H
      have q0 : ∀ σ i, buildSliceA T 24 true i 1 [(0, .int .i64 v22)] σ = some (.fsl (encL rI ([v22] : List Int)), σ) := fun _ _ => rfl
      refine AWP_ry tok tokM [10] [3, 7, 8, 9, 10, 11, 13] [0, 1, 2, 4, 5, 6, 3, 7, 8, 9, 10, 11, 12, 13] [(10, [3])] [0, 9] (fun a σ => a = [(0, .ptr w0 r0_ 0), (9, .int .i64 1)] ∧ σ = hp E0 [(w0, some ⟨63, 3, W0.set r0_ [.sl (N0 + 1) 0 p0.Regs.length, .int .i64 p0.Pc, .osl 3 1 (encL rI p0.Mem)]⟩), (w1, some ⟨93, 2, encL rBox_o p1⟩), (w2, some ⟨t2_, s2_, W2.set r2_ (x2_.set i2_ (.sl (N0 + 61) 0 l23.length))⟩), (N0 + 1, some ⟨3, 1, encL rI p0.Regs⟩), (N0 + 61, some ⟨3, 1, encL rI l23⟩)] (N0 + 64)) (by decide) (fun K hK => ?_) ?_
      ·simp only [pickL, nthO_succ, nthO_zero]
       have e0 := nQ w0 w1
       have e1 := nQ w0 w2
       have e2 := nQ w0 (N0 + 1)
       have e3 := nQ w0 (N0 + 49)
       have e4 := nQ w0 (N0 + 61)
       have e5 := nQ w1 w2
       have e6 := nQ w1 (N0 + 1)
       have e7 := nQ w1 (N0 + 49)
       have e8 := nQ w1 (N0 + 61)
       have e9 := nQ w2 (N0 + 1)
       have e10 := nQ w2 (N0 + 49)
       have e11 := nQ w2 (N0 + 61)
       simp -dsimp -implicitDefEqProofs [e0, e1, e2, e3, e4, e5, e6, e7, e8, e9, e10, e11, gs_W0, List.set_set, gs_W2, gs_x2_, ws_x2_, wl_x2_, ixo24 hv22, (show _[10]? = some v22 from (idx_lt3 hv22).2.2), q0, app24 hl23]
       exact hK _ _ ⟨rfl, rfl⟩
      rintro a σ ⟨ha, rfl⟩
      replace H := oi H
      refine hJ1 _ _ _ H.symm ?_; rw [ha]
      refine gP Rc_ref w0 r0_ 0 ?_ (hr := by exact gs_W0 _)
      refine gPk Rc_ref (k := l23.length) (o := w2) (ob := ⟨t2_, s2_, W2.set r2_ (x2_.set i2_ (.sl (N0 + 61) 0 l23.length))⟩) (row := x2_.set i2_ (.sl (N0 + 61) 0 l23.length)) (d := (N0 + 61)) (obd := ⟨3, 1, encL rI l23⟩) (r := r2_) (i := i2_) [(w0, some ⟨63, 3, W0.set r0_ [.osl 3 1 (encL rI p0.Regs), .int .i64 p0.Pc, .osl 3 1 (encL rI p0.Mem)]⟩), (w1, some ⟨93, 2, encL rBox_o p1⟩), (w2, some ⟨t2_, s2_, W2.set r2_ (x2_.set i2_ (.osl 3 1 (encL rI l23)))⟩)] (by simp (disch := omega)) (by simp (disch := omega) [gs_W2]) (by simp (disch := omega) [gs_x2_]) (by simp (disch := omega)) (by simp (disch := omega)) (by first | omega | simp) (by simp (disch := omega) [List.set_set, app_set] <;> omega) (by simp (disch := omega) [List.set_set, app_set]) ?_
      exact Rf ⟨N0 + 64, (by omega), (by first | rfl | exact rfl | omega), rfl, rfl⟩
     ·replace H := ifF C7 H
      refine Sx tok [] [95] (by
       intro K k
       have e0 := nQ w0 w1
       have e1 := nQ w0 w2
       have e2 := nQ w0 (N0 + 1)
       have e3 := nQ w1 w2
       have e4 := nQ w1 (N0 + 1)
       have e5 := nQ w2 (N0 + 1)
       simp -dsimp -implicitDefEqProofs [e0, e1, e2, e3, e4, e5, gs_W0, List.set_set, gs_W2, gs_x2_, ws_x2_, wl_x2_]
       exact k) ?_
      refine Cd (fun C8 => ?_) fun C8 => ?_
      ·replace H := ifT C8 H
       refine Sx tok [] [6] (by
        intro K k
        have e0 := nQ w0 w1
        have e1 := nQ w0 w2
        have e2 := nQ w0 (N0 + 1)
        have e3 := nQ w1 w2
        have e4 := nQ w1 (N0 + 1)
        have e5 := nQ w2 (N0 + 1)
        simp -dsimp -implicitDefEqProofs [e0, e1, e2, e3, e4, e5, gs_W0, List.set_set, gs_W2, gs_x2_, ws_x2_, wl_x2_]
        exact k) ?_
       obtain ⟨z, hz, H⟩ := bindE H
       obtain rfl := oi H; dsimp only at Gj1; obtain rfl := oi Gj1; have H := hz
       obtain rfl := oi H
       refine Kp [6] ?_
       refine gP AWP_ref w0 r0_ 0 ?_ (hr := by exact gs_W0 _)
       have z12 := nQ w0 w1
       have z13 := nQ w0 w2
       have z14 := nQ w1 w2
       refine AWP_ret ?_
       refine ⟨[.int .i64 4], by simp [z12, z13, z14, gs_W0, gs_W2, gs_x2_, ws_x2_, wl_x2_], N0 + 52, by omega, by first | rfl | exact rfl | omega, ?_, ?_⟩
       ·simp [encL_nil]
       ·first | rfl | simp [List.set_set]
      ·replace H := ifF C8 H
       refine Sx tok [] [6] (by
        intro K k
        have e0 := nQ w0 w1
        have e1 := nQ w0 w2
        have e2 := nQ w0 (N0 + 1)
        have e3 := nQ w1 w2
        have e4 := nQ w1 (N0 + 1)
        have e5 := nQ w2 (N0 + 1)
        simp -dsimp -implicitDefEqProofs [e0, e1, e2, e3, e4, e5, gs_W0, List.set_set, gs_W2, gs_x2_, ws_x2_, wl_x2_]
        exact k) ?_
       obtain ⟨z, hz, H⟩ := bindE H
       obtain rfl := oi H; dsimp only at Gj1; obtain rfl := oi Gj1; have H := hz
       obtain rfl := oi H
       refine Kp [6] ?_
       refine gP AWP_ref w0 r0_ 0 ?_ (hr := by exact gs_W0 _)
       have z15 := nQ w0 w1
       have z16 := nQ w0 w2
       have z17 := nQ w1 w2
       refine AWP_ret ?_
       refine ⟨[.int .i64 0], by simp [z15, z16, z17, gs_W0, gs_W2, gs_x2_, ws_x2_, wl_x2_], N0 + 52, by omega, by first | rfl | exact rfl | omega, ?_, ?_⟩
       ·simp [encL_nil]
       ·first | rfl | simp [List.set_set]
end Go.Proofs.YtlcilhmkbmgkeaaGreatDoor
