/- The contracts of functions of the program, part 4: each computes what its mirror computes. No conditions. -/
import Derived.Test.YtlcilhmkbmgkeaaGreatDoorNZT3
set_option linter.unusedSimpArgs false
set_option linter.unusedVariables false
set_option maxRecDepth 20000
set_option maxHeartbeats 4000000
namespace Go.Proofs.YtlcilhmkbmgkeaaGreatDoor
open Go Go.Abs Go.RowKit

theorem c62_o {p0 : gBox} {r : gBox} (H : l_toBox_o p0 = some r) {σ : AHeap} : ACalls Tryz.prog G 62 [.agg [.int .i64 p0.Room, .fsl (encL rI p0.Items)]] σ (fun v σ' => ∃ M n0 : Nat, σ.next ≤ M ∧ σ.next ≤ n0 ∧ n0 < M ∧ v = .agg [.int .i64 r.Room, .sl n0 0 r.Items.length] ∧ σ' = hp σ.objs [(n0, some ⟨3, 1, encL rI r.Items⟩)] M) := by
 refine ACalls_fr (L := []) (Q1 := fun v σ' => ∃ M n0 : Nat, σ.next ≤ M ∧ σ.next ≤ n0 ∧ n0 < M ∧ v = .agg [.int .i64 r.Room, .sl n0 0 r.Items.length] ∧ σ' = hp E0 [(n0, some ⟨3, 1, encL rI r.Items⟩)] M) (by simp []) (fun hlt => ?_) ?_ ⟨_, Tryz.func62, rfl, rfl⟩
 rotate_left
 ·rintro v σ1 ⟨M, n0, h0, h1, h2, rfl, rfl⟩
  exact ⟨_, M, rfl, by simp, by simp; try omega, M, n0, h0, h1, h2, rfl, rfl⟩
 generalize σ.next = N0 at hlt ⊢
 refine ACalls_thaw 4 ?_
 refine fnK tok Tryz.func62 Tryz.ntmps62 Tryz.results62 ?_
 simp only [argsA, Nat.reduceAdd, hp_next]
 unfold l_toBox_o at H
 refine S0 tok [0] [1, 2] ?_
 refine S0 tok [] [1, 2, 3] ?_
 refine S0 tok [] [1, 2, 3] ?_
 refine gP0 AWP_ref (N0 + 1) 0 1 3 1 (encL rI ([] : List Int)) ?_
 refine gW AWP_ref (N0 + 2) 0 1 ?_
 obtain ⟨r1, hr1, H⟩ := bindE H
 refine AWP_sr tok [] [2, 3] (fun a σ => ∃ M1 o1 : Nat, N0 + 12 ≤ M1 ∧ N0 + 12 ≤ o1 ∧ o1 < M1 ∧ a = [(2, .ptr (N0 + 1) 0 0), (3, .ptr (N0 + 2) 0 0)] ∧ σ = hp E0 [(N0 + 1, some ⟨93, 2, [[.int .i64 0, .osl 3 1 (encL rI ([] : List Int))]]⟩), (N0 + 2, some ⟨93, 2, [[.int .i64 p0.Room, .sl o1 0 r1.length]]⟩), (o1, some ⟨3, 1, encL rI r1⟩)] M1) (fun K hK => ?_) ?_
 ·skip
  simp -dsimp -implicitDefEqProofs
  refine (c26_o (H := hr1) ).mono ?_; rintro _ _ ⟨M1, o1, fM1_0, fM1_1, fM1_2, rfl, rfl⟩; simp only [hp_next] at fM1_0 fM1_1 fM1_2
  have eM1_0 := nQ o1 (N0 + 1)
  have eM1_1 := nQ o1 (N0 + 2)
  try simp -dsimp -implicitDefEqProofs [eM1_0, eM1_1, hp_over_some, hp_over_none]
  exact hK _ _ ⟨M1, o1, (by omega), (by omega), (by omega), rfl, rfl⟩
 rintro a σ ⟨M1, o1, fM1_0, fM1_1, fM1_2, rfl, rfl⟩
 refine Sx tok [] [2] (by
  intro K k
  have e0 := nQ (N0 + 1) o1
  have e1 := nQ (N0 + 2) o1
  simp -dsimp -implicitDefEqProofs [e0, e1]
  exact k) ?_
 obtain rfl := oi H
 refine Kp [2] ?_
 refine gDrop AWP_ref [(N0 + 1, some ⟨93, 2, [[.int .i64 p0.Room, .sl o1 0 r1.length]]⟩), (o1, some ⟨3, 1, encL rI r1⟩)] (hp_skip (AHeap.Sub.trans (hp_skip (AHeap.Sub.refl _)) (hp_drop rfl (by simp; try omega)))) ?_
 refine gP AWP_ref (N0 + 1) 0 1 ?_
 refine gU AWP_ref (N0 + 1) 0 1 ?_
 have z0 := nQ (N0 + 1) (M1 + 2)
 have z1 := nQ N0 (M1 + 1)
 refine AWP_ret ?_
 refine ⟨[.agg [.int .i64 p0.Room, .sl (M1 + 2) 0 r1.length]], by simp [z0, z1], (fun o => [N0 + 1].contains o), M1 + 3, M1 + 2, by omega, by omega, by omega, ?_, ?_⟩
 ·simp [encL_nil, z0, z1]
 ·rw [cutD (L' := [(M1 + 2, some ⟨3, 1, encL rI r1⟩)]) (by simp [z0, z1])]
  first | done | rfl | simp [List.set_set]
theorem c25_o2 {p0 : (List gBox)} {r : (List gBox)} (H : l_toBoxS_o2 p0 = some r) {σ : AHeap} : ACalls Tryz.prog G 25 [.fsl (encL rBox p0)] σ (fun v σ' => ∃ M n0 : Nat, σ.next ≤ M ∧ σ.next ≤ n0 ∧ n0 < M ∧ v = .sl n0 0 r.length ∧ σ' = hp σ.objs [(n0, some ⟨93, 2, encL rBox_o r⟩)] M) := by
 refine ACalls_fr (L := []) (Q1 := fun v σ' => ∃ M n0 : Nat, σ.next ≤ M ∧ σ.next ≤ n0 ∧ n0 < M ∧ v = .sl n0 0 r.length ∧ σ' = hp E0 [(n0, some ⟨93, 2, encL rBox_o r⟩)] M) (by simp []) (fun hlt => ?_) ?_ ⟨_, Tryz.func25, rfl, rfl⟩
 rotate_left
 ·rintro v σ1 ⟨M, n0, h0, h1, h2, rfl, rfl⟩
  exact ⟨_, M, rfl, by simp, by simp; try omega, M, n0, h0, h1, h2, rfl, rfl⟩
 generalize σ.next = N0 at hlt ⊢
 refine fnK tok Tryz.func25 Tryz.ntmps25 Tryz.results25 ?_
 simp only [argsA, Nat.reduceAdd, hp_next]
 unfold l_toBoxS_o2 at H
 refine S0 tok [] [0] ?_
 obtain ⟨l1, hl1, H⟩ := bindE H
 refine Sx tok [] [0, 3] (by intro K k; simp -dsimp -implicitDefEqProofs [makr29 hl1]; exact k) ?_
 refine AWP_sq [3] fun K1 hK1 => ?_
 refine gRep AWP_ref (o := (N0 + 3)) (ty := 93) (sz := 2) (m := Int.toNat (ilen p0)) (c := [.int .i64 0, .nilsl]) (c' := [.int .i64 0, .osl 3 1 []]) (.same (.own .nil)) [(N0 + 3, some ⟨93, 2, encL rBox_o l1⟩)] (by simp (disch := omega)) (by rw [mak_rep (f := rBox_o) (c := [.int .i64 0, .osl 3 1 []]) hl1 rfl]; simp) ?_
 refine S0 tok [] [0, 3, 4] ?_
 refine AWP_block (AWP_thenB ?_)
 obtain ⟨e1, hse1, H⟩ := bindE H
 refine AWP_lp [0, 3, 4] (fun s a σ => ∃ M1 o1 : Nat, N0 ≤ M1 ∧ N0 ≤ o1 ∧ o1 < M1 ∧ a = [(0, .fsl (encL rBox p0)), (3, .sl o1 0 s.2.length), (4, .int .i64 s.1)] ∧ σ = hp E0 [(o1, some ⟨93, 2, encL rBox_o s.2⟩)] M1) (fun s x a σ => x = .exit 0 ∧ Rc G 23 N0 (fun a σ => ∃ M2 o2 : Nat, N0 ≤ M2 ∧ N0 ≤ o2 ∧ o2 < M2 ∧ a = [(3, .sl o2 0 s.length)] ∧ σ = hp E0 [(o2, some ⟨93, 2, encL rBox_o s⟩)] M2) (AAct.keep a [3]) σ) hse1 ?_ ?_ ?_
 ·refine Rc.kp [0, 3, 4] [(0, .fsl (encL rBox p0)), (3, .sl (N0 + 3) 0 l1.length), (4, .int .i64 0)] rfl ?_
  exact Rf ⟨N0 + 6, (N0 + 3), (by omega), (by omega), (by omega), rfl, rfl⟩
 ·clear H hse1
  rintro ⟨s2, s3⟩ fl a σ H ⟨M1, o1, fM1_0, fM1_1, fM1_2, rfl, rfl⟩ K2 O2 hK2 hO2
  unfold l_toBoxS_o2_L1 at H; dsimp only at H
  refine AWP_sq [0, 3, 4] fun K3 hK3 => ?_
  refine S0 tok [] [0, 3, 4, 11] ?_
  refine Cd (fun C1 => ?_) fun C1 => ?_
  ·replace H := ifT C1 H
   refine AWP_skip (Jn hK3 ?_)
   refine AWP_sq [0, 3, 4] fun K4 hK4 => ?_
   refine AWP_block (AWP_thenB ?_)
   obtain ⟨v5, hv5, H⟩ := bindE H
   obtain ⟨r6, hr6, H⟩ := bindE H
   obtain ⟨v7, hv7, H⟩ := bindE H
   refine AWP_rt tok [] [0, 3, 4] (fun a σ => ∃ M3 o3 : Nat, M1 + 13 ≤ M3 ∧ M1 + 13 ≤ o3 ∧ o3 < M3 ∧ a = [(0, .fsl (encL rBox p0)), (3, .sl o1 0 s3.length), (4, .int .i64 s2)] ∧ σ = hp E0 [(o1, some ⟨93, 2, (encL rBox_o s3).set s2.toNat [.int .i64 r6.Room, .sl o3 0 r6.Items.length]⟩), (o3, some ⟨3, 1, encL rI r6.Items⟩)] M3) (fun K hK => ?_) ?_
   ·skip
    simp -dsimp -implicitDefEqProofs [ix23 hv5, ixo29 hv7, (idx_lt3 hv7).2.2]
    refine (c62_o (H := hr6) ).mono ?_; rintro _ _ ⟨M3, o3, fM3_0, fM3_1, fM3_2, rfl, rfl⟩; simp only [hp_next] at fM3_0 fM3_1 fM3_2
    have eM3_0 := nQ o3 o1
    try simp -dsimp -implicitDefEqProofs [ix23 hv5, ixo29 hv7, (idx_lt3 hv7).2.2, eM3_0, hp_over_some, hp_over_none]
    exact hK _ _ ⟨M3, o3, (by omega), (by omega), (by omega), rfl, rfl⟩
   rintro a σ ⟨M3, o3, fM3_0, fM3_1, fM3_2, ha, rfl⟩
   refine hK4 _ _ ?_; rw [ha]
   refine Rc.mk ?_
   refine Rt tok [] [0, 3, 4] (by
    intro K k
    have e0 := nQ o1 o3
    simp -dsimp -implicitDefEqProofs [e0, (gset hv7 _), List.set_set]
    exact k) fun a ha => ?_
   obtain ⟨l8, hl8, H⟩ := bindE H
   obtain rfl := oi H
   refine hK2 _ _ _ rfl ?_; rw [ha]
   refine gP Rc_ref o1 s2.toNat 1 ?_ (hr := by exact gset hv7 _)
   rw [show hp E0 [(o1, some ⟨93, 2, (encL rBox_o s3).set s2.toNat [.int .i64 r6.Room, .osl 3 1 (encL rI r6.Items)]⟩)] (M3 + 3) = hp E0 [(o1, some ⟨93, 2, encL rBox_o l8⟩)] (M3 + 3) from by rw [(setx_iff.1 hl8).2, ← encL_set]; rfl]; (try rw [← setx_len hl8])
   exact Rf ⟨M3 + 3, o1, (by omega), (by omega), (by omega), rfl, rfl⟩
  ·obtain rfl := oi (ifF C1 H)
   refine AWP_exit (hO2 _ _ _ _ rfl ⟨rfl, ?_⟩)
   refine Rc.rw (l := [3]) (X := [(3, .sl o1 0 s3.length)]) rfl ?_
   exact Rf ⟨M1 + 4, o1, (by omega), (by omega), (by omega), rfl, rfl⟩
 ·intro x a σ hx
  obtain ⟨y4, rfl⟩ : ∃ x, x = e1 := ⟨_, rfl⟩
  obtain ⟨rfl, b, τ, hr, M2, o2, fM2_0, fM2_1, fM2_2, rfl, rfl⟩ := hx
  dsimp only at H
  show K1 _ _
  refine hK1 _ _ (Rc_ref hr ?_)
  refine Rc.mk ?_
  refine S0 tok [] [2] ?_
  obtain rfl := oi H
  refine Kp [2] ?_
  refine AWP_ret ?_
  refine ⟨[.sl o2 0 y4.length], by simp, M2 + 2, o2, by omega, by omega, by omega, ?_, ?_⟩
  ·simp [encL_nil]
  ·first | rfl | simp [List.set_set]
theorem c7_o6 {p0 : gSquad} {r : gSquad} (H : l_toSquad_o6 p0 = some r) {σ : AHeap} : ACalls Tryz.prog G 7 [.agg [.fsl (encL rMachine p0.Harts), .fsl (encL rBox p0.Boxes), .int .i64 p0.Turn, .int .i64 p0.Idle, .fsl (encL rI p0.Out)]] σ (fun v σ' => ∃ M n0 n1 n2 : Nat, σ.next ≤ M ∧ σ.next ≤ n0 ∧ n0 < M ∧ σ.next ≤ n1 ∧ n1 < M ∧ σ.next ≤ n2 ∧ n2 < M ∧ ¬ n0 = n1 ∧ ¬ n0 = n2 ∧ ¬ n1 = n2 ∧ v = .agg [.sl n0 0 r.Harts.length, .sl n1 0 r.Boxes.length, .int .i64 r.Turn, .int .i64 r.Idle, .sl n2 0 r.Out.length] ∧ σ' = hp σ.objs [(n0, some ⟨63, 3, encL rMachine_oo r.Harts⟩), (n1, some ⟨93, 2, encL rBox_o r.Boxes⟩), (n2, some ⟨3, 1, encL rI r.Out⟩)] M) := by
 refine ACalls_fr (L := []) (Q1 := fun v σ' => ∃ M n0 n1 n2 : Nat, σ.next ≤ M ∧ σ.next ≤ n0 ∧ n0 < M ∧ σ.next ≤ n1 ∧ n1 < M ∧ σ.next ≤ n2 ∧ n2 < M ∧ ¬ n0 = n1 ∧ ¬ n0 = n2 ∧ ¬ n1 = n2 ∧ v = .agg [.sl n0 0 r.Harts.length, .sl n1 0 r.Boxes.length, .int .i64 r.Turn, .int .i64 r.Idle, .sl n2 0 r.Out.length] ∧ σ' = hp E0 [(n0, some ⟨63, 3, encL rMachine_oo r.Harts⟩), (n1, some ⟨93, 2, encL rBox_o r.Boxes⟩), (n2, some ⟨3, 1, encL rI r.Out⟩)] M) (by simp []) (fun hlt => ?_) ?_ ⟨_, Tryz.func7, rfl, rfl⟩
 rotate_left
 ·rintro v σ1 ⟨M, n0, n1, n2, h0, h1, h2, h3, h4, h5, h6, h7, h8, h9, rfl, rfl⟩
  exact ⟨_, M, rfl, by simp, by simp; try omega, M, n0, n1, n2, h0, h1, h2, h3, h4, h5, h6, h7, h8, h9, rfl, rfl⟩
 generalize σ.next = N0 at hlt ⊢
 refine ACalls_thaw 4 ?_
 refine fnK tok Tryz.func7 Tryz.ntmps7 Tryz.results7 ?_
 simp only [argsA, Nat.reduceAdd, hp_next]
 unfold l_toSquad_o6 at H
 refine S0 tok [0] [1, 2] ?_
 refine S0 tok [] [1, 2, 3] ?_
 refine gP0 AWP_ref (N0 + 1) 0 0 63 3 (encL rMachine_oo ([] : List gMachine)) ?_
 refine gP0 AWP_ref (N0 + 1) 0 1 93 2 (encL rBox_o ([] : List gBox)) ?_
 refine gP0 AWP_ref (N0 + 1) 0 4 3 1 (encL rI ([] : List Int)) ?_
 refine gP0 AWP_ref (N0 + 2) 0 0 63 3 (encL rMachine_oo ([] : List gMachine)) ?_
 refine gP0 AWP_ref (N0 + 2) 0 1 93 2 (encL rBox_o ([] : List gBox)) ?_
 refine gW AWP_ref (N0 + 2) 0 4 ?_
 obtain ⟨r1, hr1, H⟩ := bindE H
 refine AWP_sr tok [] [1, 2, 3] (fun a σ => ∃ M1 o1 : Nat, N0 + 8 ≤ M1 ∧ N0 + 8 ≤ o1 ∧ o1 < M1 ∧ a = [(1, .fptr [.fsl (encL rMachine p0.Harts), .fsl (encL rBox p0.Boxes), .int .i64 p0.Turn, .int .i64 p0.Idle, .fsl (encL rI p0.Out)] 0), (2, .ptr (N0 + 1) 0 0), (3, .ptr (N0 + 2) 0 0)] ∧ σ = hp E0 [(N0 + 1, some ⟨31, 5, [[.osl 63 3 (encL rMachine_oo ([] : List gMachine)), .osl 93 2 (encL rBox_o ([] : List gBox)), .int .i64 0, .int .i64 0, .osl 3 1 (encL rI ([] : List Int))]]⟩), (N0 + 2, some ⟨31, 5, [[.sl o1 0 r1.length, .osl 93 2 (encL rBox_o ([] : List gBox)), .int .i64 0, .int .i64 0, .fsl []]]⟩), (o1, some ⟨63, 3, encL rMachine_oo r1⟩)] M1) (fun K hK => ?_) ?_
 ·skip
  simp -dsimp -implicitDefEqProofs
  refine (c24_o3 (H := hr1) ).mono ?_; rintro _ _ ⟨M1, o1, fM1_0, fM1_1, fM1_2, rfl, rfl⟩; simp only [hp_next] at fM1_0 fM1_1 fM1_2
  have eM1_0 := nQ o1 (N0 + 1)
  have eM1_1 := nQ o1 (N0 + 2)
  try simp -dsimp -implicitDefEqProofs [eM1_0, eM1_1, hp_over_some, hp_over_none]
  exact hK _ _ ⟨M1, o1, (by omega), (by omega), (by omega), rfl, rfl⟩
 rintro a σ ⟨M1, o1, fM1_0, fM1_1, fM1_2, rfl, rfl⟩
 refine gP AWP_ref (N0 + 2) 0 0 ?_
 obtain ⟨r2, hr2, H⟩ := bindE H
 refine AWP_sr tok [] [1, 2, 3] (fun a σ => ∃ M2 o2 : Nat, M1 + 5 ≤ M2 ∧ M1 + 5 ≤ o2 ∧ o2 < M2 ∧ a = [(1, .fptr [.fsl (encL rMachine p0.Harts), .fsl (encL rBox p0.Boxes), .int .i64 p0.Turn, .int .i64 p0.Idle, .fsl (encL rI p0.Out)] 0), (2, .ptr (N0 + 1) 0 0), (3, .ptr (N0 + 2) 0 0)] ∧ σ = hp E0 [(N0 + 1, some ⟨31, 5, [[.osl 63 3 (encL rMachine_oo ([] : List gMachine)), .osl 93 2 (encL rBox_o ([] : List gBox)), .int .i64 0, .int .i64 0, .osl 3 1 (encL rI ([] : List Int))]]⟩), (N0 + 2, some ⟨31, 5, [[.osl 63 3 (encL rMachine_oo r1), .sl o2 0 r2.length, .int .i64 0, .int .i64 0, .fsl []]]⟩), (o2, some ⟨93, 2, encL rBox_o r2⟩)] M2) (fun K hK => ?_) ?_
 ·skip
  simp -dsimp -implicitDefEqProofs
  refine (c25_o2 (H := hr2) ).mono ?_; rintro _ _ ⟨M2, o2, fM2_0, fM2_1, fM2_2, rfl, rfl⟩; simp only [hp_next] at fM2_0 fM2_1 fM2_2
  have eM2_0 := nQ o2 (N0 + 1)
  have eM2_1 := nQ o2 (N0 + 2)
  try simp -dsimp -implicitDefEqProofs [eM2_0, eM2_1, hp_over_some, hp_over_none]
  exact hK _ _ ⟨M2, o2, (by omega), (by omega), (by omega), rfl, rfl⟩
 rintro a σ ⟨M2, o2, fM2_0, fM2_1, fM2_2, rfl, rfl⟩
 refine Sx tok [] [1, 2, 3] (by
  intro K k
  have e0 := nQ (N0 + 1) o2
  have e1 := nQ (N0 + 2) o2
  simp -dsimp -implicitDefEqProofs [e0, e1]
  exact k) ?_
 refine Sx tok [] [1, 2, 3] (by
  intro K k
  have e0 := nQ (N0 + 1) o2
  have e1 := nQ (N0 + 2) o2
  simp -dsimp -implicitDefEqProofs [e0, e1]
  exact k) ?_
 refine gP AWP_ref (N0 + 2) 0 1 ?_
 obtain ⟨r3, hr3, H⟩ := bindE H
 refine AWP_sr tok [] [2, 3] (fun a σ => ∃ M3 o3 : Nat, M2 + 13 ≤ M3 ∧ M2 + 13 ≤ o3 ∧ o3 < M3 ∧ a = [(2, .ptr (N0 + 1) 0 0), (3, .ptr (N0 + 2) 0 0)] ∧ σ = hp E0 [(N0 + 1, some ⟨31, 5, [[.osl 63 3 (encL rMachine_oo ([] : List gMachine)), .osl 93 2 (encL rBox_o ([] : List gBox)), .int .i64 0, .int .i64 0, .osl 3 1 (encL rI ([] : List Int))]]⟩), (N0 + 2, some ⟨31, 5, [[.osl 63 3 (encL rMachine_oo r1), .osl 93 2 (encL rBox_o r2), .int .i64 p0.Turn, .int .i64 p0.Idle, .sl o3 0 r3.length]]⟩), (o3, some ⟨3, 1, encL rI r3⟩)] M3) (fun K hK => ?_) ?_
 ·skip
  simp -dsimp -implicitDefEqProofs
  refine (c26_o (H := hr3) ).mono ?_; rintro _ _ ⟨M3, o3, fM3_0, fM3_1, fM3_2, rfl, rfl⟩; simp only [hp_next] at fM3_0 fM3_1 fM3_2
  have eM3_0 := nQ o3 (N0 + 1)
  have eM3_1 := nQ o3 (N0 + 2)
  try simp -dsimp -implicitDefEqProofs [eM3_0, eM3_1, hp_over_some, hp_over_none]
  exact hK _ _ ⟨M3, o3, (by omega), (by omega), (by omega), rfl, rfl⟩
 rintro a σ ⟨M3, o3, fM3_0, fM3_1, fM3_2, rfl, rfl⟩
 refine gU AWP_ref (N0 + 2) 0 0 ?_
 refine gU AWP_ref (N0 + 2) 0 1 ?_
 refine Sx tok [] [2] (by
  intro K k
  have e0 := nQ (N0 + 1) o3
  have e1 := nQ (N0 + 1) M3
  have e2 := nQ (N0 + 1) (M3 + 1)
  have e3 := nQ N0 M3
  have e4 := nQ (N0 + 2) o3
  have e5 := nQ (N0 + 2) M3
  have e6 := nQ (N0 + 2) (M3 + 1)
  have e7 := nQ o3 M3
  have e8 := nQ o3 (M3 + 1)
  simp -dsimp -implicitDefEqProofs [e0, e1, e2, e3, e4, e5, e6, e7, e8]
  exact k) ?_
 obtain rfl := oi H
 refine Kp [2] ?_
 refine gDrop AWP_ref [(N0 + 1, some ⟨31, 5, [[.sl M3 0 r1.length, .sl (M3 + 1) 0 r2.length, .int .i64 p0.Turn, .int .i64 p0.Idle, .sl o3 0 r3.length]]⟩), (o3, some ⟨3, 1, encL rI r3⟩), (M3, some ⟨63, 3, encL rMachine_oo r1⟩), (M3 + 1, some ⟨93, 2, encL rBox_o r2⟩)] (hp_skip (AHeap.Sub.trans (hp_skip (hp_skip (hp_skip (AHeap.Sub.refl _)))) (hp_drop rfl (by simp; try omega)))) ?_
 refine gP AWP_ref (N0 + 1) 0 0 ?_
 refine gP AWP_ref (N0 + 1) 0 1 ?_
 refine gP AWP_ref (N0 + 1) 0 4 ?_
 refine gU AWP_ref (N0 + 1) 0 0 ?_
 refine gU AWP_ref (N0 + 1) 0 1 ?_
 refine gU AWP_ref (N0 + 1) 0 4 ?_
 have z0 := nQ (N0 + 1) (M3 + 4)
 have z1 := nQ N0 (M3 + 3)
 have z2 := nQ (N0 + 1) (M3 + 5)
 have z3 := nQ N0 (M3 + 4)
 have z4 := nQ (N0 + 1) (M3 + 6)
 have z5 := nQ N0 (M3 + 5)
 refine AWP_ret ?_
 refine ⟨[.agg [.sl (M3 + 4) 0 r1.length, .sl (M3 + 5) 0 r2.length, .int .i64 p0.Turn, .int .i64 p0.Idle, .sl (M3 + 6) 0 r3.length]], by simp [z0, z1, z2, z3, z4, z5], (fun o => [N0 + 1].contains o), M3 + 7, M3 + 4, M3 + 5, M3 + 6, by omega, by omega, by omega, by omega, by omega, by omega, by omega, by omega, by omega, by omega, ?_, ?_⟩
 ·simp [encL_nil, z0, z1, z2, z3, z4, z5]
 ·rw [cutD (L' := [(M3 + 4, some ⟨63, 3, encL rMachine_oo r1⟩), (M3 + 5, some ⟨93, 2, encL rBox_o r2⟩), (M3 + 6, some ⟨3, 1, encL rI r3⟩)]) (by simp [z0, z1, z2, z3, z4, z5])]
  first | done | rfl | simp [List.set_set]
theorem c43 {p0 : (List Int)} {p1 : Int} {r : Int} (H : l_heldIntS p0 p1 = some r) : APure Tryz.prog G 43 [.fsl (encL rI p0), .int .i64 p1] (.int .i64 r) := by
 refine APure_fn (fun N0 => ?_) (by simp)
 refine fnK tok Tryz.func43 Tryz.ntmps43 Tryz.results43 ?_
 simp only [argsA, Nat.reduceAdd, hp_next]
 unfold l_heldIntS at H
 refine S0 tok [] [0, 1] ?_
 refine AWP_sq [1] fun K1 hK1 => ?_
 refine S0 tok [] [0, 1, 5] ?_
 refine AWP_block (AWP_thenB ?_)
 obtain ⟨e1, hse1, H⟩ := bindE H
 refine AWP_lp [0, 1, 5] (fun s a σ => ∃ M1 : Nat, N0 ≤ M1 ∧ a = [(0, .fsl (encL rI p0)), (1, .int .i64 s.1), (5, .int .i64 s.2)] ∧ σ = hp E0 [] M1) (fun e x a σ => match e with | .inl s => x = .exit 0 ∧ Rc G 21 N0 (fun a σ => ∃ M2 : Nat, N0 ≤ M2 ∧ a = [(1, .int .i64 s)] ∧ σ = hp E0 [] M2) (AAct.keep a [1]) σ | .inr s => x = .ret ∧ ∃ vs, resA T σ a [.tmp 4] = some vs ∧ ∃ d, thawA (fun _ => true) σ d (tupA vs) = .int .i64 s) hse1 ?_ ?_ ?_
 ·refine Rc.kp [0, 1, 5] [(0, .fsl (encL rI p0)), (1, .int .i64 p1), (5, .int .i64 0)] rfl ?_
  exact Rf ⟨N0 + 2, (by omega), rfl, rfl⟩
 ·clear H hse1
  rintro ⟨s1, s2⟩ fl a σ H ⟨M1, fM1_0, rfl, rfl⟩ K2 O2 hK2 hO2
  unfold l_heldIntS_L1 at H; dsimp only at H
  refine AWP_sq [0, 1, 5] fun K3 hK3 => ?_
  refine S0 tok [] [0, 1, 5, 9] ?_
  refine Cd (fun C1 => ?_) fun C1 => ?_
  ·replace H := ifT C1 H
   refine AWP_skip (Jn hK3 ?_)
   refine AWP_sq [0, 1, 5] fun K4 hK4 => ?_
   refine AWP_block (AWP_thenB ?_)
   refine AWP_sq [0, 1, 5] fun K5 hK5 => ?_
   obtain ⟨v4, hv4, H⟩ := bindE H
   refine Sx tok [] [0, 1, 5, 17] (by intro K k; simp -dsimp -implicitDefEqProofs [ix24 hv4]; exact k) ?_
   refine Cd (fun C2 => ?_) fun C2 => ?_
   ·replace H := ifT C2 H
    refine S0 tok [] [4] ?_
    obtain rfl := oi H
    refine Kp [4] ?_
    refine AWP_ret (hO2 _ _ _ _ rfl ⟨rfl, ?_⟩)
    exact ⟨[.int .i64 (-1)], by simp, 4, by simp [encL_nil]⟩
   ·replace H := ifF C2 H
    refine AWP_skip (Jn hK5 ?_)
    refine Rt0 tok [] [0, 1, 5] fun a ha => ?_
    refine hK4 _ _ ?_; rw [ha]
    refine Rc.mk ?_
    refine Rt0 tok [] [0, 1, 5] fun a ha => ?_
    obtain rfl := oi H
    refine hK2 _ _ _ rfl ?_; rw [ha]
    exact Rf ⟨M1 + 16, (by omega), rfl, rfl⟩
  ·obtain rfl := oi (ifF C1 H)
   refine AWP_exit (hO2 _ _ _ _ rfl ⟨rfl, ?_⟩)
   refine Rc.rw (l := [1]) (X := [(1, .int .i64 s1)]) rfl ?_
   exact Rf ⟨M1 + 4, (by omega), rfl, rfl⟩
 ·intro x a σ hx
  rcases e1 with y3 | r0
  ·obtain ⟨rfl, b, τ, hr, M2, fM2_0, rfl, rfl⟩ := hx
   dsimp only at H
   show K1 _ _
   refine hK1 _ _ (Rc_ref hr ?_)
   refine Rc.mk ?_
   refine S0 tok [] [4] ?_
   obtain rfl := oi H; exact AWP_ret ⟨_, rfl, 4, by simp [encL_nil]⟩
  ·obtain ⟨rfl, hx2⟩ := hx
   dsimp only at H
   obtain rfl := oi H; first | exact hx2 | (simp only [List.set_set] at hx2 ⊢; exact hx2)
theorem c41 {p0 : (List gMachine)} {p1 : Int} {r : Int} (H : l_heldMachineS p0 p1 = some r) : APure Tryz.prog G 41 [.fsl (encL rMachine p0), .int .i64 p1] (.int .i64 r) := by
 refine APure_fn (fun N0 => ?_) (by simp)
 refine fnK tok Tryz.func41 Tryz.ntmps41 Tryz.results41 ?_
 simp only [argsA, Nat.reduceAdd, hp_next]
 unfold l_heldMachineS at H
 refine S0 tok [] [0, 1] ?_
 refine AWP_sq [1] fun K1 hK1 => ?_
 refine S0 tok [] [0, 1, 5] ?_
 refine AWP_block (AWP_thenB ?_)
 obtain ⟨e1, hse1, H⟩ := bindE H
 refine AWP_lp [0, 1, 5] (fun s a σ => ∃ M1 : Nat, N0 ≤ M1 ∧ a = [(0, .fsl (encL rMachine p0)), (1, .int .i64 s.1), (5, .int .i64 s.2)] ∧ σ = hp E0 [] M1) (fun e x a σ => match e with | .inl s => x = .exit 0 ∧ Rc G 40 N0 (fun a σ => ∃ M2 : Nat, N0 ≤ M2 ∧ a = [(1, .int .i64 s)] ∧ σ = hp E0 [] M2) (AAct.keep a [1]) σ | .inr s => x = .ret ∧ ∃ vs, resA T σ a [.tmp 4] = some vs ∧ ∃ d, thawA (fun _ => true) σ d (tupA vs) = .int .i64 s) hse1 ?_ ?_ ?_
 ·refine Rc.kp [0, 1, 5] [(0, .fsl (encL rMachine p0)), (1, .int .i64 p1), (5, .int .i64 0)] rfl ?_
  exact Rf ⟨N0 + 2, (by omega), rfl, rfl⟩
 ·clear H hse1
  rintro ⟨s1, s2⟩ fl a σ H ⟨M1, fM1_0, rfl, rfl⟩ K2 O2 hK2 hO2
  unfold l_heldMachineS_L1 at H; dsimp only at H
  refine AWP_sq [0, 1, 5] fun K3 hK3 => ?_
  refine S0 tok [] [0, 1, 5, 9] ?_
  refine Cd (fun C1 => ?_) fun C1 => ?_
  ·replace H := ifT C1 H
   refine AWP_skip (Jn hK3 ?_)
   refine AWP_sq [0, 1, 5] fun K4 hK4 => ?_
   refine AWP_block (AWP_thenB ?_)
   obtain ⟨v4, hv4, H⟩ := bindE H
   obtain ⟨r5, hr5, H⟩ := bindE H
   refine Sx tok [] [0, 1, 5] (by intro K k; (repeat first | simp -dsimp -implicitDefEqProofs [ix28 hv4] | refine (c43 hr5).app ?_); exact k) ?_
   refine AWP_sq [0, 1, 5] fun K5 hK5 => ?_
   refine S0 tok [] [0, 1, 5, 20] ?_
   refine Cd (fun C2 => ?_) fun C2 => ?_
   ·replace H := ifT C2 H
    refine S0 tok [] [4] ?_
    obtain rfl := oi H
    refine Kp [4] ?_
    refine AWP_ret (hO2 _ _ _ _ rfl ⟨rfl, ?_⟩)
    exact ⟨[.int .i64 (-1)], by simp, 4, by simp [encL_nil]⟩
   ·replace H := ifF C2 H
    refine AWP_skip (Jn hK5 ?_)
    refine AWP_sq [0, 1, 5] fun K6 hK6 => ?_
    refine Sx tok [] [0, 1, 5, 27] (by intro K k; simp -dsimp -implicitDefEqProofs [ix28 hv4]; exact k) ?_
    refine Cd (fun C3 => ?_) fun C3 => ?_
    ·replace H := ifT C3 H
     refine S0 tok [] [4] ?_
     obtain rfl := oi H
     refine Kp [4] ?_
     refine AWP_ret (hO2 _ _ _ _ rfl ⟨rfl, ?_⟩)
     exact ⟨[.int .i64 (-1)], by simp, 4, by simp [encL_nil]⟩
    ·replace H := ifF C3 H
     refine AWP_skip (Jn hK6 ?_)
     refine S0 tok [] [0, 1, 5] ?_
     obtain ⟨r6, hr6, H⟩ := bindE H
     refine Sx tok [] [0, 1, 5] (by intro K k; (repeat first | simp -dsimp -implicitDefEqProofs [ix28 hv4] | refine (c43 hr6).app ?_); exact k) ?_
     refine S0 tok [] [0, 1, 5, 38] ?_
     refine Cd (fun C4 => ?_) fun C4 => ?_
     ·replace H := ifT C4 H
      refine S0 tok [] [4] ?_
      obtain rfl := oi H
      refine Kp [4] ?_
      refine AWP_ret (hO2 _ _ _ _ rfl ⟨rfl, ?_⟩)
      exact ⟨[.int .i64 (-1)], by simp, 4, by simp [encL_nil]⟩
     ·replace H := ifF C4 H
      refine AWP_skip (Jn hK4 ?_)
      refine Rt0 tok [] [0, 1, 5] fun a ha => ?_
      obtain rfl := oi H
      refine hK2 _ _ _ rfl ?_; rw [ha]
      exact Rf ⟨M1 + 37, (by omega), rfl, rfl⟩
  ·obtain rfl := oi (ifF C1 H)
   refine AWP_exit (hO2 _ _ _ _ rfl ⟨rfl, ?_⟩)
   refine Rc.rw (l := [1]) (X := [(1, .int .i64 s1)]) rfl ?_
   exact Rf ⟨M1 + 4, (by omega), rfl, rfl⟩
 ·intro x a σ hx
  rcases e1 with y3 | r0
  ·obtain ⟨rfl, b, τ, hr, M2, fM2_0, rfl, rfl⟩ := hx
   dsimp only at H
   show K1 _ _
   refine hK1 _ _ (Rc_ref hr ?_)
   refine Rc.mk ?_
   refine S0 tok [] [4] ?_
   obtain rfl := oi H; exact AWP_ret ⟨_, rfl, 4, by simp [encL_nil]⟩
  ·obtain ⟨rfl, hx2⟩ := hx
   dsimp only at H
   obtain rfl := oi H; first | exact hx2 | (simp only [List.set_set] at hx2 ⊢; exact hx2)
theorem c42 {p0 : (List gBox)} {p1 : Int} {r : Int} (H : l_heldBoxS p0 p1 = some r) : APure Tryz.prog G 42 [.fsl (encL rBox p0), .int .i64 p1] (.int .i64 r) := by
 refine APure_fn (fun N0 => ?_) (by simp)
 refine fnK tok Tryz.func42 Tryz.ntmps42 Tryz.results42 ?_
 simp only [argsA, Nat.reduceAdd, hp_next]
 unfold l_heldBoxS at H
 refine S0 tok [] [0, 1] ?_
 refine AWP_sq [1] fun K1 hK1 => ?_
 refine S0 tok [] [0, 1, 5] ?_
 refine AWP_block (AWP_thenB ?_)
 obtain ⟨e1, hse1, H⟩ := bindE H
 refine AWP_lp [0, 1, 5] (fun s a σ => ∃ M1 : Nat, N0 ≤ M1 ∧ a = [(0, .fsl (encL rBox p0)), (1, .int .i64 s.1), (5, .int .i64 s.2)] ∧ σ = hp E0 [] M1) (fun e x a σ => match e with | .inl s => x = .exit 0 ∧ Rc G 31 N0 (fun a σ => ∃ M2 : Nat, N0 ≤ M2 ∧ a = [(1, .int .i64 s)] ∧ σ = hp E0 [] M2) (AAct.keep a [1]) σ | .inr s => x = .ret ∧ ∃ vs, resA T σ a [.tmp 4] = some vs ∧ ∃ d, thawA (fun _ => true) σ d (tupA vs) = .int .i64 s) hse1 ?_ ?_ ?_
 ·refine Rc.kp [0, 1, 5] [(0, .fsl (encL rBox p0)), (1, .int .i64 p1), (5, .int .i64 0)] rfl ?_
  exact Rf ⟨N0 + 2, (by omega), rfl, rfl⟩
 ·clear H hse1
  rintro ⟨s1, s2⟩ fl a σ H ⟨M1, fM1_0, rfl, rfl⟩ K2 O2 hK2 hO2
  unfold l_heldBoxS_L1 at H; dsimp only at H
  refine AWP_sq [0, 1, 5] fun K3 hK3 => ?_
  refine S0 tok [] [0, 1, 5, 9] ?_
  refine Cd (fun C1 => ?_) fun C1 => ?_
  ·replace H := ifT C1 H
   refine AWP_skip (Jn hK3 ?_)
   refine AWP_sq [0, 1, 5] fun K4 hK4 => ?_
   refine AWP_block (AWP_thenB ?_)
   refine AWP_sq [0, 1, 5] fun K5 hK5 => ?_
   obtain ⟨v4, hv4, H⟩ := bindE H
   refine Sx tok [] [0, 1, 5, 18] (by intro K k; simp -dsimp -implicitDefEqProofs [ix29 hv4]; exact k) ?_
   refine Cd (fun C2 => ?_) fun C2 => ?_
   ·replace H := ifT C2 H
    refine S0 tok [] [4] ?_
    obtain rfl := oi H
    refine Kp [4] ?_
    refine AWP_ret (hO2 _ _ _ _ rfl ⟨rfl, ?_⟩)
    exact ⟨[.int .i64 (-1)], by simp, 4, by simp [encL_nil]⟩
   ·replace H := ifF C2 H
    refine AWP_skip (Jn hK5 ?_)
    refine S0 tok [] [0, 1, 5] ?_
    obtain ⟨r5, hr5, H⟩ := bindE H
    refine Sx tok [] [0, 1, 5] (by intro K k; (repeat first | simp -dsimp -implicitDefEqProofs [ix29 hv4] | refine (c43 hr5).app ?_); exact k) ?_
    refine S0 tok [] [0, 1, 5, 29] ?_
    refine Cd (fun C3 => ?_) fun C3 => ?_
    ·replace H := ifT C3 H
     refine S0 tok [] [4] ?_
     obtain rfl := oi H
     refine Kp [4] ?_
     refine AWP_ret (hO2 _ _ _ _ rfl ⟨rfl, ?_⟩)
     exact ⟨[.int .i64 (-1)], by simp, 4, by simp [encL_nil]⟩
    ·replace H := ifF C3 H
     refine AWP_skip (Jn hK4 ?_)
     refine Rt0 tok [] [0, 1, 5] fun a ha => ?_
     obtain rfl := oi H
     refine hK2 _ _ _ rfl ?_; rw [ha]
     exact Rf ⟨M1 + 27, (by omega), rfl, rfl⟩
  ·obtain rfl := oi (ifF C1 H)
   refine AWP_exit (hO2 _ _ _ _ rfl ⟨rfl, ?_⟩)
   refine Rc.rw (l := [1]) (X := [(1, .int .i64 s1)]) rfl ?_
   exact Rf ⟨M1 + 4, (by omega), rfl, rfl⟩
 ·intro x a σ hx
  rcases e1 with y3 | r0
  ·obtain ⟨rfl, b, τ, hr, M2, fM2_0, rfl, rfl⟩ := hx
   dsimp only at H
   show K1 _ _
   refine hK1 _ _ (Rc_ref hr ?_)
   refine Rc.mk ?_
   refine S0 tok [] [4] ?_
   obtain rfl := oi H; exact AWP_ret ⟨_, rfl, 4, by simp [encL_nil]⟩
  ·obtain ⟨rfl, hx2⟩ := hx
   dsimp only at H
   obtain rfl := oi H; first | exact hx2 | (simp only [List.set_set] at hx2 ⊢; exact hx2)
theorem c11 {p0 : gSquad} {p1 : Int} {r : Int} (H : l_heldSquad p0 p1 = some r) : APure Tryz.prog G 11 [.agg [.fsl (encL rMachine p0.Harts), .fsl (encL rBox p0.Boxes), .int .i64 p0.Turn, .int .i64 p0.Idle, .fsl (encL rI p0.Out)], .int .i64 p1] (.int .i64 r) := by
 refine APure_fn (fun N0 => ?_) (by simp)
 refine fnK tok Tryz.func11 Tryz.ntmps11 Tryz.results11 ?_
 simp only [argsA, Nat.reduceAdd, hp_next]
 unfold l_heldSquad at H
 refine S0 tok [0] [1, 2] ?_
 obtain ⟨r1, hr1, H⟩ := bindE H
 refine Sx tok [] [1, 2] (by intro K k; (repeat first | simp -dsimp -implicitDefEqProofs | refine (c41 hr1).app ?_); exact k) ?_
 refine AWP_sq [1, 2] fun K1 hK1 => ?_
 refine S0 tok [] [1, 2, 10] ?_
 refine Cd (fun C1 => ?_) fun C1 => ?_
 ·replace H := ifT C1 H
  refine S0 tok [] [4] ?_
  obtain rfl := oi H; exact AWP_ret ⟨_, rfl, 4, by simp [encL_nil]⟩
 ·replace H := ifF C1 H
  refine AWP_skip (Jn hK1 ?_)
  obtain ⟨r2, hr2, H⟩ := bindE H
  refine Sx tok [] [1, 2] (by intro K k; (repeat first | simp -dsimp -implicitDefEqProofs | refine (c42 hr2).app ?_); exact k) ?_
  refine AWP_sq [1, 2] fun K2 hK2 => ?_
  refine S0 tok [] [1, 2, 16] ?_
  refine Cd (fun C2 => ?_) fun C2 => ?_
  ·replace H := ifT C2 H
   refine S0 tok [] [4] ?_
   obtain rfl := oi H; exact AWP_ret ⟨_, rfl, 4, by simp [encL_nil]⟩
  ·replace H := ifF C2 H
   refine AWP_skip (Jn hK2 ?_)
   obtain ⟨r3, hr3, H⟩ := bindE H
   refine Sx tok [] [1] (by intro K k; (repeat first | simp -dsimp -implicitDefEqProofs | refine (c43 hr3).app ?_); exact k) ?_
   refine AWP_sq [1] fun K3 hK3 => ?_
   refine S0 tok [] [1, 22] ?_
   refine Cd (fun C3 => ?_) fun C3 => ?_
   ·replace H := ifT C3 H
    refine S0 tok [] [4] ?_
    obtain rfl := oi H; exact AWP_ret ⟨_, rfl, 4, by simp [encL_nil]⟩
   ·replace H := ifF C3 H
    refine AWP_skip (Jn hK3 ?_)
    refine S0 tok [] [4] ?_
    obtain rfl := oi H; exact AWP_ret ⟨_, rfl, 4, by simp [encL_nil]⟩
theorem c3 {p0 : gSquad} {p1 : Int} {r : Bool} (H : l_FnExactSquadRun p0 p1 = some r) : APure Tryz.prog G 3 [.agg [.fsl (encL rMachine p0.Harts), .fsl (encL rBox p0.Boxes), .int .i64 p0.Turn, .int .i64 p0.Idle, .fsl (encL rI p0.Out)], .int .i64 p1] (.bool r) := by
 refine APure_fn (fun N0 => ?_) (by simp)
 refine fnK tok Tryz.func3 Tryz.ntmps3 Tryz.results3 ?_
 simp only [argsA, Nat.reduceAdd, hp_next]
 unfold l_FnExactSquadRun at H
 refine S0 tok [0] [1, 2] ?_
 refine S0 tok [] [1, 2, 5] ?_
 obtain ⟨r1, hr1, H⟩ := bindE H
 refine Sx tok [] [1, 2, 5] (by intro K k; (repeat first | simp -dsimp -implicitDefEqProofs | refine (c5 hr1).app ?_); exact k) ?_
 refine AWP_sq [1, 2] fun K1 hK1 => ?_
 refine S0 tok [] [1, 2, 20] ?_
 refine Cd (fun C1 => ?_) fun C1 => ?_
 ·replace H := ifT C1 H
  refine S0 tok [] [4] ?_
  obtain rfl := oi H; exact AWP_ret ⟨_, rfl, 4, by simp [encL_nil]⟩
 ·replace H := ifF C1 H
  refine AWP_skip (Jn hK1 ?_)
  obtain ⟨r2, hr2, H⟩ := bindE H
  obtain ⟨r3, hr3, H⟩ := bindE H
  refine Sx tok [] [1, 2, 6, 7] (by intro K k; (repeat first | simp -dsimp -implicitDefEqProofs | refine (c7 hr2).app ?_ | refine (c6 hr3).app ?_); exact k) ?_
  obtain ⟨r4, hr4, H⟩ := bindE H
  refine AWP_sr tok [] [1, 2, 6, 7, 8] (fun a σ => ∃ M1 o1 o2 o3 : Nat, N0 + 23 ≤ M1 ∧ N0 + 23 ≤ o1 ∧ o1 < M1 ∧ N0 + 23 ≤ o2 ∧ o2 < M1 ∧ N0 + 23 ≤ o3 ∧ o3 < M1 ∧ ¬ o1 = o2 ∧ ¬ o1 = o3 ∧ ¬ o2 = o3 ∧ a = [(1, .int .i64 p1), (2, .fptr [.fsl (encL rMachine p0.Harts), .fsl (encL rBox p0.Boxes), .int .i64 p0.Turn, .int .i64 p0.Idle, .fsl (encL rI p0.Out)] 0), (6, .ptr (N0 + 16) 0 0), (7, .bool r3.2), (8, .ptr (N0 + 21) 0 0)] ∧ σ = hp E0 [(N0 + 16, some ⟨31, 5, [[.fsl (encL rMachine r3.1.Harts), .fsl (encL rBox r3.1.Boxes), .int .i64 r3.1.Turn, .int .i64 r3.1.Idle, .fsl (encL rI r3.1.Out)]]⟩), (o1, some ⟨63, 3, encL rMachine_oo r4.Harts⟩), (o2, some ⟨93, 2, encL rBox_o r4.Boxes⟩), (o3, some ⟨3, 1, encL rI r4.Out⟩), (N0 + 21, some ⟨31, 5, [[.sl o1 0 r4.Harts.length, .sl o2 0 r4.Boxes.length, .int .i64 r4.Turn, .int .i64 r4.Idle, .sl o3 0 r4.Out.length]]⟩)] M1) (fun K hK => ?_) ?_
  ·skip
   simp -dsimp -implicitDefEqProofs
   refine (c7_o6 (H := hr4) ).mono ?_; rintro _ _ ⟨M1, o1, o2, o3, fM1_0, fM1_1, fM1_2, fM1_3, fM1_4, fM1_5, fM1_6, fM1_7, fM1_8, fM1_9, rfl, rfl⟩; simp only [hp_next] at fM1_0 fM1_1 fM1_2 fM1_3 fM1_4 fM1_5 fM1_6 fM1_7 fM1_8 fM1_9
   have eM1_0 := nQ o1 (N0 + 16)
   have eM1_1 := nQ o1 (N0 + 21)
   have eM1_2 := nQ o1 o2
   have eM1_3 := nQ o1 o3
   have eM1_4 := nQ o2 (N0 + 16)
   have eM1_5 := nQ o2 (N0 + 21)
   have eM1_6 := nQ o2 o3
   have eM1_7 := nQ o3 (N0 + 16)
   have eM1_8 := nQ o3 (N0 + 21)
   try simp -dsimp -implicitDefEqProofs [eM1_0, eM1_1, eM1_2, eM1_3, eM1_4, eM1_5, eM1_6, eM1_7, eM1_8, hp_over_some, hp_over_none]
   exact hK _ _ ⟨M1, o1, o2, o3, (by omega), (by omega), (by omega), (by omega), (by omega), (by omega), (by omega), (by omega), (by omega), (by omega), rfl, rfl⟩
  rintro a σ ⟨M1, o1, o2, o3, fM1_0, fM1_1, fM1_2, fM1_3, fM1_4, fM1_5, fM1_6, fM1_7, fM1_8, fM1_9, rfl, rfl⟩
  refine gP AWP_ref (N0 + 21) 0 0 ?_
  refine gP AWP_ref (N0 + 21) 0 1 ?_
  refine gP AWP_ref (N0 + 21) 0 4 ?_
  refine gU AWP_ref (N0 + 21) 0 0 ?_
  refine gU AWP_ref (N0 + 21) 0 1 ?_
  refine gU AWP_ref (N0 + 21) 0 4 ?_
  obtain ⟨r5, hr5, H⟩ := bindE H
  refine AWP_sr tok [] [1, 2, 6, 7, 8, 9, 10] (fun a σ => ∃ M2 o4 o5 o6 : Nat, M1 + 12 ≤ M2 ∧ M1 + 12 ≤ o4 ∧ o4 < M2 ∧ M1 + 12 ≤ o5 ∧ o5 < M2 ∧ M1 + 12 ≤ o6 ∧ o6 < M2 ∧ ¬ o4 = o5 ∧ ¬ o4 = o6 ∧ ¬ o5 = o6 ∧ a = [(1, .int .i64 p1), (2, .fptr [.fsl (encL rMachine p0.Harts), .fsl (encL rBox p0.Boxes), .int .i64 p0.Turn, .int .i64 p0.Idle, .fsl (encL rI p0.Out)] 0), (6, .ptr (N0 + 16) 0 0), (7, .bool r3.2), (8, .ptr (N0 + 21) 0 0), (9, .ptr (M1 + 9) 0 0), (10, .bool r5.2)] ∧ σ = hp E0 [(N0 + 16, some ⟨31, 5, [[.fsl (encL rMachine r3.1.Harts), .fsl (encL rBox r3.1.Boxes), .int .i64 r3.1.Turn, .int .i64 r3.1.Idle, .fsl (encL rI r3.1.Out)]]⟩), (N0 + 21, some ⟨31, 5, [[.sl M1 0 r4.Harts.length, .sl (M1 + 1) 0 r4.Boxes.length, .int .i64 r4.Turn, .int .i64 r4.Idle, .sl (M1 + 2) 0 r4.Out.length]]⟩), (M1, some ⟨63, 3, encL rMachine_oo r4.Harts⟩), (M1 + 1, some ⟨93, 2, encL rBox_o r4.Boxes⟩), (M1 + 2, some ⟨3, 1, encL rI r4.Out⟩), (o4, some ⟨63, 3, encL rMachine_oo r5.1.Harts⟩), (o5, some ⟨93, 2, encL rBox_o r5.1.Boxes⟩), (o6, some ⟨3, 1, encL rI r5.1.Out⟩), (M1 + 9, some ⟨31, 5, [[.sl o4 0 r5.1.Harts.length, .sl o5 0 r5.1.Boxes.length, .int .i64 r5.1.Turn, .int .i64 r5.1.Idle, .sl o6 0 r5.1.Out.length]]⟩)] M2) (fun K hK => ?_) ?_
  ·skip
   have e0 := nQ (N0 + 16) M1
   have e1 := nQ (N0 + 16) (M1 + 1)
   have e2 := nQ (N0 + 15) M1
   have e3 := nQ (N0 + 16) (M1 + 2)
   have e4 := nQ (N0 + 14) M1
   have e5 := nQ (N0 + 16) (M1 + 9)
   have e6 := nQ (N0 + 7) M1
   have e7 := nQ (N0 + 21) M1
   have e8 := nQ (N0 + 21) (M1 + 1)
   have e9 := nQ (N0 + 20) M1
   have e10 := nQ (N0 + 21) (M1 + 2)
   have e11 := nQ (N0 + 19) M1
   have e12 := nQ (N0 + 21) (M1 + 9)
   have e13 := nQ (N0 + 12) M1
   simp -dsimp -implicitDefEqProofs [e0, e1, e2, e3, e4, e5, e6, e7, e8, e9, e10, e11, e12, e13]
   refine (c8_o6_b (H := hr5) (by simp [e0, e1, e2, e3, e4, e5, e6, e7, e8, e9, e10, e11, e12, e13])).mono ?_; rintro _ _ ⟨M2, o4, o5, o6, fM2_0, fM2_1, fM2_2, fM2_3, fM2_4, fM2_5, fM2_6, fM2_7, fM2_8, fM2_9, rfl, rfl⟩; simp only [hp_next] at fM2_0 fM2_1 fM2_2 fM2_3 fM2_4 fM2_5 fM2_6 fM2_7 fM2_8 fM2_9
   have eM2_0 := nQ o4 (N0 + 16)
   have eM2_1 := nQ o4 (N0 + 21)
   have eM2_2 := nQ o4 M1
   have eM2_3 := nQ o4 (M1 + 1)
   have eM2_4 := nQ o4 (M1 + 2)
   have eM2_5 := nQ o4 (M1 + 9)
   have eM2_6 := nQ o4 o5
   have eM2_7 := nQ o4 o6
   have eM2_8 := nQ o5 (N0 + 16)
   have eM2_9 := nQ o5 (N0 + 21)
   have eM2_10 := nQ o5 M1
   have eM2_11 := nQ o5 (M1 + 1)
   have eM2_12 := nQ o5 (M1 + 2)
   have eM2_13 := nQ o5 (M1 + 9)
   have eM2_14 := nQ o5 o6
   have eM2_15 := nQ o6 (N0 + 16)
   have eM2_16 := nQ o6 (N0 + 21)
   have eM2_17 := nQ o6 M1
   have eM2_18 := nQ o6 (M1 + 1)
   have eM2_19 := nQ o6 (M1 + 2)
   have eM2_20 := nQ o6 (M1 + 9)
   try simp -dsimp -implicitDefEqProofs [e0, e1, e2, e3, e4, e5, e6, e7, e8, e9, e10, e11, e12, e13, eM2_0, eM2_1, eM2_2, eM2_3, eM2_4, eM2_5, eM2_6, eM2_7, eM2_8, eM2_9, eM2_10, eM2_11, eM2_12, eM2_13, eM2_14, eM2_15, eM2_16, eM2_17, eM2_18, eM2_19, eM2_20, hp_over_some, hp_over_none]
   exact hK _ _ ⟨M2, o4, o5, o6, (by omega), (by omega), (by omega), (by omega), (by omega), (by omega), (by omega), (by omega), (by omega), (by omega), rfl, rfl⟩
  rintro a σ ⟨M2, o4, o5, o6, fM2_0, fM2_1, fM2_2, fM2_3, fM2_4, fM2_5, fM2_6, fM2_7, fM2_8, fM2_9, rfl, rfl⟩
  refine AWP_sq [1, 2, 6, 7, 8, 9, 10] fun K2 hK2 => ?_
  refine gP AWP_ref (N0 + 21) 0 0 ?_
  refine gP AWP_ref (N0 + 21) 0 1 ?_
  refine gP AWP_ref (N0 + 21) 0 4 ?_
  refine gP AWP_ref (M1 + 9) 0 0 ?_
  refine gP AWP_ref (M1 + 9) 0 1 ?_
  refine gP AWP_ref (M1 + 9) 0 4 ?_
  refine gU AWP_ref (M1 + 9) 0 0 ?_
  refine gU AWP_ref (M1 + 9) 0 1 ?_
  refine gU AWP_ref (M1 + 9) 0 4 ?_
  obtain ⟨r6, hr6, H⟩ := bindE H
  obtain ⟨g7, hg7, H⟩ := bindE H
  refine AWP_sr tok [] [1, 2, 6, 7, 8, 9, 10, 44] (fun a σ => a = [(1, .int .i64 p1), (2, .fptr [.fsl (encL rMachine p0.Harts), .fsl (encL rBox p0.Boxes), .int .i64 p0.Turn, .int .i64 p0.Idle, .fsl (encL rI p0.Out)] 0), (6, .ptr (N0 + 16) 0 0), (7, .bool r3.2), (8, .ptr (N0 + 21) 0 0), (9, .ptr (M1 + 9) 0 0), (10, .bool r5.2), (44, .bool g7)] ∧ σ = hp E0 [(N0 + 16, some ⟨31, 5, [[.fsl (encL rMachine r3.1.Harts), .fsl (encL rBox r3.1.Boxes), .int .i64 r3.1.Turn, .int .i64 r3.1.Idle, .fsl (encL rI r3.1.Out)]]⟩), (N0 + 21, some ⟨31, 5, [[.osl 63 3 (encL rMachine_oo r4.Harts), .osl 93 2 (encL rBox_o r4.Boxes), .int .i64 r4.Turn, .int .i64 r4.Idle, .osl 3 1 (encL rI r4.Out)]]⟩), (M1 + 9, some ⟨31, 5, [[.sl M2 0 r5.1.Harts.length, .sl (M2 + 1) 0 r5.1.Boxes.length, .int .i64 r5.1.Turn, .int .i64 r5.1.Idle, .sl (M2 + 2) 0 r5.1.Out.length]]⟩), (M2, some ⟨63, 3, encL rMachine_oo r5.1.Harts⟩), (M2 + 1, some ⟨93, 2, encL rBox_o r5.1.Boxes⟩), (M2 + 2, some ⟨3, 1, encL rI r5.1.Out⟩)] (M2 + 12)) (fun K hK => ?_) ?_
  ·skip
   have e0 := nQ (N0 + 16) (M1 + 9)
   have e1 := nQ (N0 + 7) M1
   have e2 := nQ (N0 + 16) M2
   have e3 := nQ (N0 + 16) (M2 + 1)
   have e4 := nQ (N0 + 15) M2
   have e5 := nQ (N0 + 16) (M2 + 2)
   have e6 := nQ (N0 + 14) M2
   have e7 := nQ (N0 + 21) (M1 + 9)
   have e8 := nQ (N0 + 12) M1
   have e9 := nQ (N0 + 21) M2
   have e10 := nQ (N0 + 21) (M2 + 1)
   have e11 := nQ (N0 + 20) M2
   have e12 := nQ (N0 + 21) (M2 + 2)
   have e13 := nQ (N0 + 19) M2
   have e14 := nQ (M1 + 9) M2
   have e15 := nQ (M1 + 9) (M2 + 1)
   have e16 := nQ (M1 + 8) M2
   have e17 := nQ (M1 + 9) (M2 + 2)
   have e18 := nQ (M1 + 7) M2
   simp -dsimp -implicitDefEqProofs [e0, e1, e2, e3, e4, e5, e6, e7, e8, e9, e10, e11, e12, e13, e14, e15, e16, e17, e18]
   refine (borrow 8 (c9 hr6) (by simp [e0, e1, e2, e3, e4, e5, e6, e7, e8, e9, e10, e11, e12, e13, e14, e15, e16, e17, e18]) rfl).mono ?_; rintro _ _ ⟨rfl, rfl⟩; try simp -dsimp -implicitDefEqProofs [e0, e1, e2, e3, e4, e5, e6, e7, e8, e9, e10, e11, e12, e13, e14, e15, e16, e17, e18]
   cases hbg7 : bnot r6
   ·obtain rfl := oi (ifF hbg7 hg7)
    try simp -dsimp -implicitDefEqProofs [e0, e1, e2, e3, e4, e5, e6, e7, e8, e9, e10, e11, e12, e13, e14, e15, e16, e17, e18, hbg7]
    exact hK _ _ ⟨rfl, rfl⟩
   ·obtain rfl := oi (ifT hbg7 hg7)
    try simp -dsimp -implicitDefEqProofs [e0, e1, e2, e3, e4, e5, e6, e7, e8, e9, e10, e11, e12, e13, e14, e15, e16, e17, e18, hbg7]
    exact hK _ _ ⟨rfl, rfl⟩
  rintro a σ ⟨rfl, rfl⟩
  refine Cd (fun C2 => ?_) fun C2 => ?_
  ·replace H := ifT C2 H
   refine Sx tok [] [4] (by
    intro K k
    have e0 := nQ (N0 + 16) (M1 + 9)
    have e1 := nQ (N0 + 7) M1
    have e2 := nQ (N0 + 16) M2
    have e3 := nQ (N0 + 16) (M2 + 1)
    have e4 := nQ (N0 + 15) M2
    have e5 := nQ (N0 + 16) (M2 + 2)
    have e6 := nQ (N0 + 14) M2
    have e7 := nQ (N0 + 21) (M1 + 9)
    have e8 := nQ (N0 + 12) M1
    have e9 := nQ (N0 + 21) M2
    have e10 := nQ (N0 + 21) (M2 + 1)
    have e11 := nQ (N0 + 20) M2
    have e12 := nQ (N0 + 21) (M2 + 2)
    have e13 := nQ (N0 + 19) M2
    have e14 := nQ (M1 + 9) M2
    have e15 := nQ (M1 + 9) (M2 + 1)
    have e16 := nQ (M1 + 8) M2
    have e17 := nQ (M1 + 9) (M2 + 2)
    have e18 := nQ (M1 + 7) M2
    simp -dsimp -implicitDefEqProofs [e0, e1, e2, e3, e4, e5, e6, e7, e8, e9, e10, e11, e12, e13, e14, e15, e16, e17, e18]
    exact k) ?_
   obtain rfl := oi H
   refine Kp [4] ?_
   have z0 := nQ (N0 + 16) (M1 + 9)
   have z1 := nQ (N0 + 7) M1
   have z2 := nQ (N0 + 16) M2
   have z3 := nQ (N0 + 16) (M2 + 1)
   have z4 := nQ (N0 + 15) M2
   have z5 := nQ (N0 + 16) (M2 + 2)
   have z6 := nQ (N0 + 14) M2
   have z7 := nQ (N0 + 21) (M1 + 9)
   have z8 := nQ (N0 + 12) M1
   have z9 := nQ (N0 + 21) M2
   have z10 := nQ (N0 + 21) (M2 + 1)
   have z11 := nQ (N0 + 20) M2
   have z12 := nQ (N0 + 21) (M2 + 2)
   have z13 := nQ (N0 + 19) M2
   have z14 := nQ (M1 + 9) M2
   have z15 := nQ (M1 + 9) (M2 + 1)
   have z16 := nQ (M1 + 8) M2
   have z17 := nQ (M1 + 9) (M2 + 2)
   have z18 := nQ (M1 + 7) M2
   refine AWP_ret ?_
   exact ⟨[.bool false], by simp [z0, z1, z2, z3, z4, z5, z6, z7, z8, z9, z10, z11, z12, z13, z14, z15, z16, z17, z18], 4, by simp [encL_nil, z0, z1, z2, z3, z4, z5, z6, z7, z8, z9, z10, z11, z12, z13, z14, z15, z16, z17, z18]⟩
  ·replace H := ifF C2 H
   refine AWP_skip (Jn hK2 ?_)
   refine AWP_sq [1, 2, 6, 7, 8, 9, 10] fun K3 hK3 => ?_
   refine gP AWP_ref (M1 + 9) 0 0 ?_
   refine gP AWP_ref (M1 + 9) 0 1 ?_
   refine gP AWP_ref (M1 + 9) 0 4 ?_
   refine gU AWP_ref (N0 + 21) 0 0 ?_
   refine gU AWP_ref (N0 + 21) 0 1 ?_
   refine gU AWP_ref (N0 + 21) 0 4 ?_
   obtain ⟨r8, hr8, H⟩ := bindE H
   refine AWP_sd tok tokM [] [0, 3] [1, 2, 0, 3, 4] [1, 2, 6, 7, 8, 9, 10, 49] (fun a σ => a = [(1, .int .i64 p1), (2, .fptr [.fsl (encL rMachine p0.Harts), .fsl (encL rBox p0.Boxes), .int .i64 p0.Turn, .int .i64 p0.Idle, .fsl (encL rI p0.Out)] 0), (6, .ptr (N0 + 16) 0 0), (7, .bool r3.2), (8, .ptr (N0 + 21) 0 0), (9, .ptr (M1 + 9) 0 0), (10, .bool r5.2), (49, .bool (bnot r8))] ∧ σ = hp E0 [(N0 + 16, some ⟨31, 5, [[.fsl (encL rMachine r3.1.Harts), .fsl (encL rBox r3.1.Boxes), .int .i64 r3.1.Turn, .int .i64 r3.1.Idle, .fsl (encL rI r3.1.Out)]]⟩), (N0 + 21, some ⟨31, 5, [[.sl (M2 + 12) 0 r4.Harts.length, .sl (M2 + 13) 0 r4.Boxes.length, .int .i64 r4.Turn, .int .i64 r4.Idle, .sl (M2 + 14) 0 r4.Out.length]]⟩), (M1 + 9, some ⟨31, 5, [[.osl 63 3 (encL rMachine_oo r5.1.Harts), .osl 93 2 (encL rBox_o r5.1.Boxes), .int .i64 r5.1.Turn, .int .i64 r5.1.Idle, .osl 3 1 (encL rI r5.1.Out)]]⟩), (M2 + 12, some ⟨63, 3, encL rMachine_oo r4.Harts⟩), (M2 + 13, some ⟨93, 2, encL rBox_o r4.Boxes⟩), (M2 + 14, some ⟨3, 1, encL rI r4.Out⟩)] (M2 + 20)) (by decide) (fun K hK => ?_) ?_
   ·simp only [pickL, nthO_succ, nthO_zero]
    have e0 := nQ (N0 + 16) (M1 + 9)
    have e1 := nQ (N0 + 7) M1
    have e2 := nQ (N0 + 16) (M2 + 12)
    have e3 := nQ (N0 + 4) M2
    have e4 := nQ (N0 + 16) (M2 + 13)
    have e5 := nQ (N0 + 3) M2
    have e6 := nQ (N0 + 16) (M2 + 14)
    have e7 := nQ (N0 + 2) M2
    have e8 := nQ (N0 + 21) (M1 + 9)
    have e9 := nQ (N0 + 12) M1
    have e10 := nQ (N0 + 21) (M2 + 12)
    have e11 := nQ (N0 + 9) M2
    have e12 := nQ (N0 + 21) (M2 + 13)
    have e13 := nQ (N0 + 8) M2
    have e14 := nQ (N0 + 21) (M2 + 14)
    have e15 := nQ (N0 + 7) M2
    have e16 := nQ (M1 + 9) (M2 + 12)
    have e17 := nQ M1 (M2 + 3)
    have e18 := nQ (M1 + 9) (M2 + 13)
    have e19 := nQ M1 (M2 + 4)
    have e20 := nQ (M1 + 9) (M2 + 14)
    have e21 := nQ M1 (M2 + 5)
    simp -dsimp -implicitDefEqProofs [e0, e1, e2, e3, e4, e5, e6, e7, e8, e9, e10, e11, e12, e13, e14, e15, e16, e17, e18, e19, e20, e21]
    refine Pc.mk (c7 hr2) ?_; try simp -dsimp -implicitDefEqProofs [e0, e1, e2, e3, e4, e5, e6, e7, e8, e9, e10, e11, e12, e13, e14, e15, e16, e17, e18, e19, e20, e21]
    refine (borrow 8 (c9 hr8) (by simp [e0, e1, e2, e3, e4, e5, e6, e7, e8, e9, e10, e11, e12, e13, e14, e15, e16, e17, e18, e19, e20, e21]) rfl).mono ?_; rintro _ _ ⟨rfl, rfl⟩; try simp -dsimp -implicitDefEqProofs [e0, e1, e2, e3, e4, e5, e6, e7, e8, e9, e10, e11, e12, e13, e14, e15, e16, e17, e18, e19, e20, e21]
    exact hK _ _ ⟨rfl, rfl⟩
   rintro a σ ⟨rfl, rfl⟩
   refine Cd (fun C3 => ?_) fun C3 => ?_
   ·replace H := ifT C3 H
    refine Sx tok [] [4] (by
     intro K k
     have e0 := nQ (N0 + 16) (M1 + 9)
     have e1 := nQ (N0 + 7) M1
     have e2 := nQ (N0 + 16) (M2 + 12)
     have e3 := nQ (N0 + 4) M2
     have e4 := nQ (N0 + 16) (M2 + 13)
     have e5 := nQ (N0 + 3) M2
     have e6 := nQ (N0 + 16) (M2 + 14)
     have e7 := nQ (N0 + 2) M2
     have e8 := nQ (N0 + 21) (M1 + 9)
     have e9 := nQ (N0 + 12) M1
     have e10 := nQ (N0 + 21) (M2 + 12)
     have e11 := nQ (N0 + 9) M2
     have e12 := nQ (N0 + 21) (M2 + 13)
     have e13 := nQ (N0 + 8) M2
     have e14 := nQ (N0 + 21) (M2 + 14)
     have e15 := nQ (N0 + 7) M2
     have e16 := nQ (M1 + 9) (M2 + 12)
     have e17 := nQ M1 (M2 + 3)
     have e18 := nQ (M1 + 9) (M2 + 13)
     have e19 := nQ M1 (M2 + 4)
     have e20 := nQ (M1 + 9) (M2 + 14)
     have e21 := nQ M1 (M2 + 5)
     simp -dsimp -implicitDefEqProofs [e0, e1, e2, e3, e4, e5, e6, e7, e8, e9, e10, e11, e12, e13, e14, e15, e16, e17, e18, e19, e20, e21]
     exact k) ?_
    obtain rfl := oi H
    refine Kp [4] ?_
    have z19 := nQ (N0 + 16) (M1 + 9)
    have z20 := nQ (N0 + 7) M1
    have z21 := nQ (N0 + 16) (M2 + 12)
    have z22 := nQ (N0 + 4) M2
    have z23 := nQ (N0 + 16) (M2 + 13)
    have z24 := nQ (N0 + 3) M2
    have z25 := nQ (N0 + 16) (M2 + 14)
    have z26 := nQ (N0 + 2) M2
    have z27 := nQ (N0 + 21) (M1 + 9)
    have z28 := nQ (N0 + 12) M1
    have z29 := nQ (N0 + 21) (M2 + 12)
    have z30 := nQ (N0 + 9) M2
    have z31 := nQ (N0 + 21) (M2 + 13)
    have z32 := nQ (N0 + 8) M2
    have z33 := nQ (N0 + 21) (M2 + 14)
    have z34 := nQ (N0 + 7) M2
    have z35 := nQ (M1 + 9) (M2 + 12)
    have z36 := nQ M1 (M2 + 3)
    have z37 := nQ (M1 + 9) (M2 + 13)
    have z38 := nQ M1 (M2 + 4)
    have z39 := nQ (M1 + 9) (M2 + 14)
    have z40 := nQ M1 (M2 + 5)
    refine AWP_ret ?_
    exact ⟨[.bool false], by simp [z19, z20, z21, z22, z23, z24, z25, z26, z27, z28, z29, z30, z31, z32, z33, z34, z35, z36, z37, z38, z39, z40], 4, by simp [encL_nil, z19, z20, z21, z22, z23, z24, z25, z26, z27, z28, z29, z30, z31, z32, z33, z34, z35, z36, z37, z38, z39, z40]⟩
   ·replace H := ifF C3 H
    refine AWP_skip (Jn hK3 ?_)
    refine Sx tok [] [1, 2, 6, 7, 8, 9, 10, 11] (by
     intro K k
     have e0 := nQ (N0 + 16) (M1 + 9)
     have e1 := nQ (N0 + 7) M1
     have e2 := nQ (N0 + 16) (M2 + 12)
     have e3 := nQ (N0 + 4) M2
     have e4 := nQ (N0 + 16) (M2 + 13)
     have e5 := nQ (N0 + 3) M2
     have e6 := nQ (N0 + 16) (M2 + 14)
     have e7 := nQ (N0 + 2) M2
     have e8 := nQ (N0 + 21) (M1 + 9)
     have e9 := nQ (N0 + 12) M1
     have e10 := nQ (N0 + 21) (M2 + 12)
     have e11 := nQ (N0 + 9) M2
     have e12 := nQ (N0 + 21) (M2 + 13)
     have e13 := nQ (N0 + 8) M2
     have e14 := nQ (N0 + 21) (M2 + 14)
     have e15 := nQ (N0 + 7) M2
     have e16 := nQ (M1 + 9) (M2 + 12)
     have e17 := nQ M1 (M2 + 3)
     have e18 := nQ (M1 + 9) (M2 + 13)
     have e19 := nQ M1 (M2 + 4)
     have e20 := nQ (M1 + 9) (M2 + 14)
     have e21 := nQ M1 (M2 + 5)
     simp -dsimp -implicitDefEqProofs [e0, e1, e2, e3, e4, e5, e6, e7, e8, e9, e10, e11, e12, e13, e14, e15, e16, e17, e18, e19, e20, e21]
     exact k) ?_
    refine gP AWP_ref (N0 + 21) 0 0 ?_
    refine gP AWP_ref (N0 + 21) 0 1 ?_
    refine gP AWP_ref (N0 + 21) 0 4 ?_
    refine gU AWP_ref (N0 + 21) 0 0 ?_
    refine gU AWP_ref (N0 + 21) 0 1 ?_
    refine gU AWP_ref (N0 + 21) 0 4 ?_
    obtain ⟨r9, hr9, H⟩ := bindE H
    refine AWP_sr tok [] [1, 2, 6, 7, 9, 10, 11] (fun a σ => ∃ M3 : Nat, M2 + 28 ≤ M3 ∧ r9.2.Harts.length = r4.Harts.length ∧ r9.2.Boxes.length = r4.Boxes.length ∧ r9.2.Out.length = r4.Out.length ∧ a = [(1, .int .i64 p1), (2, .fptr [.fsl (encL rMachine p0.Harts), .fsl (encL rBox p0.Boxes), .int .i64 p0.Turn, .int .i64 p0.Idle, .fsl (encL rI p0.Out)] 0), (6, .ptr (N0 + 16) 0 0), (7, .bool r3.2), (9, .ptr (M1 + 9) 0 0), (10, .bool r5.2), (11, .int .i64 r9.1)] ∧ σ = hp E0 [(N0 + 16, some ⟨31, 5, [[.fsl (encL rMachine r3.1.Harts), .fsl (encL rBox r3.1.Boxes), .int .i64 r3.1.Turn, .int .i64 r3.1.Idle, .fsl (encL rI r3.1.Out)]]⟩), (N0 + 21, some ⟨31, 5, [[.sl (M2 + 21) 0 r4.Harts.length, .sl (M2 + 22) 0 r4.Boxes.length, .int .i64 r4.Turn, .int .i64 r4.Idle, .sl (M2 + 23) 0 r4.Out.length]]⟩), (M1 + 9, some ⟨31, 5, [[.osl 63 3 (encL rMachine_oo r5.1.Harts), .osl 93 2 (encL rBox_o r5.1.Boxes), .int .i64 r5.1.Turn, .int .i64 r5.1.Idle, .osl 3 1 (encL rI r5.1.Out)]]⟩), (M2 + 21, some ⟨63, 3, encL rMachine_oo r9.2.Harts⟩), (M2 + 22, some ⟨93, 2, encL rBox_o r9.2.Boxes⟩), (M2 + 23, some ⟨3, 1, encL rI r9.2.Out⟩)] M3) (fun K hK => ?_) ?_
    ·skip
     have e0 := nQ (N0 + 16) (M1 + 9)
     have e1 := nQ (N0 + 7) M1
     have e2 := nQ (N0 + 16) (M2 + 21)
     have e3 := nQ N0 (M2 + 5)
     have e4 := nQ (N0 + 16) (M2 + 22)
     have e5 := nQ N0 (M2 + 6)
     have e6 := nQ (N0 + 16) (M2 + 23)
     have e7 := nQ N0 (M2 + 7)
     have e8 := nQ (N0 + 21) (M1 + 9)
     have e9 := nQ (N0 + 12) M1
     have e10 := nQ (N0 + 21) (M2 + 21)
     have e11 := nQ N0 M2
     have e12 := nQ (N0 + 21) (M2 + 22)
     have e13 := nQ N0 (M2 + 1)
     have e14 := nQ (N0 + 21) (M2 + 23)
     have e15 := nQ N0 (M2 + 2)
     have e16 := nQ (M1 + 9) (M2 + 21)
     have e17 := nQ M1 (M2 + 12)
     have e18 := nQ (M1 + 9) (M2 + 22)
     have e19 := nQ M1 (M2 + 13)
     have e20 := nQ (M1 + 9) (M2 + 23)
     have e21 := nQ M1 (M2 + 14)
     simp -dsimp -implicitDefEqProofs [e0, e1, e2, e3, e4, e5, e6, e7, e8, e9, e10, e11, e12, e13, e14, e15, e16, e17, e18, e19, e20, e21]
     refine (c10 (H := hr9) (by simp [e0, e1, e2, e3, e4, e5, e6, e7, e8, e9, e10, e11, e12, e13, e14, e15, e16, e17, e18, e19, e20, e21]) (by simp [e0, e1, e2, e3, e4, e5, e6, e7, e8, e9, e10, e11, e12, e13, e14, e15, e16, e17, e18, e19, e20, e21]) (by simp [e0, e1, e2, e3, e4, e5, e6, e7, e8, e9, e10, e11, e12, e13, e14, e15, e16, e17, e18, e19, e20, e21]) (by simp [e0, e1, e2, e3, e4, e5, e6, e7, e8, e9, e10, e11, e12, e13, e14, e15, e16, e17, e18, e19, e20, e21]) (by simp [e0, e1, e2, e3, e4, e5, e6, e7, e8, e9, e10, e11, e12, e13, e14, e15, e16, e17, e18, e19, e20, e21]) (by simp [e0, e1, e2, e3, e4, e5, e6, e7, e8, e9, e10, e11, e12, e13, e14, e15, e16, e17, e18, e19, e20, e21])).mono ?_; rintro _ _ ⟨M3, fM3_0, fM3_1, fM3_2, fM3_3, rfl, rfl⟩; simp only [hp_next] at fM3_0
     try simp -dsimp -implicitDefEqProofs [e0, e1, e2, e3, e4, e5, e6, e7, e8, e9, e10, e11, e12, e13, e14, e15, e16, e17, e18, e19, e20, e21, hp_over_some, hp_over_none]
     exact hK _ _ ⟨M3, (by omega), fM3_1, fM3_2, fM3_3, rfl, rfl⟩
    rintro a σ ⟨M3, fM3_0, fM3_1, fM3_2, fM3_3, rfl, rfl⟩
    try rw [← fM3_1]
    try rw [← fM3_2]
    try rw [← fM3_3]
    refine AWP_sq [1, 2, 6, 7, 9] fun K4 hK4 => ?_
    refine gDrop AWP_ref [(N0 + 16, some ⟨31, 5, [[.fsl (encL rMachine r3.1.Harts), .fsl (encL rBox r3.1.Boxes), .int .i64 r3.1.Turn, .int .i64 r3.1.Idle, .fsl (encL rI r3.1.Out)]]⟩), (M1 + 9, some ⟨31, 5, [[.osl 63 3 (encL rMachine_oo r5.1.Harts), .osl 93 2 (encL rBox_o r5.1.Boxes), .int .i64 r5.1.Turn, .int .i64 r5.1.Idle, .osl 3 1 (encL rI r5.1.Out)]]⟩)] (hp_skip (AHeap.Sub.trans (hp_skip (AHeap.Sub.trans (AHeap.Sub.trans (AHeap.Sub.trans (AHeap.Sub.refl _) (hp_drop rfl (by simp; try omega))) (hp_drop rfl (by simp; try omega))) (hp_drop rfl (by simp; try omega)))) (hp_drop rfl (by simp; try omega)))) ?_
    refine gU AWP_ref (M1 + 9) 0 0 ?_
    refine gU AWP_ref (M1 + 9) 0 1 ?_
    refine gU AWP_ref (M1 + 9) 0 4 ?_
    obtain ⟨g10, hg10, H⟩ := bindE H
    obtain ⟨g11, hg11, H⟩ := bindE H
    refine AWP_sr tok [] [1, 2, 6, 7, 9, 65] (fun a σ => a = [(1, .int .i64 p1), (2, .fptr [.fsl (encL rMachine p0.Harts), .fsl (encL rBox p0.Boxes), .int .i64 p0.Turn, .int .i64 p0.Idle, .fsl (encL rI p0.Out)] 0), (6, .ptr (N0 + 16) 0 0), (7, .bool r3.2), (9, .ptr (M1 + 9) 0 0), (65, .bool g11)] ∧ σ = hp E0 [(N0 + 16, some ⟨31, 5, [[.fsl (encL rMachine r3.1.Harts), .fsl (encL rBox r3.1.Boxes), .int .i64 r3.1.Turn, .int .i64 r3.1.Idle, .fsl (encL rI r3.1.Out)]]⟩), (M1 + 9, some ⟨31, 5, [[.sl M3 0 r5.1.Harts.length, .sl (M3 + 1) 0 r5.1.Boxes.length, .int .i64 r5.1.Turn, .int .i64 r5.1.Idle, .sl (M3 + 2) 0 r5.1.Out.length]]⟩), (M3, some ⟨63, 3, encL rMachine_oo r5.1.Harts⟩), (M3 + 1, some ⟨93, 2, encL rBox_o r5.1.Boxes⟩), (M3 + 2, some ⟨3, 1, encL rI r5.1.Out⟩)] (M3 + 16)) (fun K hK => ?_) ?_
    ·skip
     have e0 := nQ (N0 + 16) (M1 + 9)
     have e1 := nQ (N0 + 7) M1
     have e2 := nQ (N0 + 16) M3
     have e3 := nQ (N0 + 16) (M3 + 1)
     have e4 := nQ (N0 + 15) M3
     have e5 := nQ (N0 + 16) (M3 + 2)
     have e6 := nQ (N0 + 14) M3
     have e7 := nQ (M1 + 9) M3
     have e8 := nQ (M1 + 9) (M3 + 1)
     have e9 := nQ (M1 + 8) M3
     have e10 := nQ (M1 + 9) (M3 + 2)
     have e11 := nQ (M1 + 7) M3
     simp -dsimp -implicitDefEqProofs [e0, e1, e2, e3, e4, e5, e6, e7, e8, e9, e10, e11]
     cases hbg10 : ilt r9.1 0
     ·obtain rfl := oi (ifF hbg10 hg10)
      try simp -dsimp -implicitDefEqProofs [e0, e1, e2, e3, e4, e5, e6, e7, e8, e9, e10, e11, hbg10]
      refine (borrow 8 (c9 hr6) (by simp [e0, e1, e2, e3, e4, e5, e6, e7, e8, e9, e10, e11, hbg10]) rfl).mono ?_; rintro _ _ ⟨rfl, rfl⟩; try simp -dsimp -implicitDefEqProofs [e0, e1, e2, e3, e4, e5, e6, e7, e8, e9, e10, e11, hbg10]
      cases hbg11 : (bnot r6)
      ·obtain rfl := oi (ifF hbg11 hg11)
       try simp -dsimp -implicitDefEqProofs [e0, e1, e2, e3, e4, e5, e6, e7, e8, e9, e10, e11, hbg10, hbg11]
       exact hK _ _ ⟨rfl, rfl⟩
      ·obtain rfl := oi (ifT hbg11 hg11)
       try simp -dsimp -implicitDefEqProofs [e0, e1, e2, e3, e4, e5, e6, e7, e8, e9, e10, e11, hbg10, hbg11]
       exact hK _ _ ⟨rfl, rfl⟩
     ·obtain rfl := oi (ifT hbg10 hg10)
      try simp -dsimp -implicitDefEqProofs [e0, e1, e2, e3, e4, e5, e6, e7, e8, e9, e10, e11, hbg10]
      obtain rfl := oi (ifT rfl hg11)
      try simp -dsimp -implicitDefEqProofs [e0, e1, e2, e3, e4, e5, e6, e7, e8, e9, e10, e11, hbg10]
      exact hK _ _ ⟨rfl, rfl⟩
    rintro a σ ⟨rfl, rfl⟩
    refine Cd (fun C4 => ?_) fun C4 => ?_
    ·replace H := ifT C4 H
     refine Sx tok [] [4] (by
      intro K k
      have e0 := nQ (N0 + 16) (M1 + 9)
      have e1 := nQ (N0 + 7) M1
      have e2 := nQ (N0 + 16) M3
      have e3 := nQ (N0 + 16) (M3 + 1)
      have e4 := nQ (N0 + 15) M3
      have e5 := nQ (N0 + 16) (M3 + 2)
      have e6 := nQ (N0 + 14) M3
      have e7 := nQ (M1 + 9) M3
      have e8 := nQ (M1 + 9) (M3 + 1)
      have e9 := nQ (M1 + 8) M3
      have e10 := nQ (M1 + 9) (M3 + 2)
      have e11 := nQ (M1 + 7) M3
      simp -dsimp -implicitDefEqProofs [e0, e1, e2, e3, e4, e5, e6, e7, e8, e9, e10, e11]
      exact k) ?_
     obtain rfl := oi H
     refine Kp [4] ?_
     have z41 := nQ (N0 + 16) (M1 + 9)
     have z42 := nQ (N0 + 7) M1
     have z43 := nQ (N0 + 16) M3
     have z44 := nQ (N0 + 16) (M3 + 1)
     have z45 := nQ (N0 + 15) M3
     have z46 := nQ (N0 + 16) (M3 + 2)
     have z47 := nQ (N0 + 14) M3
     have z48 := nQ (M1 + 9) M3
     have z49 := nQ (M1 + 9) (M3 + 1)
     have z50 := nQ (M1 + 8) M3
     have z51 := nQ (M1 + 9) (M3 + 2)
     have z52 := nQ (M1 + 7) M3
     refine AWP_ret ?_
     exact ⟨[.bool false], by simp [z41, z42, z43, z44, z45, z46, z47, z48, z49, z50, z51, z52], 4, by simp [encL_nil, z41, z42, z43, z44, z45, z46, z47, z48, z49, z50, z51, z52]⟩
    ·replace H := ifF C4 H
     refine AWP_skip (Jn hK4 ?_)
     refine Sx tok [] [1, 2, 6, 7, 9, 12] (by
      intro K k
      have e0 := nQ (N0 + 16) (M1 + 9)
      have e1 := nQ (N0 + 7) M1
      have e2 := nQ (N0 + 16) M3
      have e3 := nQ (N0 + 16) (M3 + 1)
      have e4 := nQ (N0 + 15) M3
      have e5 := nQ (N0 + 16) (M3 + 2)
      have e6 := nQ (N0 + 14) M3
      have e7 := nQ (M1 + 9) M3
      have e8 := nQ (M1 + 9) (M3 + 1)
      have e9 := nQ (M1 + 8) M3
      have e10 := nQ (M1 + 9) (M3 + 2)
      have e11 := nQ (M1 + 7) M3
      simp -dsimp -implicitDefEqProofs [e0, e1, e2, e3, e4, e5, e6, e7, e8, e9, e10, e11]
      exact k) ?_
     refine gP AWP_ref (M1 + 9) 0 0 ?_
     refine gP AWP_ref (M1 + 9) 0 1 ?_
     refine gP AWP_ref (M1 + 9) 0 4 ?_
     refine gU AWP_ref (M1 + 9) 0 0 ?_
     refine gU AWP_ref (M1 + 9) 0 1 ?_
     refine gU AWP_ref (M1 + 9) 0 4 ?_
     obtain ⟨r12, hr12, H⟩ := bindE H
     refine AWP_sr tok [] [1, 2, 6, 7, 9, 12] (fun a σ => ∃ M4 : Nat, M3 + 24 ≤ M4 ∧ r12.2.Harts.length = r5.1.Harts.length ∧ r12.2.Boxes.length = r5.1.Boxes.length ∧ r12.2.Out.length = r5.1.Out.length ∧ a = [(1, .int .i64 p1), (2, .fptr [.fsl (encL rMachine p0.Harts), .fsl (encL rBox p0.Boxes), .int .i64 p0.Turn, .int .i64 p0.Idle, .fsl (encL rI p0.Out)] 0), (6, .ptr (N0 + 16) 0 0), (7, .bool r3.2), (9, .ptr (M1 + 9) 0 0), (12, .int .i64 r12.1)] ∧ σ = hp E0 [(N0 + 16, some ⟨31, 5, [[.fsl (encL rMachine r3.1.Harts), .fsl (encL rBox r3.1.Boxes), .int .i64 r3.1.Turn, .int .i64 r3.1.Idle, .fsl (encL rI r3.1.Out)]]⟩), (M1 + 9, some ⟨31, 5, [[.sl (M3 + 17) 0 r5.1.Harts.length, .sl (M3 + 18) 0 r5.1.Boxes.length, .int .i64 r5.1.Turn, .int .i64 r5.1.Idle, .sl (M3 + 19) 0 r5.1.Out.length]]⟩), (M3 + 17, some ⟨63, 3, encL rMachine_oo r12.2.Harts⟩), (M3 + 18, some ⟨93, 2, encL rBox_o r12.2.Boxes⟩), (M3 + 19, some ⟨3, 1, encL rI r12.2.Out⟩)] M4) (fun K hK => ?_) ?_
     ·skip
      have e0 := nQ (N0 + 16) (M1 + 9)
      have e1 := nQ (N0 + 7) M1
      have e2 := nQ (N0 + 16) (M3 + 17)
      have e3 := nQ N0 (M3 + 1)
      have e4 := nQ (N0 + 16) (M3 + 18)
      have e5 := nQ N0 (M3 + 2)
      have e6 := nQ (N0 + 16) (M3 + 19)
      have e7 := nQ N0 (M3 + 3)
      have e8 := nQ (M1 + 9) (M3 + 17)
      have e9 := nQ M1 (M3 + 8)
      have e10 := nQ (M1 + 9) (M3 + 18)
      have e11 := nQ M1 (M3 + 9)
      have e12 := nQ (M1 + 9) (M3 + 19)
      have e13 := nQ M1 (M3 + 10)
      simp -dsimp -implicitDefEqProofs [e0, e1, e2, e3, e4, e5, e6, e7, e8, e9, e10, e11, e12, e13]
      refine (c10 (H := hr12) (by simp [e0, e1, e2, e3, e4, e5, e6, e7, e8, e9, e10, e11, e12, e13]) (by simp [e0, e1, e2, e3, e4, e5, e6, e7, e8, e9, e10, e11, e12, e13]) (by simp [e0, e1, e2, e3, e4, e5, e6, e7, e8, e9, e10, e11, e12, e13]) (by simp [e0, e1, e2, e3, e4, e5, e6, e7, e8, e9, e10, e11, e12, e13]) (by simp [e0, e1, e2, e3, e4, e5, e6, e7, e8, e9, e10, e11, e12, e13]) (by simp [e0, e1, e2, e3, e4, e5, e6, e7, e8, e9, e10, e11, e12, e13])).mono ?_; rintro _ _ ⟨M4, fM4_0, fM4_1, fM4_2, fM4_3, rfl, rfl⟩; simp only [hp_next] at fM4_0
      try simp -dsimp -implicitDefEqProofs [e0, e1, e2, e3, e4, e5, e6, e7, e8, e9, e10, e11, e12, e13, hp_over_some, hp_over_none]
      exact hK _ _ ⟨M4, (by omega), fM4_1, fM4_2, fM4_3, rfl, rfl⟩
     rintro a σ ⟨M4, fM4_0, fM4_1, fM4_2, fM4_3, rfl, rfl⟩
     try rw [← fM4_1]
     try rw [← fM4_2]
     try rw [← fM4_3]
     refine Sx tok [] [1, 2, 6, 7, 9, 12, 13] (by
      intro K k
      have e0 := nQ (N0 + 16) (M1 + 9)
      have e1 := nQ (N0 + 7) M1
      have e2 := nQ (N0 + 16) (M3 + 17)
      have e3 := nQ N0 (M3 + 1)
      have e4 := nQ (N0 + 16) (M3 + 18)
      have e5 := nQ N0 (M3 + 2)
      have e6 := nQ (N0 + 16) (M3 + 19)
      have e7 := nQ N0 (M3 + 3)
      have e8 := nQ (M1 + 9) (M3 + 17)
      have e9 := nQ M1 (M3 + 8)
      have e10 := nQ (M1 + 9) (M3 + 18)
      have e11 := nQ M1 (M3 + 9)
      have e12 := nQ (M1 + 9) (M3 + 19)
      have e13 := nQ M1 (M3 + 10)
      simp -dsimp -implicitDefEqProofs [e0, e1, e2, e3, e4, e5, e6, e7, e8, e9, e10, e11, e12, e13]
      exact k) ?_
     refine gP AWP_ref (M1 + 9) 0 0 ?_
     refine gP AWP_ref (M1 + 9) 0 1 ?_
     refine gP AWP_ref (M1 + 9) 0 4 ?_
     refine gU AWP_ref (M1 + 9) 0 0 ?_
     refine gU AWP_ref (M1 + 9) 0 1 ?_
     refine gU AWP_ref (M1 + 9) 0 4 ?_
     obtain ⟨r13, hr13, H⟩ := bindE H
     refine AWP_sr tok [] [1, 2, 6, 7, 9, 12, 13] (fun a σ => a = [(1, .int .i64 p1), (2, .fptr [.fsl (encL rMachine p0.Harts), .fsl (encL rBox p0.Boxes), .int .i64 p0.Turn, .int .i64 p0.Idle, .fsl (encL rI p0.Out)] 0), (6, .ptr (N0 + 16) 0 0), (7, .bool r3.2), (9, .ptr (M1 + 9) 0 0), (12, .int .i64 r12.1), (13, .int .i64 r13)] ∧ σ = hp E0 [(N0 + 16, some ⟨31, 5, [[.fsl (encL rMachine r3.1.Harts), .fsl (encL rBox r3.1.Boxes), .int .i64 r3.1.Turn, .int .i64 r3.1.Idle, .fsl (encL rI r3.1.Out)]]⟩), (M1 + 9, some ⟨31, 5, [[.sl (M4 + 1) 0 r12.2.Harts.length, .sl (M4 + 2) 0 r12.2.Boxes.length, .int .i64 r5.1.Turn, .int .i64 r5.1.Idle, .sl (M4 + 3) 0 r12.2.Out.length]]⟩), (M4 + 1, some ⟨63, 3, encL rMachine_oo r12.2.Harts⟩), (M4 + 2, some ⟨93, 2, encL rBox_o r12.2.Boxes⟩), (M4 + 3, some ⟨3, 1, encL rI r12.2.Out⟩)] (M4 + 8)) (fun K hK => ?_) ?_
     ·skip
      have e0 := nQ (N0 + 16) (M1 + 9)
      have e1 := nQ (N0 + 7) M1
      have e2 := nQ (N0 + 16) (M4 + 1)
      have e3 := nQ (N0 + 15) M4
      have e4 := nQ (N0 + 16) (M4 + 2)
      have e5 := nQ (N0 + 14) M4
      have e6 := nQ (N0 + 16) (M4 + 3)
      have e7 := nQ (N0 + 13) M4
      have e8 := nQ (M1 + 9) (M4 + 1)
      have e9 := nQ (M1 + 8) M4
      have e10 := nQ (M1 + 9) (M4 + 2)
      have e11 := nQ (M1 + 7) M4
      have e12 := nQ (M1 + 9) (M4 + 3)
      have e13 := nQ (M1 + 6) M4
      simp -dsimp -implicitDefEqProofs [e0, e1, e2, e3, e4, e5, e6, e7, e8, e9, e10, e11, e12, e13]
      refine (borrow 8 (c11 hr13) (by simp [e0, e1, e2, e3, e4, e5, e6, e7, e8, e9, e10, e11, e12, e13]) rfl).mono ?_; rintro _ _ ⟨rfl, rfl⟩; try simp -dsimp -implicitDefEqProofs [e0, e1, e2, e3, e4, e5, e6, e7, e8, e9, e10, e11, e12, e13]
      exact hK _ _ ⟨rfl, rfl⟩
     rintro a σ ⟨rfl, rfl⟩
     refine AWP_sq [1, 2, 6, 7, 9, 12, 13] fun K5 hK5 => ?_
     refine Sx tok [] [1, 2, 6, 7, 9, 12, 13, 73] (by
      intro K k
      have e0 := nQ (N0 + 16) (M1 + 9)
      have e1 := nQ (N0 + 7) M1
      have e2 := nQ (N0 + 16) (M4 + 1)
      have e3 := nQ (N0 + 15) M4
      have e4 := nQ (N0 + 16) (M4 + 2)
      have e5 := nQ (N0 + 14) M4
      have e6 := nQ (N0 + 16) (M4 + 3)
      have e7 := nQ (N0 + 13) M4
      have e8 := nQ (M1 + 9) (M4 + 1)
      have e9 := nQ (M1 + 8) M4
      have e10 := nQ (M1 + 9) (M4 + 2)
      have e11 := nQ (M1 + 7) M4
      have e12 := nQ (M1 + 9) (M4 + 3)
      have e13 := nQ (M1 + 6) M4
      simp -dsimp -implicitDefEqProofs [e0, e1, e2, e3, e4, e5, e6, e7, e8, e9, e10, e11, e12, e13]
      exact k) ?_
     refine Cd (fun C5 => ?_) fun C5 => ?_
     ·replace H := ifT C5 H
      refine Sx tok [] [4] (by
       intro K k
       have e0 := nQ (N0 + 16) (M1 + 9)
       have e1 := nQ (N0 + 7) M1
       have e2 := nQ (N0 + 16) (M4 + 1)
       have e3 := nQ (N0 + 15) M4
       have e4 := nQ (N0 + 16) (M4 + 2)
       have e5 := nQ (N0 + 14) M4
       have e6 := nQ (N0 + 16) (M4 + 3)
       have e7 := nQ (N0 + 13) M4
       have e8 := nQ (M1 + 9) (M4 + 1)
       have e9 := nQ (M1 + 8) M4
       have e10 := nQ (M1 + 9) (M4 + 2)
       have e11 := nQ (M1 + 7) M4
       have e12 := nQ (M1 + 9) (M4 + 3)
       have e13 := nQ (M1 + 6) M4
       simp -dsimp -implicitDefEqProofs [e0, e1, e2, e3, e4, e5, e6, e7, e8, e9, e10, e11, e12, e13]
       exact k) ?_
      obtain rfl := oi H
      refine Kp [4] ?_
      have z53 := nQ (N0 + 16) (M1 + 9)
      have z54 := nQ (N0 + 7) M1
      have z55 := nQ (N0 + 16) (M4 + 1)
      have z56 := nQ (N0 + 15) M4
      have z57 := nQ (N0 + 16) (M4 + 2)
      have z58 := nQ (N0 + 14) M4
      have z59 := nQ (N0 + 16) (M4 + 3)
      have z60 := nQ (N0 + 13) M4
      have z61 := nQ (M1 + 9) (M4 + 1)
      have z62 := nQ (M1 + 8) M4
      have z63 := nQ (M1 + 9) (M4 + 2)
      have z64 := nQ (M1 + 7) M4
      have z65 := nQ (M1 + 9) (M4 + 3)
      have z66 := nQ (M1 + 6) M4
      refine AWP_ret ?_
      exact ⟨[.bool false], by simp [z53, z54, z55, z56, z57, z58, z59, z60, z61, z62, z63, z64, z65, z66], 4, by simp [encL_nil, z53, z54, z55, z56, z57, z58, z59, z60, z61, z62, z63, z64, z65, z66]⟩
     ·replace H := ifF C5 H
      refine AWP_skip (Jn hK5 ?_)
      refine AWP_sq [1, 2, 6, 7, 9, 12] fun K6 hK6 => ?_
      refine Sx tok [] [1, 2, 6, 7, 9, 12, 76] (by
       intro K k
       have e0 := nQ (N0 + 16) (M1 + 9)
       have e1 := nQ (N0 + 7) M1
       have e2 := nQ (N0 + 16) (M4 + 1)
       have e3 := nQ (N0 + 15) M4
       have e4 := nQ (N0 + 16) (M4 + 2)
       have e5 := nQ (N0 + 14) M4
       have e6 := nQ (N0 + 16) (M4 + 3)
       have e7 := nQ (N0 + 13) M4
       have e8 := nQ (M1 + 9) (M4 + 1)
       have e9 := nQ (M1 + 8) M4
       have e10 := nQ (M1 + 9) (M4 + 2)
       have e11 := nQ (M1 + 7) M4
       have e12 := nQ (M1 + 9) (M4 + 3)
       have e13 := nQ (M1 + 6) M4
       simp -dsimp -implicitDefEqProofs [e0, e1, e2, e3, e4, e5, e6, e7, e8, e9, e10, e11, e12, e13]
       exact k) ?_
      refine Cd (fun C6 => ?_) fun C6 => ?_
      ·replace H := ifT C6 H
       refine Sx tok [] [4] (by
        intro K k
        have e0 := nQ (N0 + 16) (M1 + 9)
        have e1 := nQ (N0 + 7) M1
        have e2 := nQ (N0 + 16) (M4 + 1)
        have e3 := nQ (N0 + 15) M4
        have e4 := nQ (N0 + 16) (M4 + 2)
        have e5 := nQ (N0 + 14) M4
        have e6 := nQ (N0 + 16) (M4 + 3)
        have e7 := nQ (N0 + 13) M4
        have e8 := nQ (M1 + 9) (M4 + 1)
        have e9 := nQ (M1 + 8) M4
        have e10 := nQ (M1 + 9) (M4 + 2)
        have e11 := nQ (M1 + 7) M4
        have e12 := nQ (M1 + 9) (M4 + 3)
        have e13 := nQ (M1 + 6) M4
        simp -dsimp -implicitDefEqProofs [e0, e1, e2, e3, e4, e5, e6, e7, e8, e9, e10, e11, e12, e13]
        exact k) ?_
       obtain rfl := oi H
       refine Kp [4] ?_
       have z67 := nQ (N0 + 16) (M1 + 9)
       have z68 := nQ (N0 + 7) M1
       have z69 := nQ (N0 + 16) (M4 + 1)
       have z70 := nQ (N0 + 15) M4
       have z71 := nQ (N0 + 16) (M4 + 2)
       have z72 := nQ (N0 + 14) M4
       have z73 := nQ (N0 + 16) (M4 + 3)
       have z74 := nQ (N0 + 13) M4
       have z75 := nQ (M1 + 9) (M4 + 1)
       have z76 := nQ (M1 + 8) M4
       have z77 := nQ (M1 + 9) (M4 + 2)
       have z78 := nQ (M1 + 7) M4
       have z79 := nQ (M1 + 9) (M4 + 3)
       have z80 := nQ (M1 + 6) M4
       refine AWP_ret ?_
       exact ⟨[.bool false], by simp [z67, z68, z69, z70, z71, z72, z73, z74, z75, z76, z77, z78, z79, z80], 4, by simp [encL_nil, z67, z68, z69, z70, z71, z72, z73, z74, z75, z76, z77, z78, z79, z80]⟩
      ·replace H := ifF C6 H
       refine AWP_skip (Jn hK6 ?_)
       refine gP AWP_ref (M1 + 9) 0 0 ?_
       refine gP AWP_ref (M1 + 9) 0 1 ?_
       refine gP AWP_ref (M1 + 9) 0 4 ?_
       obtain ⟨r14, hr14, H⟩ := bindE H
       refine Sx tok [] [6, 7, 9, 12, 14, 15] (by
        intro K k
        have e0 := nQ (N0 + 16) (M1 + 9)
        have e1 := nQ (N0 + 7) M1
        have e2 := nQ (N0 + 16) (M4 + 20)
        have e3 := nQ N0 (M4 + 4)
        have e4 := nQ (M1 + 9) (M4 + 20)
        have e5 := nQ M1 (M4 + 11)
        repeat first | simp -dsimp -implicitDefEqProofs [e0, e1, e2, e3, e4, e5] | refine (c7 hr2).app ?_ | refine (c8 hr14).app ?_
        exact k) ?_
       refine AWP_sq [9, 12] fun K7 hK7 => ?_
       obtain ⟨r15, hr15, H⟩ := bindE H
       obtain ⟨g16, hg16, H⟩ := bindE H
       refine Sx tok [] [9, 12, 92] (X := [(9, .ptr (M1 + 9) 0 0), (12, .int .i64 r12.1), (92, .bool g16)]) (Y := hp E0 [(N0 + 16, some ⟨31, 5, [[.fsl (encL rMachine r3.1.Harts), .fsl (encL rBox r3.1.Boxes), .int .i64 r3.1.Turn, .int .i64 r3.1.Idle, .fsl (encL rI r3.1.Out)]]⟩), (M1 + 9, some ⟨31, 5, [[.osl 63 3 (encL rMachine_oo r12.2.Harts), .osl 93 2 (encL rBox_o r12.2.Boxes), .int .i64 r5.1.Turn, .int .i64 r5.1.Idle, .osl 3 1 (encL rI r12.2.Out)]]⟩), (M4 + 20, some ⟨31, 5, [[.fsl (encL rMachine r14.1.Harts), .fsl (encL rBox r14.1.Boxes), .int .i64 r14.1.Turn, .int .i64 r14.1.Idle, .fsl (encL rI r14.1.Out)]]⟩)] (M4 + 32)) (by
        intro K k
        have e0 := nQ (N0 + 16) (M1 + 9)
        have e1 := nQ (N0 + 7) M1
        have e2 := nQ (N0 + 16) (M4 + 20)
        have e3 := nQ N0 (M4 + 4)
        have e4 := nQ (M1 + 9) (M4 + 20)
        have e5 := nQ M1 (M4 + 11)
        simp -dsimp -implicitDefEqProofs [e0, e1, e2, e3, e4, e5]
        refine (c9 hr15).app ?_; try simp -dsimp -implicitDefEqProofs [e0, e1, e2, e3, e4, e5]
        cases hbg16 : bnot r15
        ·replace hg16 := ifF hbg16 hg16
         replace hg16 := Option.some.inj hg16; subst hg16
         try simp -dsimp -implicitDefEqProofs [e0, e1, e2, e3, e4, e5, hbg16]
         exact k
        ·replace hg16 := ifT hbg16 hg16
         replace hg16 := Option.some.inj hg16; subst hg16
         try simp -dsimp -implicitDefEqProofs [e0, e1, e2, e3, e4, e5, hbg16]
         exact k) ?_
       refine Cd (fun C7 => ?_) fun C7 => ?_
       ·replace H := ifT C7 H
        refine Sx tok [] [4] (by
         intro K k
         have e0 := nQ (N0 + 16) (M1 + 9)
         have e1 := nQ (N0 + 7) M1
         have e2 := nQ (N0 + 16) (M4 + 20)
         have e3 := nQ N0 (M4 + 4)
         have e4 := nQ (M1 + 9) (M4 + 20)
         have e5 := nQ M1 (M4 + 11)
         simp -dsimp -implicitDefEqProofs [e0, e1, e2, e3, e4, e5]
         exact k) ?_
        obtain rfl := oi H
        refine Kp [4] ?_
        have z81 := nQ (N0 + 16) (M1 + 9)
        have z82 := nQ (N0 + 7) M1
        have z83 := nQ (N0 + 16) (M4 + 20)
        have z84 := nQ N0 (M4 + 4)
        have z85 := nQ (M1 + 9) (M4 + 20)
        have z86 := nQ M1 (M4 + 11)
        refine AWP_ret ?_
        exact ⟨[.bool false], by simp [z81, z82, z83, z84, z85, z86], 4, by simp [encL_nil, z81, z82, z83, z84, z85, z86]⟩
       ·replace H := ifF C7 H
        refine AWP_skip (Jn hK7 ?_)
        refine Sx tok [] [9, 12, 13] (by
         intro K k
         have e0 := nQ (N0 + 16) (M1 + 9)
         have e1 := nQ (N0 + 7) M1
         have e2 := nQ (N0 + 16) (M4 + 20)
         have e3 := nQ N0 (M4 + 4)
         have e4 := nQ (M1 + 9) (M4 + 20)
         have e5 := nQ M1 (M4 + 11)
         simp -dsimp -implicitDefEqProofs [e0, e1, e2, e3, e4, e5]
         exact k) ?_
        refine gU AWP_ref (M1 + 9) 0 0 ?_
        refine gU AWP_ref (M1 + 9) 0 1 ?_
        refine gU AWP_ref (M1 + 9) 0 4 ?_
        refine AWP_sr tok [] [12, 13] (fun a σ => a = [(12, .int .i64 r12.1), (13, .int .i64 r13)] ∧ σ = hp E0 [(N0 + 16, some ⟨31, 5, [[.fsl (encL rMachine r3.1.Harts), .fsl (encL rBox r3.1.Boxes), .int .i64 r3.1.Turn, .int .i64 r3.1.Idle, .fsl (encL rI r3.1.Out)]]⟩), (M1 + 9, some ⟨31, 5, [[.sl (M4 + 33) 0 r12.2.Harts.length, .sl (M4 + 34) 0 r12.2.Boxes.length, .int .i64 r5.1.Turn, .int .i64 r5.1.Idle, .sl (M4 + 35) 0 r12.2.Out.length]]⟩), (M4 + 20, some ⟨31, 5, [[.fsl (encL rMachine r14.1.Harts), .fsl (encL rBox r14.1.Boxes), .int .i64 r14.1.Turn, .int .i64 r14.1.Idle, .fsl (encL rI r14.1.Out)]]⟩), (M4 + 33, some ⟨63, 3, encL rMachine_oo r12.2.Harts⟩), (M4 + 34, some ⟨93, 2, encL rBox_o r12.2.Boxes⟩), (M4 + 35, some ⟨3, 1, encL rI r12.2.Out⟩)] (M4 + 40)) (fun K hK => ?_) ?_
        ·skip
         have e0 := nQ (N0 + 16) (M1 + 9)
         have e1 := nQ (N0 + 7) M1
         have e2 := nQ (N0 + 16) (M4 + 20)
         have e3 := nQ N0 (M4 + 4)
         have e4 := nQ (N0 + 16) (M4 + 33)
         have e5 := nQ N0 (M4 + 17)
         have e6 := nQ (N0 + 16) (M4 + 34)
         have e7 := nQ N0 (M4 + 18)
         have e8 := nQ (N0 + 16) (M4 + 35)
         have e9 := nQ N0 (M4 + 19)
         have e10 := nQ (M1 + 9) (M4 + 20)
         have e11 := nQ M1 (M4 + 11)
         have e12 := nQ (M1 + 9) (M4 + 33)
         have e13 := nQ M1 (M4 + 24)
         have e14 := nQ (M1 + 9) (M4 + 34)
         have e15 := nQ M1 (M4 + 25)
         have e16 := nQ (M1 + 9) (M4 + 35)
         have e17 := nQ M1 (M4 + 26)
         simp -dsimp -implicitDefEqProofs [e0, e1, e2, e3, e4, e5, e6, e7, e8, e9, e10, e11, e12, e13, e14, e15, e16, e17]
         refine (borrow 8 (c11 hr13) (by simp [e0, e1, e2, e3, e4, e5, e6, e7, e8, e9, e10, e11, e12, e13, e14, e15, e16, e17]) rfl).mono ?_; rintro _ _ ⟨rfl, rfl⟩; try simp -dsimp -implicitDefEqProofs [e0, e1, e2, e3, e4, e5, e6, e7, e8, e9, e10, e11, e12, e13, e14, e15, e16, e17]
         exact hK _ _ ⟨rfl, rfl⟩
        rintro a σ ⟨rfl, rfl⟩
        refine AWP_sq [12, 13] fun K8 hK8 => ?_
        refine Sx tok [] [12, 13, 97] (by
         intro K k
         have e0 := nQ (N0 + 16) (M1 + 9)
         have e1 := nQ (N0 + 7) M1
         have e2 := nQ (N0 + 16) (M4 + 20)
         have e3 := nQ N0 (M4 + 4)
         have e4 := nQ (N0 + 16) (M4 + 33)
         have e5 := nQ N0 (M4 + 17)
         have e6 := nQ (N0 + 16) (M4 + 34)
         have e7 := nQ N0 (M4 + 18)
         have e8 := nQ (N0 + 16) (M4 + 35)
         have e9 := nQ N0 (M4 + 19)
         have e10 := nQ (M1 + 9) (M4 + 20)
         have e11 := nQ M1 (M4 + 11)
         have e12 := nQ (M1 + 9) (M4 + 33)
         have e13 := nQ M1 (M4 + 24)
         have e14 := nQ (M1 + 9) (M4 + 34)
         have e15 := nQ M1 (M4 + 25)
         have e16 := nQ (M1 + 9) (M4 + 35)
         have e17 := nQ M1 (M4 + 26)
         simp -dsimp -implicitDefEqProofs [e0, e1, e2, e3, e4, e5, e6, e7, e8, e9, e10, e11, e12, e13, e14, e15, e16, e17]
         exact k) ?_
        refine Cd (fun C8 => ?_) fun C8 => ?_
        ·replace H := ifT C8 H
         refine Sx tok [] [4] (by
          intro K k
          have e0 := nQ (N0 + 16) (M1 + 9)
          have e1 := nQ (N0 + 7) M1
          have e2 := nQ (N0 + 16) (M4 + 20)
          have e3 := nQ N0 (M4 + 4)
          have e4 := nQ (N0 + 16) (M4 + 33)
          have e5 := nQ N0 (M4 + 17)
          have e6 := nQ (N0 + 16) (M4 + 34)
          have e7 := nQ N0 (M4 + 18)
          have e8 := nQ (N0 + 16) (M4 + 35)
          have e9 := nQ N0 (M4 + 19)
          have e10 := nQ (M1 + 9) (M4 + 20)
          have e11 := nQ M1 (M4 + 11)
          have e12 := nQ (M1 + 9) (M4 + 33)
          have e13 := nQ M1 (M4 + 24)
          have e14 := nQ (M1 + 9) (M4 + 34)
          have e15 := nQ M1 (M4 + 25)
          have e16 := nQ (M1 + 9) (M4 + 35)
          have e17 := nQ M1 (M4 + 26)
          simp -dsimp -implicitDefEqProofs [e0, e1, e2, e3, e4, e5, e6, e7, e8, e9, e10, e11, e12, e13, e14, e15, e16, e17]
          exact k) ?_
         obtain rfl := oi H
         refine Kp [4] ?_
         have z87 := nQ (N0 + 16) (M1 + 9)
         have z88 := nQ (N0 + 7) M1
         have z89 := nQ (N0 + 16) (M4 + 20)
         have z90 := nQ N0 (M4 + 4)
         have z91 := nQ (N0 + 16) (M4 + 33)
         have z92 := nQ N0 (M4 + 17)
         have z93 := nQ (N0 + 16) (M4 + 34)
         have z94 := nQ N0 (M4 + 18)
         have z95 := nQ (N0 + 16) (M4 + 35)
         have z96 := nQ N0 (M4 + 19)
         have z97 := nQ (M1 + 9) (M4 + 20)
         have z98 := nQ M1 (M4 + 11)
         have z99 := nQ (M1 + 9) (M4 + 33)
         have z100 := nQ M1 (M4 + 24)
         have z101 := nQ (M1 + 9) (M4 + 34)
         have z102 := nQ M1 (M4 + 25)
         have z103 := nQ (M1 + 9) (M4 + 35)
         have z104 := nQ M1 (M4 + 26)
         refine AWP_ret ?_
         exact ⟨[.bool false], by simp [z87, z88, z89, z90, z91, z92, z93, z94, z95, z96, z97, z98, z99, z100, z101, z102, z103, z104], 4, by simp [encL_nil, z87, z88, z89, z90, z91, z92, z93, z94, z95, z96, z97, z98, z99, z100, z101, z102, z103, z104]⟩
        ·replace H := ifF C8 H
         refine AWP_skip (Jn hK8 ?_)
         refine AWP_sq [] fun K9 hK9 => ?_
         refine Sx tok [] [100] (by
          intro K k
          have e0 := nQ (N0 + 16) (M1 + 9)
          have e1 := nQ (N0 + 7) M1
          have e2 := nQ (N0 + 16) (M4 + 20)
          have e3 := nQ N0 (M4 + 4)
          have e4 := nQ (N0 + 16) (M4 + 33)
          have e5 := nQ N0 (M4 + 17)
          have e6 := nQ (N0 + 16) (M4 + 34)
          have e7 := nQ N0 (M4 + 18)
          have e8 := nQ (N0 + 16) (M4 + 35)
          have e9 := nQ N0 (M4 + 19)
          have e10 := nQ (M1 + 9) (M4 + 20)
          have e11 := nQ M1 (M4 + 11)
          have e12 := nQ (M1 + 9) (M4 + 33)
          have e13 := nQ M1 (M4 + 24)
          have e14 := nQ (M1 + 9) (M4 + 34)
          have e15 := nQ M1 (M4 + 25)
          have e16 := nQ (M1 + 9) (M4 + 35)
          have e17 := nQ M1 (M4 + 26)
          simp -dsimp -implicitDefEqProofs [e0, e1, e2, e3, e4, e5, e6, e7, e8, e9, e10, e11, e12, e13, e14, e15, e16, e17]
          exact k) ?_
         refine Cd (fun C9 => ?_) fun C9 => ?_
         ·replace H := ifT C9 H
          refine Sx tok [] [4] (by
           intro K k
           have e0 := nQ (N0 + 16) (M1 + 9)
           have e1 := nQ (N0 + 7) M1
           have e2 := nQ (N0 + 16) (M4 + 20)
           have e3 := nQ N0 (M4 + 4)
           have e4 := nQ (N0 + 16) (M4 + 33)
           have e5 := nQ N0 (M4 + 17)
           have e6 := nQ (N0 + 16) (M4 + 34)
           have e7 := nQ N0 (M4 + 18)
           have e8 := nQ (N0 + 16) (M4 + 35)
           have e9 := nQ N0 (M4 + 19)
           have e10 := nQ (M1 + 9) (M4 + 20)
           have e11 := nQ M1 (M4 + 11)
           have e12 := nQ (M1 + 9) (M4 + 33)
           have e13 := nQ M1 (M4 + 24)
           have e14 := nQ (M1 + 9) (M4 + 34)
           have e15 := nQ M1 (M4 + 25)
           have e16 := nQ (M1 + 9) (M4 + 35)
           have e17 := nQ M1 (M4 + 26)
           simp -dsimp -implicitDefEqProofs [e0, e1, e2, e3, e4, e5, e6, e7, e8, e9, e10, e11, e12, e13, e14, e15, e16, e17]
           exact k) ?_
          obtain rfl := oi H
          refine Kp [4] ?_
          have z105 := nQ (N0 + 16) (M1 + 9)
          have z106 := nQ (N0 + 7) M1
          have z107 := nQ (N0 + 16) (M4 + 20)
          have z108 := nQ N0 (M4 + 4)
          have z109 := nQ (N0 + 16) (M4 + 33)
          have z110 := nQ N0 (M4 + 17)
          have z111 := nQ (N0 + 16) (M4 + 34)
          have z112 := nQ N0 (M4 + 18)
          have z113 := nQ (N0 + 16) (M4 + 35)
          have z114 := nQ N0 (M4 + 19)
          have z115 := nQ (M1 + 9) (M4 + 20)
          have z116 := nQ M1 (M4 + 11)
          have z117 := nQ (M1 + 9) (M4 + 33)
          have z118 := nQ M1 (M4 + 24)
          have z119 := nQ (M1 + 9) (M4 + 34)
          have z120 := nQ M1 (M4 + 25)
          have z121 := nQ (M1 + 9) (M4 + 35)
          have z122 := nQ M1 (M4 + 26)
          refine AWP_ret ?_
          exact ⟨[.bool false], by simp [z105, z106, z107, z108, z109, z110, z111, z112, z113, z114, z115, z116, z117, z118, z119, z120, z121, z122], 4, by simp [encL_nil, z105, z106, z107, z108, z109, z110, z111, z112, z113, z114, z115, z116, z117, z118, z119, z120, z121, z122]⟩
         ·replace H := ifF C9 H
          refine AWP_skip (Jn hK9 ?_)
          refine Sx tok [] [4] (by
           intro K k
           have e0 := nQ (N0 + 16) (M1 + 9)
           have e1 := nQ (N0 + 7) M1
           have e2 := nQ (N0 + 16) (M4 + 20)
           have e3 := nQ N0 (M4 + 4)
           have e4 := nQ (N0 + 16) (M4 + 33)
           have e5 := nQ N0 (M4 + 17)
           have e6 := nQ (N0 + 16) (M4 + 34)
           have e7 := nQ N0 (M4 + 18)
           have e8 := nQ (N0 + 16) (M4 + 35)
           have e9 := nQ N0 (M4 + 19)
           have e10 := nQ (M1 + 9) (M4 + 20)
           have e11 := nQ M1 (M4 + 11)
           have e12 := nQ (M1 + 9) (M4 + 33)
           have e13 := nQ M1 (M4 + 24)
           have e14 := nQ (M1 + 9) (M4 + 34)
           have e15 := nQ M1 (M4 + 25)
           have e16 := nQ (M1 + 9) (M4 + 35)
           have e17 := nQ M1 (M4 + 26)
           simp -dsimp -implicitDefEqProofs [e0, e1, e2, e3, e4, e5, e6, e7, e8, e9, e10, e11, e12, e13, e14, e15, e16, e17]
           exact k) ?_
          obtain rfl := oi H
          refine Kp [4] ?_
          have z123 := nQ (N0 + 16) (M1 + 9)
          have z124 := nQ (N0 + 7) M1
          have z125 := nQ (N0 + 16) (M4 + 20)
          have z126 := nQ N0 (M4 + 4)
          have z127 := nQ (N0 + 16) (M4 + 33)
          have z128 := nQ N0 (M4 + 17)
          have z129 := nQ (N0 + 16) (M4 + 34)
          have z130 := nQ N0 (M4 + 18)
          have z131 := nQ (N0 + 16) (M4 + 35)
          have z132 := nQ N0 (M4 + 19)
          have z133 := nQ (M1 + 9) (M4 + 20)
          have z134 := nQ M1 (M4 + 11)
          have z135 := nQ (M1 + 9) (M4 + 33)
          have z136 := nQ M1 (M4 + 24)
          have z137 := nQ (M1 + 9) (M4 + 34)
          have z138 := nQ M1 (M4 + 25)
          have z139 := nQ (M1 + 9) (M4 + 35)
          have z140 := nQ M1 (M4 + 26)
          refine AWP_ret ?_
          exact ⟨[.bool true], by simp [z123, z124, z125, z126, z127, z128, z129, z130, z131, z132, z133, z134, z135, z136, z137, z138, z139, z140], 4, by simp [encL_nil, z123, z124, z125, z126, z127, z128, z129, z130, z131, z132, z133, z134, z135, z136, z137, z138, z139, z140]⟩
end Go.Proofs.YtlcilhmkbmgkeaaGreatDoor
