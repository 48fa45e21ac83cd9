/- The contracts of functions of the program, part 0: each computes what its mirror computes. No conditions. -/
import Derived.Test.YtlcilhmkbmgkeaaGreatDoorNZH
import Derived.Test.YtlcilhmkbmgkeaaGreatDoorNZM
set_option linter.unusedSimpArgs false
set_option linter.unusedVariables false
set_option maxRecDepth 20000
set_option maxHeartbeats 4000000
namespace Go.Proofs.YtlcilhmkbmgkeaaGreatDoor
open Go Go.Abs Go.RowKit

theorem c19 {p0 : (List Int)} {p1 : Int} {r : Int} (H : l_szIntS p0 p1 = some r) : APure Tryz.prog G 19 [.fsl (encL rI p0), .int .i64 p1] (.int .i64 r) := by
 refine APure_fn (fun N0 => ?_) (by simp)
 refine fnK tok Tryz.func19 Tryz.ntmps19 Tryz.results19 ?_
 simp only [argsA, Nat.reduceAdd, hp_next]
 unfold l_szIntS at H
 refine S0 tok [] [0, 1] ?_
 refine S0 tok [] [1] ?_
 refine AWP_sq [1] fun K1 hK1 => ?_
 refine S0 tok [] [1, 10] ?_
 refine Cd (fun C1 => ?_) fun C1 => ?_
 ·replace H := ifT C1 H
  refine S0 tok [] [4] ?_
  obtain rfl := oi H; exact AWP_ret ⟨_, rfl, 4, by simp [encL_nil]⟩
 ·replace H := ifF C1 H
  refine AWP_skip (Jn hK1 ?_)
  refine S0 tok [] [4] ?_
  obtain rfl := oi H; exact AWP_ret ⟨_, rfl, 4, by simp [encL_nil]⟩
theorem c50 {p0 : gMachine} {p1 : Int} {r : Int} (H : l_szMachine p0 p1 = some r) : APure Tryz.prog G 50 [.agg [.fsl (encL rI p0.Regs), .int .i64 p0.Pc, .fsl (encL rI p0.Mem)], .int .i64 p1] (.int .i64 r) := by
 refine APure_fn (fun N0 => ?_) (by simp)
 refine fnK tok Tryz.func50 Tryz.ntmps50 Tryz.results50 ?_
 simp only [argsA, Nat.reduceAdd, hp_next]
 unfold l_szMachine at H
 refine S0 tok [0] [1, 2] ?_
 obtain ⟨r1, hr1, H⟩ := bindE H
 refine Sx tok [] [1, 2] (by intro K k; (repeat first | simp -dsimp -implicitDefEqProofs | refine (c19 hr1).app ?_); exact k) ?_
 refine AWP_sq [1, 2] fun K1 hK1 => ?_
 refine S0 tok [] [1, 2, 10] ?_
 refine Cd (fun C1 => ?_) fun C1 => ?_
 ·replace H := ifT C1 H
  refine S0 tok [] [4] ?_
  obtain rfl := oi H; exact AWP_ret ⟨_, rfl, 4, by simp [encL_nil]⟩
 ·replace H := ifF C1 H
  refine AWP_skip (Jn hK1 ?_)
  obtain ⟨r2, hr2, H⟩ := bindE H
  refine Sx tok [] [1] (by intro K k; (repeat first | simp -dsimp -implicitDefEqProofs | refine (c19 hr2).app ?_); exact k) ?_
  refine AWP_sq [1] fun K2 hK2 => ?_
  refine S0 tok [] [1, 16] ?_
  refine Cd (fun C2 => ?_) fun C2 => ?_
  ·replace H := ifT C2 H
   refine S0 tok [] [4] ?_
   obtain rfl := oi H; exact AWP_ret ⟨_, rfl, 4, by simp [encL_nil]⟩
  ·replace H := ifF C2 H
   refine AWP_skip (Jn hK2 ?_)
   refine S0 tok [] [4] ?_
   obtain rfl := oi H; exact AWP_ret ⟨_, rfl, 4, by simp [encL_nil]⟩
theorem c17 {p0 : (List gMachine)} {p1 : Int} {r : Int} (H : l_szMachineS p0 p1 = some r) : APure Tryz.prog G 17 [.fsl (encL rMachine p0), .int .i64 p1] (.int .i64 r) := by
 refine APure_fn (fun N0 => ?_) (by simp)
 refine fnK tok Tryz.func17 Tryz.ntmps17 Tryz.results17 ?_
 simp only [argsA, Nat.reduceAdd, hp_next]
 unfold l_szMachineS at H
 refine S0 tok [] [0, 1] ?_
 refine S0 tok [] [0, 1] ?_
 refine AWP_sq [0, 1] fun K1 hK1 => ?_
 refine S0 tok [] [0, 1, 11] ?_
 refine Cd (fun C1 => ?_) fun C1 => ?_
 ·replace H := ifT C1 H
  refine S0 tok [] [4] ?_
  obtain rfl := oi H; exact AWP_ret ⟨_, rfl, 4, by simp [encL_nil]⟩
 ·replace H := ifF C1 H
  refine AWP_skip (Jn hK1 ?_)
  refine AWP_sq [1] fun K2 hK2 => ?_
  refine S0 tok [] [0, 1, 5] ?_
  refine AWP_block (AWP_thenB ?_)
  obtain ⟨e1, hse1, H⟩ := bindE H
  refine AWP_lp [0, 1, 5] (fun s a σ => ∃ M1 : Nat, N0 ≤ M1 ∧ a = [(0, .fsl (encL rMachine p0)), (1, .int .i64 s.1), (5, .int .i64 s.2)] ∧ σ = hp E0 [] M1) (fun e x a σ => match e with | .inl s => x = .exit 0 ∧ Rc G 27 N0 (fun a σ => ∃ M2 : Nat, N0 ≤ M2 ∧ a = [(1, .int .i64 s)] ∧ σ = hp E0 [] M2) (AAct.keep a [1]) σ | .inr s => x = .ret ∧ ∃ vs, resA T σ a [.tmp 4] = some vs ∧ ∃ d, thawA (fun _ => true) σ d (tupA vs) = .int .i64 s) hse1 ?_ ?_ ?_
  ·refine Rc.kp [0, 1, 5] [(0, .fsl (encL rMachine p0)), (1, .int .i64 (isub .i64 p1 (ilen p0))), (5, .int .i64 0)] rfl ?_
   exact Rf ⟨N0 + 9, (by omega), rfl, rfl⟩
  ·clear H hse1
   rintro ⟨s1, s2⟩ fl a σ H ⟨M1, fM1_0, rfl, rfl⟩ K3 O3 hK3 hO3
   unfold l_szMachineS_L1 at H; dsimp only at H
   refine AWP_sq [0, 1, 5] fun K4 hK4 => ?_
   refine S0 tok [] [0, 1, 5, 15] ?_
   refine Cd (fun C2 => ?_) fun C2 => ?_
   ·replace H := ifT C2 H
    refine AWP_skip (Jn hK4 ?_)
    refine AWP_sq [0, 1, 5] fun K5 hK5 => ?_
    refine AWP_block (AWP_thenB ?_)
    obtain ⟨v4, hv4, H⟩ := bindE H
    obtain ⟨r5, hr5, H⟩ := bindE H
    refine Sx tok [] [0, 1, 5] (by intro K k; (repeat first | simp -dsimp -implicitDefEqProofs [ix22 hv4] | refine (c50 hr5).app ?_); exact k) ?_
    refine S0 tok [] [0, 1, 5, 25] ?_
    refine Cd (fun C3 => ?_) fun C3 => ?_
    ·replace H := ifT C3 H
     refine S0 tok [] [4] ?_
     obtain rfl := oi H
     refine Kp [4] ?_
     refine AWP_ret (hO3 _ _ _ _ rfl ⟨rfl, ?_⟩)
     exact ⟨[.int .i64 (-1)], by simp, 4, by simp [encL_nil]⟩
    ·replace H := ifF C3 H
     refine AWP_skip (Jn hK5 ?_)
     refine Rt0 tok [] [0, 1, 5] fun a ha => ?_
     obtain rfl := oi H
     refine hK3 _ _ _ rfl ?_; rw [ha]
     exact Rf ⟨M1 + 16, (by omega), rfl, rfl⟩
   ·obtain rfl := oi (ifF C2 H)
    refine AWP_exit (hO3 _ _ _ _ rfl ⟨rfl, ?_⟩)
    refine Rc.rw (l := [1]) (X := [(1, .int .i64 s1)]) rfl ?_
    exact Rf ⟨M1 + 4, (by omega), rfl, rfl⟩
  ·intro x a σ hx
   rcases e1 with y3 | r0
   ·obtain ⟨rfl, b, τ, hr, M2, fM2_0, rfl, rfl⟩ := hx
    dsimp only at H
    show K2 _ _
    refine hK2 _ _ (Rc_ref hr ?_)
    refine Rc.mk ?_
    refine S0 tok [] [4] ?_
    obtain rfl := oi H; exact AWP_ret ⟨_, rfl, 4, by simp [encL_nil]⟩
   ·obtain ⟨rfl, hx2⟩ := hx
    dsimp only at H
    obtain rfl := oi H; first | exact hx2 | (simp only [List.set_set] at hx2 ⊢; exact hx2)
theorem c51 {p0 : gBox} {p1 : Int} {r : Int} (H : l_szBox p0 p1 = some r) : APure Tryz.prog G 51 [.agg [.int .i64 p0.Room, .fsl (encL rI p0.Items)], .int .i64 p1] (.int .i64 r) := by
 refine APure_fn (fun N0 => ?_) (by simp)
 refine fnK tok Tryz.func51 Tryz.ntmps51 Tryz.results51 ?_
 simp only [argsA, Nat.reduceAdd, hp_next]
 unfold l_szBox at H
 refine S0 tok [0] [1, 2] ?_
 obtain ⟨r1, hr1, H⟩ := bindE H
 refine Sx tok [] [1] (by intro K k; (repeat first | simp -dsimp -implicitDefEqProofs | refine (c19 hr1).app ?_); exact k) ?_
 refine AWP_sq [1] fun K1 hK1 => ?_
 refine S0 tok [] [1, 10] ?_
 refine Cd (fun C1 => ?_) fun C1 => ?_
 ·replace H := ifT C1 H
  refine S0 tok [] [4] ?_
  obtain rfl := oi H; exact AWP_ret ⟨_, rfl, 4, by simp [encL_nil]⟩
 ·replace H := ifF C1 H
  refine AWP_skip (Jn hK1 ?_)
  refine S0 tok [] [4] ?_
  obtain rfl := oi H; exact AWP_ret ⟨_, rfl, 4, by simp [encL_nil]⟩
theorem c18 {p0 : (List gBox)} {p1 : Int} {r : Int} (H : l_szBoxS p0 p1 = some r) : APure Tryz.prog G 18 [.fsl (encL rBox p0), .int .i64 p1] (.int .i64 r) := by
 refine APure_fn (fun N0 => ?_) (by simp)
 refine fnK tok Tryz.func18 Tryz.ntmps18 Tryz.results18 ?_
 simp only [argsA, Nat.reduceAdd, hp_next]
 unfold l_szBoxS at H
 refine S0 tok [] [0, 1] ?_
 refine S0 tok [] [0, 1] ?_
 refine AWP_sq [0, 1] fun K1 hK1 => ?_
 refine S0 tok [] [0, 1, 11] ?_
 refine Cd (fun C1 => ?_) fun C1 => ?_
 ·replace H := ifT C1 H
  refine S0 tok [] [4] ?_
  obtain rfl := oi H; exact AWP_ret ⟨_, rfl, 4, by simp [encL_nil]⟩
 ·replace H := ifF C1 H
  refine AWP_skip (Jn hK1 ?_)
  refine AWP_sq [1] fun K2 hK2 => ?_
  refine S0 tok [] [0, 1, 5] ?_
  refine AWP_block (AWP_thenB ?_)
  obtain ⟨e1, hse1, H⟩ := bindE H
  refine AWP_lp [0, 1, 5] (fun s a σ => ∃ M1 : Nat, N0 ≤ M1 ∧ a = [(0, .fsl (encL rBox p0)), (1, .int .i64 s.1), (5, .int .i64 s.2)] ∧ σ = hp E0 [] M1) (fun e x a σ => match e with | .inl s => x = .exit 0 ∧ Rc G 27 N0 (fun a σ => ∃ M2 : Nat, N0 ≤ M2 ∧ a = [(1, .int .i64 s)] ∧ σ = hp E0 [] M2) (AAct.keep a [1]) σ | .inr s => x = .ret ∧ ∃ vs, resA T σ a [.tmp 4] = some vs ∧ ∃ d, thawA (fun _ => true) σ d (tupA vs) = .int .i64 s) hse1 ?_ ?_ ?_
  ·refine Rc.kp [0, 1, 5] [(0, .fsl (encL rBox p0)), (1, .int .i64 (isub .i64 p1 (ilen p0))), (5, .int .i64 0)] rfl ?_
   exact Rf ⟨N0 + 9, (by omega), rfl, rfl⟩
  ·clear H hse1
   rintro ⟨s1, s2⟩ fl a σ H ⟨M1, fM1_0, rfl, rfl⟩ K3 O3 hK3 hO3
   unfold l_szBoxS_L1 at H; dsimp only at H
   refine AWP_sq [0, 1, 5] fun K4 hK4 => ?_
   refine S0 tok [] [0, 1, 5, 15] ?_
   refine Cd (fun C2 => ?_) fun C2 => ?_
   ·replace H := ifT C2 H
    refine AWP_skip (Jn hK4 ?_)
    refine AWP_sq [0, 1, 5] fun K5 hK5 => ?_
    refine AWP_block (AWP_thenB ?_)
    obtain ⟨v4, hv4, H⟩ := bindE H
    obtain ⟨r5, hr5, H⟩ := bindE H
    refine Sx tok [] [0, 1, 5] (by intro K k; (repeat first | simp -dsimp -implicitDefEqProofs [ix23 hv4] | refine (c51 hr5).app ?_); exact k) ?_
    refine S0 tok [] [0, 1, 5, 25] ?_
    refine Cd (fun C3 => ?_) fun C3 => ?_
    ·replace H := ifT C3 H
     refine S0 tok [] [4] ?_
     obtain rfl := oi H
     refine Kp [4] ?_
     refine AWP_ret (hO3 _ _ _ _ rfl ⟨rfl, ?_⟩)
     exact ⟨[.int .i64 (-1)], by simp, 4, by simp [encL_nil]⟩
    ·replace H := ifF C3 H
     refine AWP_skip (Jn hK5 ?_)
     refine Rt0 tok [] [0, 1, 5] fun a ha => ?_
     obtain rfl := oi H
     refine hK3 _ _ _ rfl ?_; rw [ha]
     exact Rf ⟨M1 + 16, (by omega), rfl, rfl⟩
   ·obtain rfl := oi (ifF C2 H)
    refine AWP_exit (hO3 _ _ _ _ rfl ⟨rfl, ?_⟩)
    refine Rc.rw (l := [1]) (X := [(1, .int .i64 s1)]) rfl ?_
    exact Rf ⟨M1 + 4, (by omega), rfl, rfl⟩
  ·intro x a σ hx
   rcases e1 with y3 | r0
   ·obtain ⟨rfl, b, τ, hr, M2, fM2_0, rfl, rfl⟩ := hx
    dsimp only at H
    show K2 _ _
    refine hK2 _ _ (Rc_ref hr ?_)
    refine Rc.mk ?_
    refine S0 tok [] [4] ?_
    obtain rfl := oi H; exact AWP_ret ⟨_, rfl, 4, by simp [encL_nil]⟩
   ·obtain ⟨rfl, hx2⟩ := hx
    dsimp only at H
    obtain rfl := oi H; first | exact hx2 | (simp only [List.set_set] at hx2 ⊢; exact hx2)
theorem c5 {p0 : gSquad} {p1 : Int} {r : Int} (H : l_szSquad p0 p1 = some r) : APure Tryz.prog G 5 [.agg [.fsl (encL rMachine p0.Harts), .fsl (encL rBox p0.Boxes), .int .i64 p0.Turn, .int .i64 p0.Idle, .fsl (encL rI p0.Out)], .int .i64 p1] (.int .i64 r) := by
 refine APure_fn (fun N0 => ?_) (by simp)
 refine fnK tok Tryz.func5 Tryz.ntmps5 Tryz.results5 ?_
 simp only [argsA, Nat.reduceAdd, hp_next]
 unfold l_szSquad at H
 refine S0 tok [0] [1, 2] ?_
 obtain ⟨r1, hr1, H⟩ := bindE H
 refine Sx tok [] [1, 2] (by intro K k; (repeat first | simp -dsimp -implicitDefEqProofs | refine (c17 hr1).app ?_); exact k) ?_
 refine AWP_sq [1, 2] fun K1 hK1 => ?_
 refine S0 tok [] [1, 2, 10] ?_
 refine Cd (fun C1 => ?_) fun C1 => ?_
 ·replace H := ifT C1 H
  refine S0 tok [] [4] ?_
  obtain rfl := oi H; exact AWP_ret ⟨_, rfl, 4, by simp [encL_nil]⟩
 ·replace H := ifF C1 H
  refine AWP_skip (Jn hK1 ?_)
  obtain ⟨r2, hr2, H⟩ := bindE H
  refine Sx tok [] [1, 2] (by intro K k; (repeat first | simp -dsimp -implicitDefEqProofs | refine (c18 hr2).app ?_); exact k) ?_
  refine AWP_sq [1, 2] fun K2 hK2 => ?_
  refine S0 tok [] [1, 2, 16] ?_
  refine Cd (fun C2 => ?_) fun C2 => ?_
  ·replace H := ifT C2 H
   refine S0 tok [] [4] ?_
   obtain rfl := oi H; exact AWP_ret ⟨_, rfl, 4, by simp [encL_nil]⟩
  ·replace H := ifF C2 H
   refine AWP_skip (Jn hK2 ?_)
   obtain ⟨r3, hr3, H⟩ := bindE H
   refine Sx tok [] [1] (by intro K k; (repeat first | simp -dsimp -implicitDefEqProofs | refine (c19 hr3).app ?_); exact k) ?_
   refine AWP_sq [1] fun K3 hK3 => ?_
   refine S0 tok [] [1, 22] ?_
   refine Cd (fun C3 => ?_) fun C3 => ?_
   ·replace H := ifT C3 H
    refine S0 tok [] [4] ?_
    obtain rfl := oi H; exact AWP_ret ⟨_, rfl, 4, by simp [encL_nil]⟩
   ·replace H := ifF C3 H
    refine AWP_skip (Jn hK3 ?_)
    refine S0 tok [] [4] ?_
    obtain rfl := oi H; exact AWP_ret ⟨_, rfl, 4, by simp [encL_nil]⟩
theorem c26 {p0 : (List Int)} {r : (List Int)} (H : l_toIntS p0 = some r) : APure Tryz.prog G 26 [.fsl (encL rI p0)] (.fsl (encL rI r)) := by
 refine APure_fn (fun N0 => ?_) (by simp)
 refine fnK tok Tryz.func26 Tryz.ntmps26 Tryz.results26 ?_
 simp only [argsA, Nat.reduceAdd, hp_next]
 unfold l_toIntS at H
 refine S0 tok [] [0] ?_
 obtain ⟨l1, hl1, H⟩ := bindE H
 refine Sx tok [] [0, 3] (by intro K k; simp -dsimp -implicitDefEqProofs [mak24 hl1]; exact k) ?_
 refine AWP_sq [3] fun K1 hK1 => ?_
 refine S0 tok [] [0, 3, 4] ?_
 refine AWP_block (AWP_thenB ?_)
 obtain ⟨e1, hse1, H⟩ := bindE H
 refine AWP_lp [0, 3, 4] (fun s a σ => ∃ M1 o1 : Nat, N0 ≤ M1 ∧ N0 ≤ o1 ∧ o1 < M1 ∧ a = [(0, .fsl (encL rI p0)), (3, .sl o1 0 s.2.length), (4, .int .i64 s.1)] ∧ σ = hp E0 [(o1, some ⟨3, 1, encL rI s.2⟩)] M1) (fun s x a σ => x = .exit 0 ∧ Rc G 22 N0 (fun a σ => ∃ M2 o2 : Nat, N0 ≤ M2 ∧ N0 ≤ o2 ∧ o2 < M2 ∧ a = [(3, .sl o2 0 s.length)] ∧ σ = hp E0 [(o2, some ⟨3, 1, encL rI s⟩)] M2) (AAct.keep a [3]) σ) hse1 ?_ ?_ ?_
 ·refine Rc.kp [0, 3, 4] [(0, .fsl (encL rI p0)), (3, .sl (N0 + 3) 0 l1.length), (4, .int .i64 0)] rfl ?_
  exact Rf ⟨N0 + 6, (N0 + 3), (by omega), (by omega), (by omega), rfl, rfl⟩
 ·clear H hse1
  rintro ⟨s2, s3⟩ fl a σ H ⟨M1, o1, fM1_0, fM1_1, fM1_2, rfl, rfl⟩ K2 O2 hK2 hO2
  unfold l_toIntS_L1 at H; dsimp only at H
  refine AWP_sq [0, 3, 4] fun K3 hK3 => ?_
  refine S0 tok [] [0, 3, 4, 11] ?_
  refine Cd (fun C1 => ?_) fun C1 => ?_
  ·replace H := ifT C1 H
   refine AWP_skip (Jn hK3 ?_)
   refine AWP_sq [0, 3, 4] fun K4 hK4 => ?_
   refine AWP_block (AWP_thenB ?_)
   obtain ⟨v5, hv5, H⟩ := bindE H
   obtain ⟨v6, hv6, H⟩ := bindE H
   obtain ⟨l7, hl7, H⟩ := bindE H
   refine Rt tok [] [0, 3, 4] (by intro K k; simp -dsimp -implicitDefEqProofs [ix24 hv5, ixo24 hv6, (idx_lt3 hv6).2.2, (setx_iff.1 hl7).2.symm]; exact k) fun a ha => ?_
   (try rw [← setx_len hl7] at ha); (try rw [← setx_len hl7])
   refine hK4 _ _ ?_; rw [ha]
   refine Rc.mk ?_
   refine Rt0 tok [] [0, 3, 4] fun a ha => ?_
   obtain rfl := oi H
   refine hK2 _ _ _ rfl ?_; rw [ha]
   exact Rf ⟨M1 + 15, o1, (by omega), (by omega), (by omega), rfl, rfl⟩
  ·obtain rfl := oi (ifF C1 H)
   refine AWP_exit (hO2 _ _ _ _ rfl ⟨rfl, ?_⟩)
   refine Rc.rw (l := [3]) (X := [(3, .sl o1 0 s3.length)]) rfl ?_
   exact Rf ⟨M1 + 4, o1, (by omega), (by omega), (by omega), rfl, rfl⟩
 ·intro x a σ hx
  obtain ⟨y4, rfl⟩ : ∃ x, x = e1 := ⟨_, rfl⟩
  obtain ⟨rfl, b, τ, hr, M2, o2, fM2_0, fM2_1, fM2_2, rfl, rfl⟩ := hx
  dsimp only at H
  show K1 _ _
  refine hK1 _ _ (Rc_ref hr ?_)
  refine Rc.mk ?_
  refine S0 tok [] [2] ?_
  obtain rfl := oi H; exact AWP_ret ⟨_, rfl, 4, by simp [encL_nil]⟩
theorem c61 {p0 : gMachine} {r : gMachine} (H : l_toMachine p0 = some r) : APure Tryz.prog G 61 [.agg [.fsl (encL rI p0.Regs), .int .i64 p0.Pc, .fsl (encL rI p0.Mem)]] (.agg [.fsl (encL rI r.Regs), .int .i64 r.Pc, .fsl (encL rI r.Mem)]) := by
 refine APure_fn (fun N0 => ?_) (by simp)
 refine fnK tok Tryz.func61 Tryz.ntmps61 Tryz.results61 ?_
 simp only [argsA, Nat.reduceAdd, hp_next]
 unfold l_toMachine at H
 refine S0 tok [0] [1, 2] ?_
 refine S0 tok [] [1, 2, 3] ?_
 refine gW AWP_ref (N0 + 1) 0 0 ?_
 refine gW AWP_ref (N0 + 1) 0 2 ?_
 refine gW AWP_ref (N0 + 2) 0 0 ?_
 refine gW AWP_ref (N0 + 2) 0 2 ?_
 obtain ⟨r1, hr1, H⟩ := bindE H
 refine Sx tok [] [1, 2, 3] (by intro K k; (repeat first | simp -dsimp -implicitDefEqProofs | refine (c26 hr1).app ?_); exact k) ?_
 refine S0 tok [] [1, 2, 3] ?_
 obtain ⟨r2, hr2, H⟩ := bindE H
 refine Sx tok [] [2, 3] (by intro K k; (repeat first | simp -dsimp -implicitDefEqProofs | refine (c26 hr2).app ?_); exact k) ?_
 refine S0 tok [] [2] ?_
 obtain rfl := oi H
 refine Kp [2] ?_
 refine AWP_ret ?_
 exact ⟨[.agg [.fsl (encL rI r1), .int .i64 p0.Pc, .fsl (encL rI r2)]], by simp, 4, by simp [encL_nil]⟩
theorem c24 {p0 : (List gMachine)} {r : (List gMachine)} (H : l_toMachineS p0 = some r) : APure Tryz.prog G 24 [.fsl (encL rMachine p0)] (.fsl (encL rMachine r)) := by
 refine APure_fn (fun N0 => ?_) (by simp)
 refine fnK tok Tryz.func24 Tryz.ntmps24 Tryz.results24 ?_
 simp only [argsA, Nat.reduceAdd, hp_next]
 unfold l_toMachineS at H
 refine S0 tok [] [0] ?_
 obtain ⟨l1, hl1, H⟩ := bindE H
 refine Sx tok [] [0, 3] (by intro K k; simp -dsimp -implicitDefEqProofs [makr28 hl1]; exact k) ?_
 refine AWP_sq [3] fun K1 hK1 => ?_
 refine gRep AWP_ref (o := (N0 + 3)) (ty := 63) (sz := 3) (m := Int.toNat (ilen p0)) (c := [.nilsl, .int .i64 0, .nilsl]) (c' := [.fsl [], .int .i64 0, .fsl []]) (.frz (.same (.frz .nil))) [(N0 + 3, some ⟨63, 3, encL rMachine l1⟩)] (by simp (disch := omega)) (by rw [mak_rep (f := rMachine) (c := [.fsl [], .int .i64 0, .fsl []]) hl1 rfl]; simp) ?_
 refine S0 tok [] [0, 3, 4] ?_
 refine AWP_block (AWP_thenB ?_)
 obtain ⟨e1, hse1, H⟩ := bindE H
 refine AWP_lp [0, 3, 4] (fun s a σ => ∃ M1 o1 : Nat, N0 ≤ M1 ∧ N0 ≤ o1 ∧ o1 < M1 ∧ a = [(0, .fsl (encL rMachine p0)), (3, .sl o1 0 s.2.length), (4, .int .i64 s.1)] ∧ σ = hp E0 [(o1, some ⟨63, 3, encL rMachine s.2⟩)] M1) (fun s x a σ => x = .exit 0 ∧ Rc G 23 N0 (fun a σ => ∃ M2 o2 : Nat, N0 ≤ M2 ∧ N0 ≤ o2 ∧ o2 < M2 ∧ a = [(3, .sl o2 0 s.length)] ∧ σ = hp E0 [(o2, some ⟨63, 3, encL rMachine s⟩)] M2) (AAct.keep a [3]) σ) hse1 ?_ ?_ ?_
 ·refine Rc.kp [0, 3, 4] [(0, .fsl (encL rMachine p0)), (3, .sl (N0 + 3) 0 l1.length), (4, .int .i64 0)] rfl ?_
  exact Rf ⟨N0 + 6, (N0 + 3), (by omega), (by omega), (by omega), rfl, rfl⟩
 ·clear H hse1
  rintro ⟨s2, s3⟩ fl a σ H ⟨M1, o1, fM1_0, fM1_1, fM1_2, rfl, rfl⟩ K2 O2 hK2 hO2
  unfold l_toMachineS_L1 at H; dsimp only at H
  refine AWP_sq [0, 3, 4] fun K3 hK3 => ?_
  refine S0 tok [] [0, 3, 4, 11] ?_
  refine Cd (fun C1 => ?_) fun C1 => ?_
  ·replace H := ifT C1 H
   refine AWP_skip (Jn hK3 ?_)
   refine AWP_sq [0, 3, 4] fun K4 hK4 => ?_
   refine AWP_block (AWP_thenB ?_)
   obtain ⟨v5, hv5, H⟩ := bindE H
   obtain ⟨r6, hr6, H⟩ := bindE H
   obtain ⟨v7, hv7, H⟩ := bindE H
   obtain ⟨l8, hl8, H⟩ := bindE H
   refine Rt tok [] [0, 3, 4] (by intro K k; (repeat first | simp -dsimp -implicitDefEqProofs [ix22 hv5, ixo28 hv7, (idx_lt3 hv7).2.2, (setx_iff.1 hl8).2.symm] | refine (c61 hr6).app ?_); exact k) fun a ha => ?_
   (try rw [← setx_len hl8] at ha); (try rw [← setx_len hl8])
   refine hK4 _ _ ?_; rw [ha]
   refine Rc.mk ?_
   refine Rt0 tok [] [0, 3, 4] fun a ha => ?_
   obtain rfl := oi H
   refine hK2 _ _ _ rfl ?_; rw [ha]
   exact Rf ⟨M1 + 16, o1, (by omega), (by omega), (by omega), rfl, rfl⟩
  ·obtain rfl := oi (ifF C1 H)
   refine AWP_exit (hO2 _ _ _ _ rfl ⟨rfl, ?_⟩)
   refine Rc.rw (l := [3]) (X := [(3, .sl o1 0 s3.length)]) rfl ?_
   exact Rf ⟨M1 + 4, o1, (by omega), (by omega), (by omega), rfl, rfl⟩
 ·intro x a σ hx
  obtain ⟨y4, rfl⟩ : ∃ x, x = e1 := ⟨_, rfl⟩
  obtain ⟨rfl, b, τ, hr, M2, o2, fM2_0, fM2_1, fM2_2, rfl, rfl⟩ := hx
  dsimp only at H
  show K1 _ _
  refine hK1 _ _ (Rc_ref hr ?_)
  refine Rc.mk ?_
  refine S0 tok [] [2] ?_
  obtain rfl := oi H; exact AWP_ret ⟨_, rfl, 4, by simp [encL_nil]⟩
theorem c62 {p0 : gBox} {r : gBox} (H : l_toBox p0 = some r) : APure Tryz.prog G 62 [.agg [.int .i64 p0.Room, .fsl (encL rI p0.Items)]] (.agg [.int .i64 r.Room, .fsl (encL rI r.Items)]) := by
 refine APure_fn (fun N0 => ?_) (by simp)
 refine fnK tok Tryz.func62 Tryz.ntmps62 Tryz.results62 ?_
 simp only [argsA, Nat.reduceAdd, hp_next]
 unfold l_toBox at H
 refine S0 tok [0] [1, 2] ?_
 refine S0 tok [] [1, 2, 3] ?_
 refine S0 tok [] [1, 2, 3] ?_
 refine gW AWP_ref (N0 + 1) 0 1 ?_
 refine gW AWP_ref (N0 + 2) 0 1 ?_
 obtain ⟨r1, hr1, H⟩ := bindE H
 refine Sx tok [] [2, 3] (by intro K k; (repeat first | simp -dsimp -implicitDefEqProofs | refine (c26 hr1).app ?_); exact k) ?_
 refine S0 tok [] [2] ?_
 obtain rfl := oi H
 refine Kp [2] ?_
 refine AWP_ret ?_
 exact ⟨[.agg [.int .i64 p0.Room, .fsl (encL rI r1)]], by simp, 4, by simp [encL_nil]⟩
theorem c25 {p0 : (List gBox)} {r : (List gBox)} (H : l_toBoxS p0 = some r) : APure Tryz.prog G 25 [.fsl (encL rBox p0)] (.fsl (encL rBox r)) := by
 refine APure_fn (fun N0 => ?_) (by simp)
 refine fnK tok Tryz.func25 Tryz.ntmps25 Tryz.results25 ?_
 simp only [argsA, Nat.reduceAdd, hp_next]
 unfold l_toBoxS at H
 refine S0 tok [] [0] ?_
 obtain ⟨l1, hl1, H⟩ := bindE H
 refine Sx tok [] [0, 3] (by intro K k; simp -dsimp -implicitDefEqProofs [makr29 hl1]; exact k) ?_
 refine AWP_sq [3] fun K1 hK1 => ?_
 refine gRep AWP_ref (o := (N0 + 3)) (ty := 93) (sz := 2) (m := Int.toNat (ilen p0)) (c := [.int .i64 0, .nilsl]) (c' := [.int .i64 0, .fsl []]) (.same (.frz .nil)) [(N0 + 3, some ⟨93, 2, encL rBox l1⟩)] (by simp (disch := omega)) (by rw [mak_rep (f := rBox) (c := [.int .i64 0, .fsl []]) hl1 rfl]; simp) ?_
 refine S0 tok [] [0, 3, 4] ?_
 refine AWP_block (AWP_thenB ?_)
 obtain ⟨e1, hse1, H⟩ := bindE H
 refine AWP_lp [0, 3, 4] (fun s a σ => ∃ M1 o1 : Nat, N0 ≤ M1 ∧ N0 ≤ o1 ∧ o1 < M1 ∧ a = [(0, .fsl (encL rBox p0)), (3, .sl o1 0 s.2.length), (4, .int .i64 s.1)] ∧ σ = hp E0 [(o1, some ⟨93, 2, encL rBox s.2⟩)] M1) (fun s x a σ => x = .exit 0 ∧ Rc G 23 N0 (fun a σ => ∃ M2 o2 : Nat, N0 ≤ M2 ∧ N0 ≤ o2 ∧ o2 < M2 ∧ a = [(3, .sl o2 0 s.length)] ∧ σ = hp E0 [(o2, some ⟨93, 2, encL rBox s⟩)] M2) (AAct.keep a [3]) σ) hse1 ?_ ?_ ?_
 ·refine Rc.kp [0, 3, 4] [(0, .fsl (encL rBox p0)), (3, .sl (N0 + 3) 0 l1.length), (4, .int .i64 0)] rfl ?_
  exact Rf ⟨N0 + 6, (N0 + 3), (by omega), (by omega), (by omega), rfl, rfl⟩
 ·clear H hse1
  rintro ⟨s2, s3⟩ fl a σ H ⟨M1, o1, fM1_0, fM1_1, fM1_2, rfl, rfl⟩ K2 O2 hK2 hO2
  unfold l_toBoxS_L1 at H; dsimp only at H
  refine AWP_sq [0, 3, 4] fun K3 hK3 => ?_
  refine S0 tok [] [0, 3, 4, 11] ?_
  refine Cd (fun C1 => ?_) fun C1 => ?_
  ·replace H := ifT C1 H
   refine AWP_skip (Jn hK3 ?_)
   refine AWP_sq [0, 3, 4] fun K4 hK4 => ?_
   refine AWP_block (AWP_thenB ?_)
   obtain ⟨v5, hv5, H⟩ := bindE H
   obtain ⟨r6, hr6, H⟩ := bindE H
   obtain ⟨v7, hv7, H⟩ := bindE H
   obtain ⟨l8, hl8, H⟩ := bindE H
   refine Rt tok [] [0, 3, 4] (by intro K k; (repeat first | simp -dsimp -implicitDefEqProofs [ix23 hv5, ixo29 hv7, (idx_lt3 hv7).2.2, (setx_iff.1 hl8).2.symm] | refine (c62 hr6).app ?_); exact k) fun a ha => ?_
   (try rw [← setx_len hl8] at ha); (try rw [← setx_len hl8])
   refine hK4 _ _ ?_; rw [ha]
   refine Rc.mk ?_
   refine Rt0 tok [] [0, 3, 4] fun a ha => ?_
   obtain rfl := oi H
   refine hK2 _ _ _ rfl ?_; rw [ha]
   exact Rf ⟨M1 + 16, o1, (by omega), (by omega), (by omega), rfl, rfl⟩
  ·obtain rfl := oi (ifF C1 H)
   refine AWP_exit (hO2 _ _ _ _ rfl ⟨rfl, ?_⟩)
   refine Rc.rw (l := [3]) (X := [(3, .sl o1 0 s3.length)]) rfl ?_
   exact Rf ⟨M1 + 4, o1, (by omega), (by omega), (by omega), rfl, rfl⟩
 ·intro x a σ hx
  obtain ⟨y4, rfl⟩ : ∃ x, x = e1 := ⟨_, rfl⟩
  obtain ⟨rfl, b, τ, hr, M2, o2, fM2_0, fM2_1, fM2_2, rfl, rfl⟩ := hx
  dsimp only at H
  show K1 _ _
  refine hK1 _ _ (Rc_ref hr ?_)
  refine Rc.mk ?_
  refine S0 tok [] [2] ?_
  obtain rfl := oi H; exact AWP_ret ⟨_, rfl, 4, by simp [encL_nil]⟩
theorem c7 {p0 : gSquad} {r : gSquad} (H : l_toSquad p0 = some r) : APure Tryz.prog G 7 [.agg [.fsl (encL rMachine p0.Harts), .fsl (encL rBox p0.Boxes), .int .i64 p0.Turn, .int .i64 p0.Idle, .fsl (encL rI p0.Out)]] (.agg [.fsl (encL rMachine r.Harts), .fsl (encL rBox r.Boxes), .int .i64 r.Turn, .int .i64 r.Idle, .fsl (encL rI r.Out)]) := by
 refine APure_fn (fun N0 => ?_) (by simp)
 refine fnK tok Tryz.func7 Tryz.ntmps7 Tryz.results7 ?_
 simp only [argsA, Nat.reduceAdd, hp_next]
 unfold l_toSquad at H
 refine S0 tok [0] [1, 2] ?_
 refine S0 tok [] [1, 2, 3] ?_
 refine gW AWP_ref (N0 + 1) 0 0 ?_
 refine gW AWP_ref (N0 + 1) 0 1 ?_
 refine gW AWP_ref (N0 + 1) 0 4 ?_
 refine gW AWP_ref (N0 + 2) 0 0 ?_
 refine gW AWP_ref (N0 + 2) 0 1 ?_
 refine gW AWP_ref (N0 + 2) 0 4 ?_
 obtain ⟨r1, hr1, H⟩ := bindE H
 refine Sx tok [] [1, 2, 3] (by intro K k; (repeat first | simp -dsimp -implicitDefEqProofs | refine (c24 hr1).app ?_); exact k) ?_
 obtain ⟨r2, hr2, H⟩ := bindE H
 refine Sx tok [] [1, 2, 3] (by intro K k; (repeat first | simp -dsimp -implicitDefEqProofs | refine (c25 hr2).app ?_); exact k) ?_
 refine S0 tok [] [1, 2, 3] ?_
 refine S0 tok [] [1, 2, 3] ?_
 obtain ⟨r3, hr3, H⟩ := bindE H
 refine Sx tok [] [2, 3] (by intro K k; (repeat first | simp -dsimp -implicitDefEqProofs | refine (c26 hr3).app ?_); exact k) ?_
 refine S0 tok [] [2] ?_
 obtain rfl := oi H
 refine Kp [2] ?_
 refine AWP_ret ?_
 exact ⟨[.agg [.fsl (encL rMachine r1), .fsl (encL rBox r2), .int .i64 p0.Turn, .int .i64 p0.Idle, .fsl (encL rI r3)]], by simp, 4, by simp [encL_nil]⟩
theorem c21 {p0 : Int} {p1 : Int} {p2 : Int} {r : Bool} (H : s_l6In p0 p1 p2 = some r) : APure Tryz.prog G 21 [.int .i64 p0, .int .i64 p1, .int .i64 p2] (.bool r) := by
 refine APure_fn (fun N0 => ?_) (by simp)
 refine fnK tok Tryz.func21 Tryz.ntmps21 Tryz.results21 ?_
 simp only [argsA, Nat.reduceAdd, hp_next]
 unfold s_l6In at H
 refine S0 tok [] [0, 1, 2] ?_
 obtain ⟨g1, hg1, H⟩ := bindE H
 refine Sx tok [] [6] (X := [(6, .bool g1)]) (Y := hp E0 [] (N0 + 10)) (by
  intro K k
  simp -dsimp -implicitDefEqProofs
  cases hbg1 : ige p0 p1
  ·replace hg1 := ifF hbg1 hg1
   replace hg1 := Option.some.inj hg1; subst hg1
   try simp -dsimp -implicitDefEqProofs [hbg1]
   exact k
  ·replace hg1 := ifT hbg1 hg1
   replace hg1 := Option.some.inj hg1; subst hg1
   try simp -dsimp -implicitDefEqProofs [hbg1]
   exact k) ?_
 obtain rfl := oi H; exact AWP_ret ⟨_, rfl, 4, by simp [encL_nil]⟩
theorem c100 {p0 : Int} {r : Bool} (H : s_WordValid p0 = some r) : APure Tryz.prog G 100 [.int .i64 p0] (.bool r) := by
 refine APure_fn (fun N0 => ?_) (by simp)
 refine fnK tok Tryz.func100 Tryz.ntmps100 Tryz.results100 ?_
 simp only [argsA, Nat.reduceAdd, hp_next]
 unfold s_WordValid at H
 refine S0 tok [] [0] ?_
 obtain ⟨r1, hr1, H⟩ := bindE H
 refine Sx tok [] [2] (by intro K k; (repeat first | simp -dsimp -implicitDefEqProofs | refine (c21 hr1).app ?_); exact k) ?_
 obtain rfl := oi H; exact AWP_ret ⟨_, rfl, 4, by simp [encL_nil]⟩
theorem c54 {p0 : (List Int)} {p1 : Int} {r : Bool} (H : s_l4Words p0 p1 = some r) : APure Tryz.prog G 54 [.fsl (encL rI p0), .int .i64 p1] (.bool r) := by
 refine APure_fn (fun N0 => ?_) (by simp)
 refine fnK tok Tryz.func54 Tryz.ntmps54 Tryz.results54 ?_
 simp only [argsA, Nat.reduceAdd, hp_next]
 unfold s_l4Words at H
 refine S0 tok [] [0, 1] ?_
 refine AWP_sq [0] fun K1 hK1 => ?_
 refine S0 tok [] [0, 9] ?_
 refine Cd (fun C1 => ?_) fun C1 => ?_
 ·replace H := ifT C1 H
  refine S0 tok [] [4] ?_
  obtain rfl := oi H; exact AWP_ret ⟨_, rfl, 4, by simp [encL_nil]⟩
 ·replace H := ifF C1 H
  refine AWP_skip (Jn hK1 ?_)
  refine AWP_sq [] fun K2 hK2 => ?_
  refine S0 tok [] [0, 5] ?_
  refine AWP_block (AWP_thenB ?_)
  obtain ⟨e1, hse1, H⟩ := bindE H
  refine AWP_lp [0, 5] (fun s a σ => ∃ M1 : Nat, N0 ≤ M1 ∧ a = [(0, .fsl (encL rI p0)), (5, .int .i64 s)] ∧ σ = hp E0 [] M1) (fun e x a σ => match e with | .inl s => x = .exit 0 ∧ Rc G 22 N0 (fun a σ => ∃ M2 : Nat, N0 ≤ M2 ∧ a = [] ∧ σ = hp E0 [] M2) (AAct.keep a []) σ | .inr s => x = .ret ∧ ∃ vs, resA T σ a [.tmp 4] = some vs ∧ ∃ d, thawA (fun _ => true) σ d (tupA vs) = .bool s) hse1 ?_ ?_ ?_
  ·refine Rc.kp [0, 5] [(0, .fsl (encL rI p0)), (5, .int .i64 0)] rfl ?_
   exact Rf ⟨N0 + 6, (by omega), rfl, rfl⟩
  ·clear H hse1
   rintro s1 fl a σ H ⟨M1, fM1_0, rfl, rfl⟩ K3 O3 hK3 hO3
   unfold s_l4Words_L1 at H; dsimp only at H
   refine AWP_sq [0, 5] fun K4 hK4 => ?_
   refine S0 tok [] [0, 5, 13] ?_
   refine Cd (fun C2 => ?_) fun C2 => ?_
   ·replace H := ifT C2 H
    refine AWP_skip (Jn hK4 ?_)
    refine AWP_sq [0, 5] fun K5 hK5 => ?_
    refine AWP_block (AWP_thenB ?_)
    obtain ⟨v2, hv2, H⟩ := bindE H
    obtain ⟨r3, hr3, H⟩ := bindE H
    refine Sx tok [] [0, 5, 21] (by intro K k; (repeat first | simp -dsimp -implicitDefEqProofs [ix24 hv2] | refine (c100 hr3).app ?_); exact k) ?_
    refine Cd (fun C3 => ?_) fun C3 => ?_
    ·replace H := ifT C3 H
     refine S0 tok [] [4] ?_
     obtain rfl := oi H
     refine Kp [4] ?_
     refine AWP_ret (hO3 _ _ _ _ rfl ⟨rfl, ?_⟩)
     exact ⟨[.bool false], by simp, 4, by simp [encL_nil]⟩
    ·replace H := ifF C3 H
     refine AWP_skip (Jn hK5 ?_)
     refine Rt0 tok [] [0, 5] fun a ha => ?_
     obtain rfl := oi H
     refine hK3 _ _ _ rfl ?_; rw [ha]
     exact Rf ⟨M1 + 13, (by omega), rfl, rfl⟩
   ·obtain rfl := oi (ifF C2 H)
    refine AWP_exit (hO3 _ _ _ _ rfl ⟨rfl, ?_⟩)
    refine Rc.rw (l := []) (X := []) rfl ?_
    exact Rf ⟨M1 + 4, (by omega), rfl, rfl⟩
  ·intro x a σ hx
   rcases e1 with ⟨⟩ | r0
   ·obtain ⟨rfl, b, τ, hr, M2, fM2_0, rfl, rfl⟩ := hx
    dsimp only at H
    show K2 _ _
    refine hK2 _ _ (Rc_ref hr ?_)
    refine Rc.mk ?_
    refine S0 tok [] [4] ?_
    obtain rfl := oi H; exact AWP_ret ⟨_, rfl, 4, by simp [encL_nil]⟩
   ·obtain ⟨rfl, hx2⟩ := hx
    dsimp only at H
    obtain rfl := oi H; first | exact hx2 | (simp only [List.set_set] at hx2 ⊢; exact hx2)
theorem c99 {p0 : gBox} {r : Bool} (H : s_BoxValid p0 = some r) : APure Tryz.prog G 99 [.agg [.int .i64 p0.Room, .fsl (encL rI p0.Items)]] (.bool r) := by
 refine APure_fn (fun N0 => ?_) (by simp)
 refine fnK tok Tryz.func99 Tryz.ntmps99 Tryz.results99 ?_
 simp only [argsA, Nat.reduceAdd, hp_next]
 unfold s_BoxValid at H
 refine S0 tok [0] [1] ?_
 obtain ⟨r1, hr1, H⟩ := bindE H
 obtain ⟨g2, hg2, H⟩ := bindE H
 obtain ⟨g4, hg4, H⟩ := bindE H
 refine Sx tok [] [2] (X := [(2, .bool g4)]) (Y := hp E0 [] (N0 + 22)) (by
  intro K k
  simp -dsimp -implicitDefEqProofs
  refine (c21 hr1).app ?_; try simp -dsimp -implicitDefEqProofs
  cases hbg2 : r1
  ·replace hg2 := ifF hbg2 hg2
   replace hg2 := Option.some.inj hg2; subst hg2
   try simp -dsimp -implicitDefEqProofs [hbg2]
   replace hg4 := ifF rfl hg4
   replace hg4 := Option.some.inj hg4; subst hg4
   try simp -dsimp -implicitDefEqProofs [hbg2]
   exact k
  ·replace hg2 := ifT hbg2 hg2
   replace hg2 := Option.some.inj hg2; subst hg2
   try simp -dsimp -implicitDefEqProofs [hbg2]
   cases hbg4 : (ile (ilen p0.Items) p0.Room)
   ·replace hg4 := ifF hbg4 hg4
    replace hg4 := Option.some.inj hg4; subst hg4
    try simp -dsimp -implicitDefEqProofs [hbg2, hbg4]
    exact k
   ·replace hg4 := ifT hbg4 hg4
    obtain ⟨r3, hr3, hg4⟩ := bindE hg4
    replace hg4 := Option.some.inj hg4; subst hg4
    try simp -dsimp -implicitDefEqProofs [hbg2, hbg4]
    refine (c54 hr3).app ?_; try simp -dsimp -implicitDefEqProofs [hbg2, hbg4]
    exact k) ?_
 obtain rfl := oi H; exact AWP_ret ⟨_, rfl, 4, by simp [encL_nil]⟩
theorem c52 {p0 : (List gBox)} {r : Bool} (H : s_l15Boxes p0 = some r) : APure Tryz.prog G 52 [.fsl (encL rBox p0)] (.bool r) := by
 refine APure_fn (fun N0 => ?_) (by simp)
 refine fnK tok Tryz.func52 Tryz.ntmps52 Tryz.results52 ?_
 simp only [argsA, Nat.reduceAdd, hp_next]
 unfold s_l15Boxes at H
 refine S0 tok [] [0] ?_
 refine AWP_sq [0] fun K1 hK1 => ?_
 refine S0 tok [] [0, 3] ?_
 refine AWP_block (AWP_thenB ?_)
 obtain ⟨e1, hse1, H⟩ := bindE H
 refine AWP_lp [0, 3] (fun s a σ => ∃ M1 : Nat, N0 ≤ M1 ∧ a = [(0, .fsl (encL rBox p0)), (3, .int .i64 s)] ∧ σ = hp E0 [] M1) (fun e x a σ => match e with | .inl s => x = .exit 0 ∧ Rc G 19 N0 (fun a σ => ∃ M2 : Nat, N0 ≤ M2 ∧ a = [(0, .fsl (encL rBox p0))] ∧ σ = hp E0 [] M2) (AAct.keep a [0]) σ | .inr s => x = .ret ∧ ∃ vs, resA T σ a [.tmp 2] = some vs ∧ ∃ d, thawA (fun _ => true) σ d (tupA vs) = .bool s) hse1 ?_ ?_ ?_
 ·refine Rc.kp [0, 3] [(0, .fsl (encL rBox p0)), (3, .int .i64 0)] rfl ?_
  exact Rf ⟨N0 + 2, (by omega), rfl, rfl⟩
 ·clear H hse1
  rintro s1 fl a σ H ⟨M1, fM1_0, rfl, rfl⟩ K2 O2 hK2 hO2
  unfold s_l15Boxes_L1 at H; dsimp only at H
  refine AWP_sq [0, 3] fun K3 hK3 => ?_
  refine S0 tok [] [0, 3, 7] ?_
  refine Cd (fun C1 => ?_) fun C1 => ?_
  ·replace H := ifT C1 H
   refine AWP_skip (Jn hK3 ?_)
   refine AWP_sq [0, 3] fun K4 hK4 => ?_
   refine AWP_block (AWP_thenB ?_)
   obtain ⟨v2, hv2, H⟩ := bindE H
   obtain ⟨r3, hr3, H⟩ := bindE H
   refine Sx tok [] [0, 3, 15] (by intro K k; (repeat first | simp -dsimp -implicitDefEqProofs [ix29 hv2] | refine (c99 hr3).app ?_); exact k) ?_
   refine Cd (fun C2 => ?_) fun C2 => ?_
   ·replace H := ifT C2 H
    refine S0 tok [] [2] ?_
    obtain rfl := oi H
    refine Kp [2] ?_
    refine AWP_ret (hO2 _ _ _ _ rfl ⟨rfl, ?_⟩)
    exact ⟨[.bool false], by simp, 4, by simp [encL_nil]⟩
   ·replace H := ifF C2 H
    refine AWP_skip (Jn hK4 ?_)
    refine Rt0 tok [] [0, 3] fun a ha => ?_
    obtain rfl := oi H
    refine hK2 _ _ _ rfl ?_; rw [ha]
    exact Rf ⟨M1 + 13, (by omega), rfl, rfl⟩
  ·obtain rfl := oi (ifF C1 H)
   refine AWP_exit (hO2 _ _ _ _ rfl ⟨rfl, ?_⟩)
   refine Rc.rw (l := [0]) (X := [(0, .fsl (encL rBox p0))]) rfl ?_
   exact Rf ⟨M1 + 4, (by omega), rfl, rfl⟩
 ·intro x a σ hx
  rcases e1 with ⟨⟩ | r0
  ·obtain ⟨rfl, b, τ, hr, M2, fM2_0, rfl, rfl⟩ := hx
   dsimp only at H
   show K1 _ _
   refine hK1 _ _ (Rc_ref hr ?_)
   refine Rc.mk ?_
   refine S0 tok [] [2] ?_
   obtain rfl := oi H; exact AWP_ret ⟨_, rfl, 4, by simp [encL_nil]⟩
  ·obtain ⟨rfl, hx2⟩ := hx
   dsimp only at H
   obtain rfl := oi H; first | exact hx2 | (simp only [List.set_set] at hx2 ⊢; exact hx2)
theorem c53 {p0 : gMachine} {r : Bool} (H : s_MachineValid p0 = some r) : APure Tryz.prog G 53 [.agg [.fsl (encL rI p0.Regs), .int .i64 p0.Pc, .fsl (encL rI p0.Mem)]] (.bool r) := by
 refine APure_fn (fun N0 => ?_) (by simp)
 refine fnK tok Tryz.func53 Tryz.ntmps53 Tryz.results53 ?_
 simp only [argsA, Nat.reduceAdd, hp_next]
 unfold s_MachineValid at H
 refine S0 tok [0] [1] ?_
 obtain ⟨r1, hr1, H⟩ := bindE H
 obtain ⟨g3, hg3, H⟩ := bindE H
 obtain ⟨g5, hg5, H⟩ := bindE H
 obtain ⟨g6, hg6, H⟩ := bindE H
 obtain ⟨g8, hg8, H⟩ := bindE H
 refine Sx tok [] [2] (X := [(2, .bool g8)]) (Y := hp E0 [] (N0 + 32)) (by
  intro K k
  simp -dsimp -implicitDefEqProofs
  refine (c54 hr1).app ?_; try simp -dsimp -implicitDefEqProofs
  cases hbg3 : r1
  ·replace hg3 := ifF hbg3 hg3
   replace hg3 := Option.some.inj hg3; subst hg3
   try simp -dsimp -implicitDefEqProofs [hbg3]
   replace hg5 := ifF rfl hg5
   replace hg5 := Option.some.inj hg5; subst hg5
   try simp -dsimp -implicitDefEqProofs [hbg3]
   replace hg6 := ifF rfl hg6
   replace hg6 := Option.some.inj hg6; subst hg6
   try simp -dsimp -implicitDefEqProofs [hbg3]
   replace hg8 := ifF rfl hg8
   replace hg8 := Option.some.inj hg8; subst hg8
   try simp -dsimp -implicitDefEqProofs [hbg3]
   exact k
  ·replace hg3 := ifT hbg3 hg3
   obtain ⟨v2, hv2, hg3⟩ := bindE hg3
   replace hg3 := Option.some.inj hg3; subst hg3
   try simp -dsimp -implicitDefEqProofs [hbg3, ix24 hv2]
   cases hbg5 : (ieq v2 0)
   ·replace hg5 := ifF hbg5 hg5
    replace hg5 := Option.some.inj hg5; subst hg5
    try simp -dsimp -implicitDefEqProofs [hbg3, ix24 hv2, hbg5]
    replace hg6 := ifF rfl hg6
    replace hg6 := Option.some.inj hg6; subst hg6
    try simp -dsimp -implicitDefEqProofs [hbg3, ix24 hv2, hbg5]
    replace hg8 := ifF rfl hg8
    replace hg8 := Option.some.inj hg8; subst hg8
    try simp -dsimp -implicitDefEqProofs [hbg3, ix24 hv2, hbg5]
    exact k
   ·replace hg5 := ifT hbg5 hg5
    obtain ⟨r4, hr4, hg5⟩ := bindE hg5
    replace hg5 := Option.some.inj hg5; subst hg5
    try simp -dsimp -implicitDefEqProofs [hbg3, ix24 hv2, hbg5]
    refine (c100 hr4).app ?_; try simp -dsimp -implicitDefEqProofs [hbg3, ix24 hv2, hbg5]
    cases hbg6 : r4
    ·replace hg6 := ifF hbg6 hg6
     replace hg6 := Option.some.inj hg6; subst hg6
     try simp -dsimp -implicitDefEqProofs [hbg3, ix24 hv2, hbg5, hbg6]
     replace hg8 := ifF rfl hg8
     replace hg8 := Option.some.inj hg8; subst hg8
     try simp -dsimp -implicitDefEqProofs [hbg3, ix24 hv2, hbg5, hbg6]
     exact k
    ·replace hg6 := ifT hbg6 hg6
     replace hg6 := Option.some.inj hg6; subst hg6
     try simp -dsimp -implicitDefEqProofs [hbg3, ix24 hv2, hbg5, hbg6]
     cases hbg8 : (ile (ilen p0.Mem) 10000)
     ·replace hg8 := ifF hbg8 hg8
      replace hg8 := Option.some.inj hg8; subst hg8
      try simp -dsimp -implicitDefEqProofs [hbg3, ix24 hv2, hbg5, hbg6, hbg8]
      exact k
     ·replace hg8 := ifT hbg8 hg8
      obtain ⟨r7, hr7, hg8⟩ := bindE hg8
      replace hg8 := Option.some.inj hg8; subst hg8
      try simp -dsimp -implicitDefEqProofs [hbg3, ix24 hv2, hbg5, hbg6, hbg8]
      refine (c54 hr7).app ?_; try simp -dsimp -implicitDefEqProofs [hbg3, ix24 hv2, hbg5, hbg6, hbg8]
      exact k) ?_
 obtain rfl := oi H; exact AWP_ret ⟨_, rfl, 4, by simp [encL_nil]⟩
theorem c20 {p0 : gSquad} {r : Bool} (H : s_l45Valid p0 = some r) : APure Tryz.prog G 20 [.agg [.fsl (encL rMachine p0.Harts), .fsl (encL rBox p0.Boxes), .int .i64 p0.Turn, .int .i64 p0.Idle, .fsl (encL rI p0.Out)]] (.bool r) := by
 refine APure_fn (fun N0 => ?_) (by simp)
 refine fnK tok Tryz.func20 Tryz.ntmps20 Tryz.results20 ?_
 simp only [argsA, Nat.reduceAdd, hp_next]
 unfold s_l45Valid at H
 refine S0 tok [0] [1] ?_
 refine S0 tok [] [1, 3] ?_
 refine AWP_sq [1, 3] fun K1 hK1 => ?_
 obtain ⟨r1, hr1, H⟩ := bindE H
 obtain ⟨g3, hg3, H⟩ := bindE H
 obtain ⟨g5, hg5, H⟩ := bindE H
 obtain ⟨g7, hg7, H⟩ := bindE H
 refine Sx tok [] [1, 3, 31] (X := [(1, .fptr [.fsl (encL rMachine p0.Harts), .fsl (encL rBox p0.Boxes), .int .i64 p0.Turn, .int .i64 p0.Idle, .fsl (encL rI p0.Out)] 0), (3, .int .i64 (ilen p0.Harts)), (31, .bool g7)]) (Y := hp E0 [] (N0 + 30)) (by
  intro K k
  simp -dsimp -implicitDefEqProofs
  refine (c21 hr1).app ?_; try simp -dsimp -implicitDefEqProofs
  cases hbg3 : bnot r1
  ·replace hg3 := ifF hbg3 hg3
   obtain ⟨r2, hr2, hg3⟩ := bindE hg3
   replace hg3 := Option.some.inj hg3; subst hg3
   try simp -dsimp -implicitDefEqProofs [hbg3]
   refine (c52 hr2).app ?_; try simp -dsimp -implicitDefEqProofs [hbg3]
   cases hbg5 : (bnot r2)
   ·replace hg5 := ifF hbg5 hg5
    obtain ⟨r4, hr4, hg5⟩ := bindE hg5
    replace hg5 := Option.some.inj hg5; subst hg5
    try simp -dsimp -implicitDefEqProofs [hbg3, hbg5]
    refine (c21 hr4).app ?_; try simp -dsimp -implicitDefEqProofs [hbg3, hbg5]
    cases hbg7 : (bnot r4)
    ·replace hg7 := ifF hbg7 hg7
     obtain ⟨r6, hr6, hg7⟩ := bindE hg7
     replace hg7 := Option.some.inj hg7; subst hg7
     try simp -dsimp -implicitDefEqProofs [hbg3, hbg5, hbg7]
     refine (c21 hr6).app ?_; try simp -dsimp -implicitDefEqProofs [hbg3, hbg5, hbg7]
     exact k
    ·replace hg7 := ifT hbg7 hg7
     replace hg7 := Option.some.inj hg7; subst hg7
     try simp -dsimp -implicitDefEqProofs [hbg3, hbg5, hbg7]
     exact k
   ·replace hg5 := ifT hbg5 hg5
    replace hg5 := Option.some.inj hg5; subst hg5
    try simp -dsimp -implicitDefEqProofs [hbg3, hbg5]
    replace hg7 := ifT rfl hg7
    replace hg7 := Option.some.inj hg7; subst hg7
    try simp -dsimp -implicitDefEqProofs [hbg3, hbg5]
    exact k
  ·replace hg3 := ifT hbg3 hg3
   replace hg3 := Option.some.inj hg3; subst hg3
   try simp -dsimp -implicitDefEqProofs [hbg3]
   replace hg5 := ifT rfl hg5
   replace hg5 := Option.some.inj hg5; subst hg5
   try simp -dsimp -implicitDefEqProofs [hbg3]
   replace hg7 := ifT rfl hg7
   replace hg7 := Option.some.inj hg7; subst hg7
   try simp -dsimp -implicitDefEqProofs [hbg3]
   exact k) ?_
 refine Cd (fun C1 => ?_) fun C1 => ?_
 ·replace H := ifT C1 H
  refine S0 tok [] [2] ?_
  obtain rfl := oi H; exact AWP_ret ⟨_, rfl, 4, by simp [encL_nil]⟩
 ·replace H := ifF C1 H
  refine AWP_skip (Jn hK1 ?_)
  refine AWP_sq [1] fun K2 hK2 => ?_
  refine S0 tok [] [1, 3, 4] ?_
  refine AWP_block (AWP_thenB ?_)
  obtain ⟨e1, hse1, H⟩ := bindE H
  refine AWP_lp [1, 3, 4] (fun s a σ => ∃ M1 : Nat, N0 ≤ M1 ∧ a = [(1, .fptr [.fsl (encL rMachine p0.Harts), .fsl (encL rBox p0.Boxes), .int .i64 p0.Turn, .int .i64 p0.Idle, .fsl (encL rI p0.Out)] 0), (3, .int .i64 (ilen p0.Harts)), (4, .int .i64 s)] ∧ σ = hp E0 [] M1) (fun e x a σ => match e with | .inl s => x = .exit 0 ∧ Rc G 50 N0 (fun a σ => ∃ M2 : Nat, N0 ≤ M2 ∧ a = [(1, .fptr [.fsl (encL rMachine p0.Harts), .fsl (encL rBox p0.Boxes), .int .i64 p0.Turn, .int .i64 p0.Idle, .fsl (encL rI p0.Out)] 0)] ∧ σ = hp E0 [] M2) (AAct.keep a [1]) σ | .inr s => x = .ret ∧ ∃ vs, resA T σ a [.tmp 2] = some vs ∧ ∃ d, thawA (fun _ => true) σ d (tupA vs) = .bool s) hse1 ?_ ?_ ?_
  ·refine Rc.kp [1, 3, 4] [(1, .fptr [.fsl (encL rMachine p0.Harts), .fsl (encL rBox p0.Boxes), .int .i64 p0.Turn, .int .i64 p0.Idle, .fsl (encL rI p0.Out)] 0), (3, .int .i64 (ilen p0.Harts)), (4, .int .i64 0)] rfl ?_
   exact Rf ⟨N0 + 31, (by omega), rfl, rfl⟩
  ·clear H hse1
   rintro s8 fl a σ H ⟨M1, fM1_0, rfl, rfl⟩ K3 O3 hK3 hO3
   unfold s_l45Valid_L1 at H; dsimp only at H
   refine AWP_sq [1, 3, 4] fun K4 hK4 => ?_
   refine S0 tok [] [1, 3, 4, 34] ?_
   refine Cd (fun C2 => ?_) fun C2 => ?_
   ·replace H := ifT C2 H
    refine AWP_skip (Jn hK4 ?_)
    refine AWP_sq [1, 3, 4] fun K5 hK5 => ?_
    refine AWP_block (AWP_thenB ?_)
    obtain ⟨v9, hv9, H⟩ := bindE H
    obtain ⟨r10, hr10, H⟩ := bindE H
    refine Sx tok [] [1, 3, 4, 43] (by intro K k; (repeat first | simp -dsimp -implicitDefEqProofs [ix28 hv9] | refine (c53 hr10).app ?_); exact k) ?_
    refine Cd (fun C3 => ?_) fun C3 => ?_
    ·replace H := ifT C3 H
     refine S0 tok [] [2] ?_
     obtain rfl := oi H
     refine Kp [2] ?_
     refine AWP_ret (hO3 _ _ _ _ rfl ⟨rfl, ?_⟩)
     exact ⟨[.bool false], by simp, 4, by simp [encL_nil]⟩
    ·replace H := ifF C3 H
     refine AWP_skip (Jn hK5 ?_)
     refine Rt0 tok [] [1, 3, 4] fun a ha => ?_
     obtain rfl := oi H
     refine hK3 _ _ _ rfl ?_; rw [ha]
     exact Rf ⟨M1 + 13, (by omega), rfl, rfl⟩
   ·obtain rfl := oi (ifF C2 H)
    refine AWP_exit (hO3 _ _ _ _ rfl ⟨rfl, ?_⟩)
    refine Rc.rw (l := [1]) (X := [(1, .fptr [.fsl (encL rMachine p0.Harts), .fsl (encL rBox p0.Boxes), .int .i64 p0.Turn, .int .i64 p0.Idle, .fsl (encL rI p0.Out)] 0)]) rfl ?_
    exact Rf ⟨M1 + 3, (by omega), rfl, rfl⟩
  ·intro x a σ hx
   rcases e1 with ⟨⟩ | r0
   ·obtain ⟨rfl, b, τ, hr, M2, fM2_0, rfl, rfl⟩ := hx
    dsimp only at H
    show K2 _ _
    refine hK2 _ _ (Rc_ref hr ?_)
    refine Rc.mk ?_
    obtain ⟨r11, hr11, H⟩ := bindE H
    refine Sx tok [] [2] (by intro K k; (repeat first | simp -dsimp -implicitDefEqProofs | refine (c54 hr11).app ?_); exact k) ?_
    obtain rfl := oi H; exact AWP_ret ⟨_, rfl, 4, by simp [encL_nil]⟩
   ·obtain ⟨rfl, hx2⟩ := hx
    dsimp only at H
    obtain rfl := oi H; first | exact hx2 | (simp only [List.set_set] at hx2 ⊢; exact hx2)
theorem c57 {p0 : gMachine} {p1 : Int} {r : Bool} (H : s_l45Fits p0 p1 = some r) : APure Tryz.prog G 57 [.fptr [.fsl (encL rI p0.Regs), .int .i64 p0.Pc, .fsl (encL rI p0.Mem)] 0, .int .i64 p1] (.bool r) := by
 refine APure_fn (fun N0 => ?_) (by simp)
 refine fnK tok Tryz.func57 Tryz.ntmps57 Tryz.results57 ?_
 simp only [argsA, Nat.reduceAdd, hp_next]
 unfold s_l45Fits at H
 refine S0 tok [] [0, 1] ?_
 obtain ⟨v1, hv1, H⟩ := bindE H
 refine Sx tok [] [0, 1, 5] (by intro K k; simp -dsimp -implicitDefEqProofs [ix24 hv1]; exact k) ?_
 refine AWP_sq [0, 1, 5] fun K1 hK1 => ?_
 obtain ⟨g3, hg3, H⟩ := bindE H
 refine Sx tok [] [0, 1, 5, 21] (X := [(0, .fptr [.fsl (encL rI p0.Regs), .int .i64 p0.Pc, .fsl (encL rI p0.Mem)] 0), (1, .int .i64 p1), (5, .int .i64 v1), (21, .bool g3)]) (Y := hp E0 [] (N0 + 18)) (by
  intro K k
  simp -dsimp -implicitDefEqProofs
  cases hbg3 : ine p0.Pc 0
  ·replace hg3 := ifF hbg3 hg3
   obtain ⟨r2, hr2, hg3⟩ := bindE hg3
   replace hg3 := Option.some.inj hg3; subst hg3
   try simp -dsimp -implicitDefEqProofs [hbg3]
   refine (c21 hr2).app ?_; try simp -dsimp -implicitDefEqProofs [hbg3]
   exact k
  ·replace hg3 := ifT hbg3 hg3
   replace hg3 := Option.some.inj hg3; subst hg3
   try simp -dsimp -implicitDefEqProofs [hbg3]
   exact k) ?_
 refine Cd (fun C1 => ?_) fun C1 => ?_
 ·replace H := ifT C1 H
  refine S0 tok [] [4] ?_
  obtain rfl := oi H; exact AWP_ret ⟨_, rfl, 4, by simp [encL_nil]⟩
 ·replace H := ifF C1 H
  refine AWP_skip (Jn hK1 ?_)
  obtain ⟨g4, hg4, H⟩ := bindE H
  obtain ⟨g7, hg7, H⟩ := bindE H
  refine Sx tok [] [4] (X := [(4, .bool g7)]) (Y := hp E0 [] (N0 + 36)) (by
   intro K k
   simp -dsimp -implicitDefEqProofs
   cases hbg4 : ine v1 1
   ·replace hg4 := ifF hbg4 hg4
    replace hg4 := Option.some.inj hg4; subst hg4
    try simp -dsimp -implicitDefEqProofs [hbg4]
    replace hg7 := ifF rfl hg7
    obtain ⟨v5, hv5, hg7⟩ := bindE hg7
    obtain ⟨r6, hr6, hg7⟩ := bindE hg7
    replace hg7 := Option.some.inj hg7; subst hg7
    try simp -dsimp -implicitDefEqProofs [hbg4, ix24 hv5]
    refine (c21 hr6).app ?_; try simp -dsimp -implicitDefEqProofs [hbg4, ix24 hv5]
    exact k
   ·replace hg4 := ifT hbg4 hg4
    replace hg4 := Option.some.inj hg4; subst hg4
    try simp -dsimp -implicitDefEqProofs [hbg4]
    cases hbg7 : (ine v1 2)
    ·replace hg7 := ifF hbg7 hg7
     obtain ⟨v5, hv5, hg7⟩ := bindE hg7
     obtain ⟨r6, hr6, hg7⟩ := bindE hg7
     replace hg7 := Option.some.inj hg7; subst hg7
     try simp -dsimp -implicitDefEqProofs [hbg4, hbg7, ix24 hv5]
     refine (c21 hr6).app ?_; try simp -dsimp -implicitDefEqProofs [hbg4, hbg7, ix24 hv5]
     exact k
    ·replace hg7 := ifT hbg7 hg7
     replace hg7 := Option.some.inj hg7; subst hg7
     try simp -dsimp -implicitDefEqProofs [hbg4, hbg7]
     exact k) ?_
  obtain rfl := oi H; exact AWP_ret ⟨_, rfl, 4, by simp [encL_nil]⟩
theorem c128 {p0 : gBox} {p1 : Int} {r : gBox × Bool} (H : s_BoxPut p0 p1 = some r) : APure Tryz.prog G 128 [.agg [.int .i64 p0.Room, .fsl (encL rI p0.Items)], .int .i64 p1] (.tup [.agg [.int .i64 r.1.Room, .fsl (encL rI r.1.Items)], .bool r.2]) := by
 refine APure_fn (fun N0 => ?_) (by simp)
 refine fnK tok Tryz.func128 Tryz.ntmps128 Tryz.results128 ?_
 simp only [argsA, Nat.reduceAdd, hp_next]
 unfold s_BoxPut at H
 refine S0 tok [0] [1, 2, 4] ?_
 refine AWP_sq [1, 2, 4] fun K1 hK1 => ?_
 refine gW AWP_ref (N0 + 1) 0 1 ?_
 obtain ⟨r1, hr1, H⟩ := bindE H
 obtain ⟨g3, hg3, H⟩ := bindE H
 obtain ⟨g4, hg4, H⟩ := bindE H
 refine Sx tok [] [1, 2, 4, 21] (X := [(1, .int .i64 p1), (2, .fptr [.int .i64 p0.Room, .fsl (encL rI p0.Items)] 0), (4, .ptr (N0 + 1) 0 0), (21, .bool g4)]) (Y := hp E0 [(N0 + 1, some ⟨93, 2, [[.int .i64 0, .fsl []]]⟩)] (N0 + 19)) (by
  intro K k
  simp -dsimp -implicitDefEqProofs
  refine (c99 hr1).app ?_; try simp -dsimp -implicitDefEqProofs
  cases hbg3 : bnot r1
  ·replace hg3 := ifF hbg3 hg3
   obtain ⟨r2, hr2, hg3⟩ := bindE hg3
   replace hg3 := Option.some.inj hg3; subst hg3
   try simp -dsimp -implicitDefEqProofs [hbg3]
   refine (c100 hr2).app ?_; try simp -dsimp -implicitDefEqProofs [hbg3]
   cases hbg4 : (bnot r2)
   ·replace hg4 := ifF hbg4 hg4
    replace hg4 := Option.some.inj hg4; subst hg4
    try simp -dsimp -implicitDefEqProofs [hbg3, hbg4]
    exact k
   ·replace hg4 := ifT hbg4 hg4
    replace hg4 := Option.some.inj hg4; subst hg4
    try simp -dsimp -implicitDefEqProofs [hbg3, hbg4]
    exact k
  ·replace hg3 := ifT hbg3 hg3
   replace hg3 := Option.some.inj hg3; subst hg3
   try simp -dsimp -implicitDefEqProofs [hbg3]
   replace hg4 := ifT rfl hg4
   replace hg4 := Option.some.inj hg4; subst hg4
   try simp -dsimp -implicitDefEqProofs [hbg3]
   exact k) ?_
 refine Cd (fun C1 => ?_) fun C1 => ?_
 ·replace H := ifT C1 H
  refine S0 tok [] [4, 5] ?_
  obtain rfl := oi H
  refine Kp [4, 5] ?_
  refine AWP_ret ?_
  exact ⟨[.agg [.int .i64 0, .fsl []], .bool false], by simp, 4, by simp [encL_nil]⟩
 ·replace H := ifF C1 H
  refine AWP_skip (Jn hK1 ?_)
  obtain ⟨l5, hl5, H⟩ := bindE H
  obtain ⟨l6, hl6, H⟩ := bindE H
  have q0 : ∀ σ i, buildSliceA T 24 true i 0 [] σ = some (.esl, σ) := fun _ _ => rfl
  have q1 : ∀ σ i, buildSliceA T 24 true i 1 [(0, .int .i64 p1)] σ = some (.fsl (encL rI ([p1] : List Int)), σ) := fun _ _ => rfl
  refine Sd tok tokM [2, 7] [5, 8, 10] [0, 1, 2, 3, 4, 6, 7, 5, 8, 9, 10, 11] [4, 5] (by
   intro K k
   simp only [pickL, nthO_succ, nthO_zero]
   simp -dsimp -implicitDefEqProofs [q0, q1, appe24 hl5, app24 hl6]
   exact k) ?_
  obtain rfl := oi H
  refine Kp [4, 5] ?_
  refine AWP_ret ?_
  exact ⟨[.agg [.int .i64 p0.Room, .sl (N0 + 27) 0 l6.length], .bool true], by simp, 4, by simp [encL_nil]⟩
theorem c129 {p0 : gBox} {r : gBox × Int × Bool} (H : s_BoxTake p0 = some r) : APure Tryz.prog G 129 [.agg [.int .i64 p0.Room, .fsl (encL rI p0.Items)]] (.tup [.agg [.int .i64 r.1.Room, .fsl (encL rI r.1.Items)], .int .i64 r.2.1, .bool r.2.2]) := by
 refine APure_fn (fun N0 => ?_) (by simp)
 refine fnK tok Tryz.func129 Tryz.ntmps129 Tryz.results129 ?_
 simp only [argsA, Nat.reduceAdd, hp_next]
 unfold s_BoxTake at H
 refine S0 tok [0] [1, 2] ?_
 refine AWP_sq [1, 2] fun K1 hK1 => ?_
 refine gW AWP_ref (N0 + 1) 0 1 ?_
 obtain ⟨r1, hr1, H⟩ := bindE H
 obtain ⟨g2, hg2, H⟩ := bindE H
 refine Sx tok [] [1, 2, 13] (X := [(1, .fptr [.int .i64 p0.Room, .fsl (encL rI p0.Items)] 0), (2, .ptr (N0 + 1) 0 0), (13, .bool g2)]) (Y := hp E0 [(N0 + 1, some ⟨93, 2, [[.int .i64 0, .fsl []]]⟩)] (N0 + 13)) (by
  intro K k
  simp -dsimp -implicitDefEqProofs
  refine (c99 hr1).app ?_; try simp -dsimp -implicitDefEqProofs
  cases hbg2 : bnot r1
  ·replace hg2 := ifF hbg2 hg2
   replace hg2 := Option.some.inj hg2; subst hg2
   try simp -dsimp -implicitDefEqProofs [hbg2]
   exact k
  ·replace hg2 := ifT hbg2 hg2
   replace hg2 := Option.some.inj hg2; subst hg2
   try simp -dsimp -implicitDefEqProofs [hbg2]
   exact k) ?_
 refine Cd (fun C1 => ?_) fun C1 => ?_
 ·replace H := ifT C1 H
  refine S0 tok [] [2, 3, 4] ?_
  obtain rfl := oi H
  refine Kp [2, 3, 4] ?_
  refine AWP_ret ?_
  exact ⟨[.agg [.int .i64 0, .fsl []], .int .i64 0, .bool false], by simp, 4, by simp [encL_nil]⟩
 ·replace H := ifF C1 H
  refine AWP_skip (Jn hK1 ?_)
  obtain ⟨l3, hl3, H⟩ := bindE H
  obtain ⟨l4, hl4, H⟩ := bindE H
  obtain ⟨v5, hv5, H⟩ := bindE H
  have q0 : ∀ σ i, buildSliceA T 24 true i 0 [] σ = some (.esl, σ) := fun _ _ => rfl
  refine Sd tok tokM [2, 6] [12] [0, 1, 2, 3, 4, 5, 6, 7, 8, 9, 10, 11, 12, 13, 14] [2, 3, 4] (by
   intro K k
   simp only [pickL, nthO_succ, nthO_zero]
   simp -dsimp -implicitDefEqProofs [q0, cutl_24 hl3, appf24 hl4, ix24 hv5]
   exact k) ?_
  obtain rfl := oi H
  refine Kp [2, 3, 4] ?_
  refine AWP_ret ?_
  exact ⟨[.agg [.int .i64 p0.Room, .fsl (encL rI l4)], .int .i64 v5, .bool true], by simp, 4, by simp [encL_nil]⟩
theorem c102 {p0 : (List Int)} {p1 : Int} {r : Bool} (H : s_l44Word p0 p1 = some r) : APure Tryz.prog G 102 [.fsl (encL rI p0), .int .i64 p1] (.bool r) := by
 refine APure_fn (fun N0 => ?_) (by simp)
 refine fnK tok Tryz.func102 Tryz.ntmps102 Tryz.results102 ?_
 simp only [argsA, Nat.reduceAdd, hp_next]
 unfold s_l44Word at H
 refine S0 tok [] [0, 1] ?_
 obtain ⟨g2, hg2, H⟩ := bindE H
 obtain ⟨g4, hg4, H⟩ := bindE H
 refine Sx tok [] [4] (X := [(4, .bool g4)]) (Y := hp E0 [] (N0 + 16)) (by
  intro K k
  simp -dsimp -implicitDefEqProofs
  cases hbg2 : ige p1 0
  ·replace hg2 := ifF hbg2 hg2
   replace hg2 := Option.some.inj hg2; subst hg2
   try simp -dsimp -implicitDefEqProofs [hbg2]
   replace hg4 := ifF rfl hg4
   replace hg4 := Option.some.inj hg4; subst hg4
   try simp -dsimp -implicitDefEqProofs [hbg2]
   exact k
  ·replace hg2 := ifT hbg2 hg2
   obtain ⟨v1, hv1, hg2⟩ := bindE hg2
   replace hg2 := Option.some.inj hg2; subst hg2
   try simp -dsimp -implicitDefEqProofs [hbg2, hv1]
   cases hbg4 : (ieq v1 0)
   ·replace hg4 := ifF hbg4 hg4
    replace hg4 := Option.some.inj hg4; subst hg4
    try simp -dsimp -implicitDefEqProofs [hbg2, hv1, hbg4]
    exact k
   ·replace hg4 := ifT hbg4 hg4
    obtain ⟨v3, hv3, hg4⟩ := bindE hg4
    replace hg4 := Option.some.inj hg4; subst hg4
    try simp -dsimp -implicitDefEqProofs [hbg2, hv1, hbg4, hv3]
    exact k) ?_
 obtain rfl := oi H; exact AWP_ret ⟨_, rfl, 4, by simp [encL_nil]⟩
theorem c104 {p0 : Int} {r : Int} (H : s_Unsigned p0 = some r) : APure Tryz.prog G 104 [.int .i64 p0] (.int .i64 r) := by
 refine APure_fn (fun N0 => ?_) (by simp)
 refine fnK tok Tryz.func104 Tryz.ntmps104 Tryz.results104 ?_
 simp only [argsA, Nat.reduceAdd, hp_next]
 unfold s_Unsigned at H
 refine S0 tok [] [0] ?_
 refine AWP_sq [0] fun K1 hK1 => ?_
 obtain ⟨r1, hr1, H⟩ := bindE H
 refine Sx tok [] [0, 5] (by intro K k; (repeat first | simp -dsimp -implicitDefEqProofs | refine (c100 hr1).app ?_); exact k) ?_
 refine Cd (fun C1 => ?_) fun C1 => ?_
 ·replace H := ifT C1 H
  refine S0 tok [] [2] ?_
  obtain rfl := oi H; exact AWP_ret ⟨_, rfl, 4, by simp [encL_nil]⟩
 ·replace H := ifF C1 H
  refine AWP_skip (Jn hK1 ?_)
  refine AWP_sq [0] fun K2 hK2 => ?_
  refine S0 tok [] [0, 7] ?_
  refine Cd (fun C2 => ?_) fun C2 => ?_
  ·replace H := ifT C2 H
   refine S0 tok [] [2] ?_
   obtain rfl := oi H; exact AWP_ret ⟨_, rfl, 4, by simp [encL_nil]⟩
  ·replace H := ifF C2 H
   refine AWP_skip (Jn hK2 ?_)
   refine S0 tok [] [2] ?_
   obtain rfl := oi H; exact AWP_ret ⟨_, rfl, 4, by simp [encL_nil]⟩
theorem c166 {p0 : Int} {r : Int} (H : s_l1Power p0 = some r) : APure Tryz.prog G 166 [.int .i64 p0] (.int .i64 r) := by
 refine APure_fn (fun N0 => ?_) (by simp)
 refine fnK tok Tryz.func166 Tryz.ntmps166 Tryz.results166 ?_
 simp only [argsA, Nat.reduceAdd, hp_next]
 unfold s_l1Power at H
 refine S0 tok [] [0] ?_
 refine S0 tok [] [0, 3] ?_
 refine AWP_sq [3] fun K1 hK1 => ?_
 refine S0 tok [] [0, 3, 4] ?_
 refine AWP_block (AWP_thenB ?_)
 obtain ⟨e1, hse1, H⟩ := bindE H
 refine AWP_lp [0, 3, 4] (fun s a σ => ∃ M1 : Nat, N0 ≤ M1 ∧ a = [(0, .int .i64 p0), (3, .int .i64 s.1), (4, .int .i64 s.2)] ∧ σ = hp E0 [] M1) (fun s x a σ => x = .exit 0 ∧ Rc G 13 N0 (fun a σ => ∃ M2 : Nat, N0 ≤ M2 ∧ a = [(3, .int .i64 s)] ∧ σ = hp E0 [] M2) (AAct.keep a [3]) σ) hse1 ?_ ?_ ?_
 ·refine Rc.kp [0, 3, 4] [(0, .int .i64 p0), (3, .int .i64 1), (4, .int .i64 0)] rfl ?_
  exact Rf ⟨N0 + 3, (by omega), rfl, rfl⟩
 ·clear H hse1
  rintro ⟨s1, s2⟩ fl a σ H ⟨M1, fM1_0, rfl, rfl⟩ K2 O2 hK2 hO2
  unfold s_l1Power_L1 at H; dsimp only at H
  refine AWP_sq [0, 3, 4] fun K3 hK3 => ?_
  refine S0 tok [] [0, 3, 4, 7] ?_
  refine Cd (fun C1 => ?_) fun C1 => ?_
  ·replace H := ifT C1 H
   refine AWP_skip (Jn hK3 ?_)
   refine AWP_sq [0, 3, 4] fun K4 hK4 => ?_
   refine AWP_block (AWP_thenB ?_)
   refine Rt0 tok [] [0, 3, 4] fun a ha => ?_
   refine hK4 _ _ ?_; rw [ha]
   refine Rc.mk ?_
   refine Rt0 tok [] [0, 3, 4] fun a ha => ?_
   obtain rfl := oi H
   refine hK2 _ _ _ rfl ?_; rw [ha]
   exact Rf ⟨M1 + 9, (by omega), rfl, rfl⟩
  ·obtain rfl := oi (ifF C1 H)
   refine AWP_exit (hO2 _ _ _ _ rfl ⟨rfl, ?_⟩)
   refine Rc.rw (l := [3]) (X := [(3, .int .i64 s1)]) rfl ?_
   exact Rf ⟨M1 + 3, (by omega), rfl, rfl⟩
 ·intro x a σ hx
  obtain ⟨y3, rfl⟩ : ∃ x, x = e1 := ⟨_, rfl⟩
  obtain ⟨rfl, b, τ, hr, M2, fM2_0, rfl, rfl⟩ := hx
  dsimp only at H
  show K1 _ _
  refine hK1 _ _ (Rc_ref hr ?_)
  refine Rc.mk ?_
  refine S0 tok [] [2] ?_
  obtain rfl := oi H; exact AWP_ret ⟨_, rfl, 4, by simp [encL_nil]⟩
theorem c148 {p0 : Int} {p1 : Int} {p2 : Int} {r : Int} (H : s_Bits p0 p1 p2 = some r) : APure Tryz.prog G 148 [.int .i64 p0, .int .i64 p1, .int .i64 p2] (.int .i64 r) := by
 refine APure_fn (fun N0 => ?_) (by simp)
 refine fnK tok Tryz.func148 Tryz.ntmps148 Tryz.results148 ?_
 simp only [argsA, Nat.reduceAdd, hp_next]
 unfold s_Bits at H
 refine S0 tok [] [0, 1, 2] ?_
 refine AWP_sq [0, 1, 2] fun K1 hK1 => ?_
 obtain ⟨r1, hr1, H⟩ := bindE H
 obtain ⟨g3, hg3, H⟩ := bindE H
 obtain ⟨g5, hg5, H⟩ := bindE H
 refine Sx tok [] [0, 1, 2, 21] (X := [(0, .int .i64 p0), (1, .int .i64 p1), (2, .int .i64 p2), (21, .bool g5)]) (Y := hp E0 [] (N0 + 16)) (by
  intro K k
  simp -dsimp -implicitDefEqProofs
  refine (c21 hr1).app ?_; try simp -dsimp -implicitDefEqProofs
  cases hbg3 : bnot r1
  ·replace hg3 := ifF hbg3 hg3
   obtain ⟨r2, hr2, hg3⟩ := bindE hg3
   replace hg3 := Option.some.inj hg3; subst hg3
   try simp -dsimp -implicitDefEqProofs [hbg3]
   refine (c21 hr2).app ?_; try simp -dsimp -implicitDefEqProofs [hbg3]
   cases hbg5 : (bnot r2)
   ·replace hg5 := ifF hbg5 hg5
    obtain ⟨r4, hr4, hg5⟩ := bindE hg5
    replace hg5 := Option.some.inj hg5; subst hg5
    try simp -dsimp -implicitDefEqProofs [hbg3, hbg5]
    refine (c21 hr4).app ?_; try simp -dsimp -implicitDefEqProofs [hbg3, hbg5]
    exact k
   ·replace hg5 := ifT hbg5 hg5
    replace hg5 := Option.some.inj hg5; subst hg5
    try simp -dsimp -implicitDefEqProofs [hbg3, hbg5]
    exact k
  ·replace hg3 := ifT hbg3 hg3
   replace hg3 := Option.some.inj hg3; subst hg3
   try simp -dsimp -implicitDefEqProofs [hbg3]
   replace hg5 := ifT rfl hg5
   replace hg5 := Option.some.inj hg5; subst hg5
   try simp -dsimp -implicitDefEqProofs [hbg3]
   exact k) ?_
 refine Cd (fun C1 => ?_) fun C1 => ?_
 ·replace H := ifT C1 H
  refine S0 tok [] [6] ?_
  obtain rfl := oi H; exact AWP_ret ⟨_, rfl, 4, by simp [encL_nil]⟩
 ·replace H := ifF C1 H
  refine AWP_skip (Jn hK1 ?_)
  obtain ⟨r6, hr6, H⟩ := bindE H
  obtain ⟨v7, hv7, H⟩ := bindE H
  obtain ⟨r8, hr8, H⟩ := bindE H
  obtain ⟨v9, hv9, H⟩ := bindE H
  refine Sd tok tokM [] [] [0, 1, 2, 3, 4, 5, 6, 7] [6] (by
   intro K k
   simp only [pickL, nthO_succ, nthO_zero]
   repeat first | simp -dsimp -implicitDefEqProofs [hv7, hv9] | refine Pc.mk (c166 hr6) ?_ | refine Pc.mk (c166 hr8) ?_
   exact k) ?_
  obtain rfl := oi H; exact AWP_ret ⟨_, rfl, 4, by simp [encL_nil]⟩
theorem c150 {p0 : Int} {r : Int} (H : s_l42Three p0 = some r) : APure Tryz.prog G 150 [.int .i64 p0] (.int .i64 r) := by
 refine APure_fn (fun N0 => ?_) (by simp)
 refine fnK tok Tryz.func150 Tryz.ntmps150 Tryz.results150 ?_
 simp only [argsA, Nat.reduceAdd, hp_next]
 unfold s_l42Three at H
 refine S0 tok [] [0] ?_
 obtain ⟨v1, hv1, H⟩ := bindE H
 have q0 : ∀ σ i, buildSliceA T 24 true i 21 [(0, .int .i64 0), (1, .int .i64 0), (2, .int .i64 0), (3, .int .i64 4), (4, .int .i64 6), (5, .int .i64 7), (6, .int .i64 6), (7, .int .i64 4), (8, .int .i64 1), (9, .int .i64 5), (10, .int .i64 2), (11, .int .i64 0), (12, .int .i64 3), (13, .int .i64 2), (14, .int .i64 0), (15, .int .i64 2), (16, .int .i64 0), (17, .int .i64 1), (18, .int .i64 0), (19, .int .i64 0), (20, .int .i64 0)] σ = some (.fsl (encL rI ([0, 0, 0, 4, 6, 7, 6, 4, 1, 5, 2, 0, 3, 2, 0, 2, 0, 1, 0, 0, 0] : List Int)), σ) := fun _ _ => rfl
 refine Sx tok [0] [2] (by intro K k; simp -dsimp -implicitDefEqProofs [q0, ix24 hv1]; exact k) ?_
 obtain rfl := oi H; exact AWP_ret ⟨_, rfl, 4, by simp [encL_nil]⟩
theorem c151 {p0 : Int} {r : Int} (H : s_l42Seven p0 = some r) : APure Tryz.prog G 151 [.int .i64 p0] (.int .i64 r) := by
 refine APure_fn (fun N0 => ?_) (by simp)
 refine fnK tok Tryz.func151 Tryz.ntmps151 Tryz.results151 ?_
 simp only [argsA, Nat.reduceAdd, hp_next]
 unfold s_l42Seven at H
 refine S0 tok [] [0] ?_
 obtain ⟨v1, hv1, H⟩ := bindE H
 have q0 : ∀ σ i, buildSliceA T 24 true i 11 [(0, .int .i64 0), (1, .int .i64 32), (2, .int .i64 1), (3, .int .i64 1), (4, .int .i64 1), (5, .int .i64 0), (6, .int .i64 0), (7, .int .i64 0), (8, .int .i64 0), (9, .int .i64 32), (10, .int .i64 0)] σ = some (.fsl (encL rI ([0, 32, 1, 1, 1, 0, 0, 0, 0, 32, 0] : List Int)), σ) := fun _ _ => rfl
 refine Sx tok [0] [2] (by intro K k; simp -dsimp -implicitDefEqProofs [q0, ix24 hv1]; exact k) ?_
 obtain rfl := oi H; exact AWP_ret ⟨_, rfl, 4, by simp [encL_nil]⟩
theorem c130 {p0 : Int} {r : Int} (H : s_l42Op p0 = some r) : APure Tryz.prog G 130 [.int .i64 p0] (.int .i64 r) := by
 refine APure_fn (fun N0 => ?_) (by simp)
 refine fnK tok Tryz.func130 Tryz.ntmps130 Tryz.results130 ?_
 simp only [argsA, Nat.reduceAdd, hp_next]
 unfold s_l42Op at H
 refine S0 tok [] [0] ?_
 refine AWP_sq [] fun K1 hK1 => ?_
 obtain ⟨r1, hr1, H⟩ := bindE H
 refine Sx tok [] [0, 5] (by intro K k; (repeat first | simp -dsimp -implicitDefEqProofs | refine (c148 hr1).app ?_); exact k) ?_
 refine AWP_block (AWP_thenB ?_)
 refine S0 tok [] [0, 5, 6] ?_
 refine Cd (fun C1 => ?_) fun C1 => ?_
 ·replace H := ifT C1 H
  refine AWP_sq [] fun K2 hK2 => ?_
  refine S0 tok [] [0, 3] ?_
  refine AWP_block (AWP_thenB ?_)
  obtain ⟨e1, hse1, H⟩ := bindE H
  refine AWP_lp [0, 3] (fun s a σ => ∃ M1 : Nat, N0 ≤ M1 ∧ a = [(0, .int .i64 p0), (3, .int .i64 s)] ∧ σ = hp E0 [] M1) (fun e x a σ => match e with | .inl s => x = .exit 1 ∧ Rc G 47 N0 (fun a σ => ∃ M2 : Nat, N0 ≤ M2 ∧ a = [] ∧ σ = hp E0 [] M2) (AAct.keep a []) σ | .inr s => x = .ret ∧ ∃ vs, resA T σ a [.tmp 2] = some vs ∧ ∃ d, thawA (fun _ => true) σ d (tupA vs) = .int .i64 s) hse1 ?_ ?_ ?_
  ·refine Rc.kp [0, 3] [(0, .int .i64 p0), (3, .int .i64 1)] rfl ?_
   exact Rf ⟨N0 + 6, (by omega), rfl, rfl⟩
  ·clear H hse1
   rintro s2 fl a σ H ⟨M1, fM1_0, rfl, rfl⟩ K3 O3 hK3 hO3
   unfold s_l42Op_L1 at H; dsimp only at H
   refine AWP_sq [0, 3] fun K4 hK4 => ?_
   refine S0 tok [] [0, 3, 9] ?_
   refine Cd (fun C2 => ?_) fun C2 => ?_
   ·replace H := ifT C2 H
    refine AWP_skip (Jn hK4 ?_)
    refine AWP_sq [0, 3] fun K5 hK5 => ?_
    refine AWP_block (AWP_thenB ?_)
    obtain ⟨r3, hr3, H⟩ := bindE H
    obtain ⟨r4, hr4, H⟩ := bindE H
    obtain ⟨g7, hg7, H⟩ := bindE H
    refine Sx tok [] [0, 3, 23] (X := [(0, .int .i64 p0), (3, .int .i64 s2), (23, .bool g7)]) (Y := hp E0 [] (M1 + 14)) (by
     intro K k
     simp -dsimp -implicitDefEqProofs
     refine (c148 hr3).app ?_; try simp -dsimp -implicitDefEqProofs
     refine (c150 hr4).app ?_; try simp -dsimp -implicitDefEqProofs
     cases hbg7 : ieq r3 r4
     ·replace hg7 := ifF hbg7 hg7
      replace hg7 := Option.some.inj hg7; subst hg7
      try simp -dsimp -implicitDefEqProofs [hbg7]
      exact k
     ·replace hg7 := ifT hbg7 hg7
      obtain ⟨r5, hr5, hg7⟩ := bindE hg7
      obtain ⟨r6, hr6, hg7⟩ := bindE hg7
      replace hg7 := Option.some.inj hg7; subst hg7
      try simp -dsimp -implicitDefEqProofs [hbg7]
      refine (c148 hr5).app ?_; try simp -dsimp -implicitDefEqProofs [hbg7]
      refine (c151 hr6).app ?_; try simp -dsimp -implicitDefEqProofs [hbg7]
      exact k) ?_
    refine Cd (fun C3 => ?_) fun C3 => ?_
    ·replace H := ifT C3 H
     refine S0 tok [] [2] ?_
     obtain rfl := oi H
     refine Kp [2] ?_
     refine AWP_ret (hO3 _ _ _ _ rfl ⟨rfl, ?_⟩)
     exact ⟨[.int .i64 s2], by simp, 4, by simp [encL_nil]⟩
    ·replace H := ifF C3 H
     refine AWP_skip (Jn hK5 ?_)
     refine Rt0 tok [] [0, 3] fun a ha => ?_
     obtain rfl := oi H
     refine hK3 _ _ _ rfl ?_; rw [ha]
     exact Rf ⟨M1 + 17, (by omega), rfl, rfl⟩
   ·obtain rfl := oi (ifF C2 H)
    refine AWP_exit (hO3 _ _ _ _ rfl ⟨rfl, ?_⟩)
    refine Rc.rw (l := []) (X := []) rfl ?_
    exact Rf ⟨M1 + 2, (by omega), rfl, rfl⟩
  ·intro x a σ hx
   rcases e1 with ⟨⟩ | r0
   ·obtain ⟨rfl, b, τ, hr, M2, fM2_0, rfl, rfl⟩ := hx
    dsimp only at H
    show K2 _ _
    refine hK2 _ _ (Rc_ref hr ?_)
    refine Rc.mk ?_
    refine S0 tok [] [2] ?_
    obtain rfl := oi H; exact AWP_ret ⟨_, rfl, 4, by simp [encL_nil]⟩
   ·obtain ⟨rfl, hx2⟩ := hx
    dsimp only at H
    obtain rfl := oi H; first | exact hx2 | (simp only [List.set_set] at hx2 ⊢; exact hx2)
 ·replace H := ifF C1 H
  refine S0 tok [] [0, 5, 25] ?_
  refine Cd (fun C4 => ?_) fun C4 => ?_
  ·replace H := ifT C4 H
   refine AWP_sq [] fun K6 hK6 => ?_
   obtain ⟨r8, hr8, H⟩ := bindE H
   refine Sx tok [] [29] (by intro K k; (repeat first | simp -dsimp -implicitDefEqProofs | refine (c148 hr8).app ?_); exact k) ?_
   refine Cd (fun C5 => ?_) fun C5 => ?_
   ·replace H := ifT C5 H
    refine S0 tok [] [2] ?_
    obtain rfl := oi H; exact AWP_ret ⟨_, rfl, 4, by simp [encL_nil]⟩
   ·replace H := ifF C5 H
    refine AWP_skip (Jn hK6 ?_)
    refine S0 tok [] [2] ?_
    obtain rfl := oi H; exact AWP_ret ⟨_, rfl, 4, by simp [encL_nil]⟩
  ·replace H := ifF C4 H
   refine S0 tok [] [0, 5, 30] ?_
   refine Cd (fun C6 => ?_) fun C6 => ?_
   ·replace H := ifT C6 H
    refine S0 tok [] [2] ?_
    obtain rfl := oi H; exact AWP_ret ⟨_, rfl, 4, by simp [encL_nil]⟩
   ·replace H := ifF C6 H
    refine S0 tok [] [0, 5, 32] ?_
    refine Cd (fun C7 => ?_) fun C7 => ?_
    ·replace H := ifT C7 H
     refine S0 tok [] [2] ?_
     obtain rfl := oi H; exact AWP_ret ⟨_, rfl, 4, by simp [encL_nil]⟩
    ·replace H := ifF C7 H
     refine S0 tok [] [0, 5, 34] ?_
     refine Cd (fun C8 => ?_) fun C8 => ?_
     ·replace H := ifT C8 H
      refine S0 tok [] [2] ?_
      obtain rfl := oi H; exact AWP_ret ⟨_, rfl, 4, by simp [encL_nil]⟩
     ·replace H := ifF C8 H
      refine S0 tok [] [0, 5, 36] ?_
      refine Cd (fun C9 => ?_) fun C9 => ?_
      ·replace H := ifT C9 H
       refine AWP_sq [] fun K7 hK7 => ?_
       obtain ⟨r9, hr9, H⟩ := bindE H
       refine Sx tok [] [40] (by intro K k; (repeat first | simp -dsimp -implicitDefEqProofs | refine (c148 hr9).app ?_); exact k) ?_
       refine Cd (fun C10 => ?_) fun C10 => ?_
       ·replace H := ifT C10 H
        refine S0 tok [] [2] ?_
        obtain rfl := oi H; exact AWP_ret ⟨_, rfl, 4, by simp [encL_nil]⟩
       ·replace H := ifF C10 H
        refine AWP_skip (Jn hK7 ?_)
        refine S0 tok [] [2] ?_
        obtain rfl := oi H; exact AWP_ret ⟨_, rfl, 4, by simp [encL_nil]⟩
      ·replace H := ifF C9 H
       refine S0 tok [] [5, 41] ?_
       refine Cd (fun C11 => ?_) fun C11 => ?_
       ·replace H := ifT C11 H
        refine S0 tok [] [2] ?_
        obtain rfl := oi H; exact AWP_ret ⟨_, rfl, 4, by simp [encL_nil]⟩
       ·replace H := ifF C11 H
        refine S0 tok [] [5, 43] ?_
        refine Cd (fun C12 => ?_) fun C12 => ?_
        ·replace H := ifT C12 H
         refine S0 tok [] [2] ?_
         obtain rfl := oi H; exact AWP_ret ⟨_, rfl, 4, by simp [encL_nil]⟩
        ·replace H := ifF C12 H
         refine S0 tok [] [45] ?_
         refine Cd (fun C13 => ?_) fun C13 => ?_
         ·replace H := ifT C13 H
          refine S0 tok [] [2] ?_
          obtain rfl := oi H; exact AWP_ret ⟨_, rfl, 4, by simp [encL_nil]⟩
         ·replace H := ifF C13 H
          refine AWP_skip (Jn hK1 ?_)
          refine S0 tok [] [2] ?_
          obtain rfl := oi H; exact AWP_ret ⟨_, rfl, 4, by simp [encL_nil]⟩
theorem c147 {p0 : Int} {p1 : Int} {r : Int} (H : s_SignExtend p0 p1 = some r) : APure Tryz.prog G 147 [.int .i64 p0, .int .i64 p1] (.int .i64 r) := by
 refine APure_fn (fun N0 => ?_) (by simp)
 refine fnK tok Tryz.func147 Tryz.ntmps147 Tryz.results147 ?_
 simp only [argsA, Nat.reduceAdd, hp_next]
 unfold s_SignExtend at H
 refine S0 tok [] [0, 1] ?_
 refine AWP_sq [0, 1] fun K1 hK1 => ?_
 obtain ⟨r1, hr1, H⟩ := bindE H
 obtain ⟨g4, hg4, H⟩ := bindE H
 refine Sx tok [] [0, 1, 15] (X := [(0, .int .i64 p0), (1, .int .i64 p1), (15, .bool g4)]) (Y := hp E0 [] (N0 + 12)) (by
  intro K k
  simp -dsimp -implicitDefEqProofs
  refine (c21 hr1).app ?_; try simp -dsimp -implicitDefEqProofs
  cases hbg4 : bnot r1
  ·replace hg4 := ifF hbg4 hg4
   obtain ⟨r2, hr2, hg4⟩ := bindE hg4
   obtain ⟨r3, hr3, hg4⟩ := bindE hg4
   replace hg4 := Option.some.inj hg4; subst hg4
   try simp -dsimp -implicitDefEqProofs [hbg4]
   refine (c166 hr2).app ?_; try simp -dsimp -implicitDefEqProofs [hbg4]
   refine (c21 hr3).app ?_; try simp -dsimp -implicitDefEqProofs [hbg4]
   exact k
  ·replace hg4 := ifT hbg4 hg4
   replace hg4 := Option.some.inj hg4; subst hg4
   try simp -dsimp -implicitDefEqProofs [hbg4]
   exact k) ?_
 refine Cd (fun C1 => ?_) fun C1 => ?_
 ·replace H := ifT C1 H
  refine S0 tok [] [4] ?_
  obtain rfl := oi H; exact AWP_ret ⟨_, rfl, 4, by simp [encL_nil]⟩
 ·replace H := ifF C1 H
  refine AWP_skip (Jn hK1 ?_)
  refine AWP_sq [0] fun K2 hK2 => ?_
  obtain ⟨r5, hr5, H⟩ := bindE H
  refine Sx tok [] [0, 1, 20] (by intro K k; (repeat first | simp -dsimp -implicitDefEqProofs | refine (c166 hr5).app ?_); exact k) ?_
  refine Cd (fun C2 => ?_) fun C2 => ?_
  ·replace H := ifT C2 H
   obtain ⟨r6, hr6, H⟩ := bindE H
   refine Sx tok [] [4] (by intro K k; (repeat first | simp -dsimp -implicitDefEqProofs | refine (c166 hr6).app ?_); exact k) ?_
   obtain rfl := oi H; exact AWP_ret ⟨_, rfl, 4, by simp [encL_nil]⟩
  ·replace H := ifF C2 H
   refine AWP_skip (Jn hK2 ?_)
   refine S0 tok [] [4] ?_
   obtain rfl := oi H; exact AWP_ret ⟨_, rfl, 4, by simp [encL_nil]⟩
theorem c131 {p0 : Int} {p1 : Int} {r : gInstr} (H : s_l42Fields p0 p1 = some r) : APure Tryz.prog G 131 [.int .i64 p0, .int .i64 p1] (.agg [.int .i64 r.Op, .int .i64 r.Rd, .int .i64 r.Rs, .int .i64 r.Rt, .int .i64 r.Imm]) := by
 refine APure_fn (fun N0 => ?_) (by simp)
 refine fnK tok Tryz.func131 Tryz.ntmps131 Tryz.results131 ?_
 simp only [argsA, Nat.reduceAdd, hp_next]
 unfold s_l42Fields at H
 refine S0 tok [] [0, 1, 4] ?_
 obtain ⟨r1, hr1, H⟩ := bindE H
 refine Sx tok [] [0, 1, 4, 5] (by intro K k; (repeat first | simp -dsimp -implicitDefEqProofs | refine (c148 hr1).app ?_); exact k) ?_
 obtain ⟨r2, hr2, H⟩ := bindE H
 refine Sx tok [] [0, 1, 4, 5, 6] (by intro K k; (repeat first | simp -dsimp -implicitDefEqProofs | refine (c148 hr2).app ?_); exact k) ?_
 obtain ⟨r3, hr3, H⟩ := bindE H
 refine Sx tok [] [0, 1, 4, 5, 6, 7] (by intro K k; (repeat first | simp -dsimp -implicitDefEqProofs | refine (c148 hr3).app ?_); exact k) ?_
 refine AWP_sq [0, 4] fun K1 hK1 => ?_
 refine AWP_block (AWP_thenB ?_)
 refine S0 tok [] [0, 1, 4, 5, 6, 7, 16] ?_
 refine Cd (fun C1 => ?_) fun C1 => ?_
 ·replace H := ifT C1 H
  refine S0 tok [] [4] ?_
  obtain rfl := oi H
  refine Kp [4] ?_
  refine AWP_ret ?_
  exact ⟨[.agg [.int .i64 p0, .int .i64 r1, .int .i64 r2, .int .i64 r3, .int .i64 0]], by simp, 4, by simp [encL_nil]⟩
 ·replace H := ifF C1 H
  refine S0 tok [] [0, 1, 4, 5, 6, 7, 24] ?_
  refine Cd (fun C2 => ?_) fun C2 => ?_
  ·replace H := ifT C2 H
   obtain ⟨r4, hr4, H⟩ := bindE H
   obtain ⟨r5, hr5, H⟩ := bindE H
   refine Sx tok [] [4] (by intro K k; (repeat first | simp -dsimp -implicitDefEqProofs | refine (c148 hr4).app ?_ | refine (c147 hr5).app ?_); exact k) ?_
   obtain rfl := oi H
   refine Kp [4] ?_
   refine AWP_ret ?_
   exact ⟨[.agg [.int .i64 p0, .int .i64 r1, .int .i64 r2, .int .i64 0, .int .i64 r5]], by simp, 4, by simp [encL_nil]⟩
  ·replace H := ifF C2 H
   refine S0 tok [] [0, 1, 4, 5, 6, 7, 34] ?_
   refine Cd (fun C3 => ?_) fun C3 => ?_
   ·replace H := ifT C3 H
    obtain ⟨r6, hr6, H⟩ := bindE H
    obtain ⟨r7, hr7, H⟩ := bindE H
    refine Sx tok [] [4] (by intro K k; (repeat first | simp -dsimp -implicitDefEqProofs | refine (c148 hr6).app ?_ | refine (c147 hr7).app ?_); exact k) ?_
    obtain rfl := oi H
    refine Kp [4] ?_
    refine AWP_ret ?_
    exact ⟨[.agg [.int .i64 p0, .int .i64 0, .int .i64 r2, .int .i64 r3, .int .i64 r7]], by simp, 4, by simp [encL_nil]⟩
   ·replace H := ifF C3 H
    obtain ⟨g8, hg8, H⟩ := bindE H
    refine Sx tok [] [0, 1, 4, 5, 6, 7, 47] (X := [(0, .int .i64 p0), (1, .int .i64 p1), (4, .ptr N0 0 0), (5, .int .i64 r1), (6, .int .i64 r2), (7, .int .i64 r3), (47, .bool g8)]) (Y := hp E0 [(N0, some ⟨103, 5, [[.int .i64 0, .int .i64 0, .int .i64 0, .int .i64 0, .int .i64 0]]⟩)] (N0 + 26)) (by
     intro K k
     simp -dsimp -implicitDefEqProofs
     cases hbg8 : ieq p0 17
     ·replace hg8 := ifF hbg8 hg8
      replace hg8 := Option.some.inj hg8; subst hg8
      try simp -dsimp -implicitDefEqProofs [hbg8]
      exact k
     ·replace hg8 := ifT hbg8 hg8
      replace hg8 := Option.some.inj hg8; subst hg8
      try simp -dsimp -implicitDefEqProofs [hbg8]
      exact k) ?_
    refine Cd (fun C4 => ?_) fun C4 => ?_
    ·replace H := ifT C4 H
     obtain ⟨r9, hr9, H⟩ := bindE H
     obtain ⟨r10, hr10, H⟩ := bindE H
     obtain ⟨r11, hr11, H⟩ := bindE H
     obtain ⟨r12, hr12, H⟩ := bindE H
     refine Sx tok [] [0, 4, 6, 7, 8] (by intro K k; (repeat first | simp -dsimp -implicitDefEqProofs | refine (c148 hr9).app ?_ | refine (c148 hr10).app ?_ | refine (c148 hr11).app ?_ | refine (c148 hr12).app ?_); exact k) ?_
     obtain ⟨r13, hr13, H⟩ := bindE H
     refine Sx tok [] [4] (by intro K k; (repeat first | simp -dsimp -implicitDefEqProofs | refine (c147 hr13).app ?_); exact k) ?_
     obtain rfl := oi H
     refine Kp [4] ?_
     refine AWP_ret ?_
     exact ⟨[.agg [.int .i64 p0, .int .i64 0, .int .i64 r2, .int .i64 r3, .int .i64 r13]], by simp, 4, by simp [encL_nil]⟩
    ·replace H := ifF C4 H
     refine S0 tok [] [0, 1, 4, 5, 75] ?_
     refine Cd (fun C5 => ?_) fun C5 => ?_
     ·replace H := ifT C5 H
      obtain ⟨r14, hr14, H⟩ := bindE H
      refine Sx tok [] [4] (by intro K k; (repeat first | simp -dsimp -implicitDefEqProofs | refine (c148 hr14).app ?_); exact k) ?_
      obtain rfl := oi H
      refine Kp [4] ?_
      refine AWP_ret ?_
      exact ⟨[.agg [.int .i64 p0, .int .i64 r1, .int .i64 0, .int .i64 0, .int .i64 r14]], by simp, 4, by simp [encL_nil]⟩
     ·replace H := ifF C5 H
      refine S0 tok [] [0, 1, 4, 5, 83] ?_
      refine Cd (fun C6 => ?_) fun C6 => ?_
      ·replace H := ifT C6 H
       obtain ⟨r15, hr15, H⟩ := bindE H
       obtain ⟨r16, hr16, H⟩ := bindE H
       obtain ⟨r17, hr17, H⟩ := bindE H
       obtain ⟨r18, hr18, H⟩ := bindE H
       refine Sx tok [] [0, 4, 5, 9] (by intro K k; (repeat first | simp -dsimp -implicitDefEqProofs | refine (c148 hr15).app ?_ | refine (c148 hr16).app ?_ | refine (c148 hr17).app ?_ | refine (c148 hr18).app ?_); exact k) ?_
       obtain ⟨r19, hr19, H⟩ := bindE H
       refine Sx tok [] [4] (by intro K k; (repeat first | simp -dsimp -implicitDefEqProofs | refine (c147 hr19).app ?_); exact k) ?_
       obtain rfl := oi H
       refine Kp [4] ?_
       refine AWP_ret ?_
       exact ⟨[.agg [.int .i64 p0, .int .i64 r1, .int .i64 0, .int .i64 0, .int .i64 r19]], by simp, 4, by simp [encL_nil]⟩
      ·replace H := ifF C6 H
       refine AWP_skip (Jn hK1 ?_)
       refine S0 tok [] [4] ?_
       obtain rfl := oi H
       refine Kp [4] ?_
       refine AWP_ret ?_
       exact ⟨[.agg [.int .i64 p0, .int .i64 0, .int .i64 0, .int .i64 0, .int .i64 0]], by simp, 4, by simp [encL_nil]⟩
theorem c153 {p0 : Int} {p1 : Int} {r : Int} (H : s_l42Mod p0 p1 = some r) : APure Tryz.prog G 153 [.int .i64 p0, .int .i64 p1] (.int .i64 r) := by
 refine APure_fn (fun N0 => ?_) (by simp)
 refine fnK tok Tryz.func153 Tryz.ntmps153 Tryz.results153 ?_
 simp only [argsA, Nat.reduceAdd, hp_next]
 unfold s_l42Mod at H
 refine S0 tok [] [0, 1] ?_
 refine AWP_sq [0] fun K1 hK1 => ?_
 refine S0 tok [] [0, 1, 6] ?_
 refine Cd (fun C1 => ?_) fun C1 => ?_
 ·replace H := ifT C1 H
  refine S0 tok [] [4] ?_
  obtain rfl := oi H; exact AWP_ret ⟨_, rfl, 4, by simp [encL_nil]⟩
 ·replace H := ifF C1 H
  refine AWP_skip (Jn hK1 ?_)
  refine S0 tok [] [4] ?_
  obtain rfl := oi H; exact AWP_ret ⟨_, rfl, 4, by simp [encL_nil]⟩
theorem c154 {p0 : Int} {p1 : Int} {r : Int} (H : s_l42Put p0 p1 = some r) : APure Tryz.prog G 154 [.int .i64 p0, .int .i64 p1] (.int .i64 r) := by
 refine APure_fn (fun N0 => ?_) (by simp)
 refine fnK tok Tryz.func154 Tryz.ntmps154 Tryz.results154 ?_
 simp only [argsA, Nat.reduceAdd, hp_next]
 unfold s_l42Put at H
 refine S0 tok [] [0, 1] ?_
 obtain ⟨r1, hr1, H⟩ := bindE H
 refine Sx tok [] [4] (by intro K k; (repeat first | simp -dsimp -implicitDefEqProofs | refine (c166 hr1).app ?_); exact k) ?_
 obtain rfl := oi H; exact AWP_ret ⟨_, rfl, 4, by simp [encL_nil]⟩
theorem c155 {p0 : gInstr} {p1 : Int} {r : Int} (H : s_l42Mid p0 p1 = some r) : APure Tryz.prog G 155 [.agg [.int .i64 p0.Op, .int .i64 p0.Rd, .int .i64 p0.Rs, .int .i64 p0.Rt, .int .i64 p0.Imm], .int .i64 p1] (.int .i64 r) := by
 refine APure_fn (fun N0 => ?_) (by simp)
 refine fnK tok Tryz.func155 Tryz.ntmps155 Tryz.results155 ?_
 simp only [argsA, Nat.reduceAdd, hp_next]
 unfold s_l42Mid at H
 refine S0 tok [0] [1, 2] ?_
 obtain ⟨r1, hr1, H⟩ := bindE H
 obtain ⟨r2, hr2, H⟩ := bindE H
 obtain ⟨r3, hr3, H⟩ := bindE H
 refine Sd tok tokM [] [] [0, 1, 2, 3, 4, 5, 6, 7, 8, 9, 10] [4] (by
  intro K k
  simp only [pickL, nthO_succ, nthO_zero]
  repeat first | simp -dsimp -implicitDefEqProofs | refine Pc.mk (c154 hr1) ?_ | refine Pc.mk (c150 hr2) ?_ | refine Pc.mk (c154 hr3) ?_
  exact k) ?_
 obtain rfl := oi H; exact AWP_ret ⟨_, rfl, 4, by simp [encL_nil]⟩
theorem c152 {p0 : gInstr} {p1 : Int} {r : Int} (H : s_l42Imm p0 p1 = some r) : APure Tryz.prog G 152 [.agg [.int .i64 p0.Op, .int .i64 p0.Rd, .int .i64 p0.Rs, .int .i64 p0.Rt, .int .i64 p0.Imm], .int .i64 p1] (.int .i64 r) := by
 refine APure_fn (fun N0 => ?_) (by simp)
 refine fnK tok Tryz.func152 Tryz.ntmps152 Tryz.results152 ?_
 simp only [argsA, Nat.reduceAdd, hp_next]
 unfold s_l42Imm at H
 refine S0 tok [0] [1, 2] ?_
 obtain ⟨r1, hr1, H⟩ := bindE H
 obtain ⟨r2, hr2, H⟩ := bindE H
 obtain ⟨r3, hr3, H⟩ := bindE H
 obtain ⟨r4, hr4, H⟩ := bindE H
 refine Sd tok tokM [] [] [0, 1, 2, 3, 4, 5, 6, 7, 8, 9, 10, 11, 12] [4] (by
  intro K k
  simp only [pickL, nthO_succ, nthO_zero]
  repeat first | simp -dsimp -implicitDefEqProofs | refine Pc.mk (c153 hr1) ?_ | refine Pc.mk (c154 hr2) ?_ | refine Pc.mk (c155 hr3) ?_ | refine Pc.mk (c154 hr4) ?_
  exact k) ?_
 obtain rfl := oi H; exact AWP_ret ⟨_, rfl, 4, by simp [encL_nil]⟩
theorem c156 {p0 : gInstr} {r : Int} (H : s_l42Branch p0 = some r) : APure Tryz.prog G 156 [.agg [.int .i64 p0.Op, .int .i64 p0.Rd, .int .i64 p0.Rs, .int .i64 p0.Rt, .int .i64 p0.Imm]] (.int .i64 r) := by
 refine APure_fn (fun N0 => ?_) (by simp)
 refine fnK tok Tryz.func156 Tryz.ntmps156 Tryz.results156 ?_
 simp only [argsA, Nat.reduceAdd, hp_next]
 unfold s_l42Branch at H
 refine S0 tok [0] [1] ?_
 obtain ⟨r1, hr1, H⟩ := bindE H
 refine Sx tok [] [1, 3] (by intro K k; (repeat first | simp -dsimp -implicitDefEqProofs | refine (c153 hr1).app ?_); exact k) ?_
 obtain ⟨r2, hr2, H⟩ := bindE H
 obtain ⟨r3, hr3, H⟩ := bindE H
 obtain ⟨r4, hr4, H⟩ := bindE H
 obtain ⟨r5, hr5, H⟩ := bindE H
 obtain ⟨r6, hr6, H⟩ := bindE H
 refine Sd tok tokM [] [] [0, 1, 2, 3, 4, 5, 6, 7, 8, 9, 10, 11] [1, 3, 4] (by
  intro K k
  simp only [pickL, nthO_succ, nthO_zero]
  repeat first | simp -dsimp -implicitDefEqProofs | refine Pc.mk (c148 hr2) ?_ | refine Pc.mk (c154 hr3) ?_ | refine Pc.mk (c148 hr4) ?_ | refine Pc.mk (c154 hr5) ?_ | refine Pc.mk (c154 hr6) ?_
  exact k) ?_
 obtain ⟨r7, hr7, H⟩ := bindE H
 obtain ⟨r8, hr8, H⟩ := bindE H
 obtain ⟨r9, hr9, H⟩ := bindE H
 obtain ⟨r10, hr10, H⟩ := bindE H
 obtain ⟨r11, hr11, H⟩ := bindE H
 refine Sx tok [] [2] (by intro K k; (repeat first | simp -dsimp -implicitDefEqProofs | refine (c155 hr7).app ?_ | refine (c148 hr8).app ?_ | refine (c154 hr9).app ?_ | refine (c148 hr10).app ?_ | refine (c154 hr11).app ?_); exact k) ?_
 obtain rfl := oi H; exact AWP_ret ⟨_, rfl, 4, by simp [encL_nil]⟩
theorem c157 {p0 : gInstr} {r : Int} (H : s_l42Jump p0 = some r) : APure Tryz.prog G 157 [.agg [.int .i64 p0.Op, .int .i64 p0.Rd, .int .i64 p0.Rs, .int .i64 p0.Rt, .int .i64 p0.Imm]] (.int .i64 r) := by
 refine APure_fn (fun N0 => ?_) (by simp)
 refine fnK tok Tryz.func157 Tryz.ntmps157 Tryz.results157 ?_
 simp only [argsA, Nat.reduceAdd, hp_next]
 unfold s_l42Jump at H
 refine S0 tok [0] [1] ?_
 obtain ⟨r1, hr1, H⟩ := bindE H
 refine Sx tok [] [1, 3] (by intro K k; (repeat first | simp -dsimp -implicitDefEqProofs | refine (c153 hr1).app ?_); exact k) ?_
 obtain ⟨r2, hr2, H⟩ := bindE H
 obtain ⟨r3, hr3, H⟩ := bindE H
 obtain ⟨r4, hr4, H⟩ := bindE H
 obtain ⟨r5, hr5, H⟩ := bindE H
 obtain ⟨r6, hr6, H⟩ := bindE H
 obtain ⟨r7, hr7, H⟩ := bindE H
 refine Sx tok [] [1, 3, 4] (by intro K k; (repeat first | simp -dsimp -implicitDefEqProofs | refine (c148 hr2).app ?_ | refine (c154 hr3).app ?_ | refine (c148 hr4).app ?_ | refine (c154 hr5).app ?_ | refine (c148 hr6).app ?_ | refine (c154 hr7).app ?_); exact k) ?_
 obtain ⟨r8, hr8, H⟩ := bindE H
 obtain ⟨r9, hr9, H⟩ := bindE H
 obtain ⟨r10, hr10, H⟩ := bindE H
 refine Sd tok tokM [] [] [0, 1, 2, 3, 4, 5, 6, 7, 8, 9, 10] [2] (by
  intro K k
  simp only [pickL, nthO_succ, nthO_zero]
  repeat first | simp -dsimp -implicitDefEqProofs | refine Pc.mk (c148 hr8) ?_ | refine Pc.mk (c154 hr9) ?_ | refine Pc.mk (c154 hr10) ?_
  exact k) ?_
 obtain rfl := oi H; exact AWP_ret ⟨_, rfl, 4, by simp [encL_nil]⟩
theorem c132 {p0 : gInstr} {r : Int} (H : s_l42Encode p0 = some r) : APure Tryz.prog G 132 [.agg [.int .i64 p0.Op, .int .i64 p0.Rd, .int .i64 p0.Rs, .int .i64 p0.Rt, .int .i64 p0.Imm]] (.int .i64 r) := by
 refine APure_fn (fun N0 => ?_) (by simp)
 refine fnK tok Tryz.func132 Tryz.ntmps132 Tryz.results132 ?_
 simp only [argsA, Nat.reduceAdd, hp_next]
 unfold s_l42Encode at H
 refine S0 tok [0] [1] ?_
 refine AWP_sq [1] fun K1 hK1 => ?_
 refine S0 tok [] [1, 5] ?_
 refine AWP_block (AWP_thenB ?_)
 obtain ⟨j1, hj1, H⟩ := bindE H
 refine AWP_seq (AWP_named fun K3 hK3 => ?_)
 have hJ1 : ∀ a σ, Rc G 74 N0 (fun a σ => ∃ M1 : Nat, N0 ≤ M1 ∧ a = [(1, .fptr [.int .i64 p0.Op, .int .i64 p0.Rd, .int .i64 p0.Rs, .int .i64 p0.Rt, .int .i64 p0.Imm] 0), (5, .int .i64 p0.Op), (6, .bool j1)] ∧ σ = hp E0 [] M1) (a.keep [1, 5, 6]) σ → K3 a σ := by
  rintro a σ ⟨b, τ, hr, M1, fM1_0, rfl, rfl⟩
  refine hK3 _ _ (AWP_keep [1, 5, 6] (AWP_ref hr ?_))
  refine Cd (fun C1 => ?_) fun C1 => ?_
  ·replace H := ifT C1 H
   obtain ⟨r2, hr2, H⟩ := bindE H
   refine Sx tok [] [2] (by intro K k; (repeat first | simp -dsimp -implicitDefEqProofs | refine (c152 hr2).app ?_); exact k) ?_
   obtain rfl := oi H; exact AWP_ret ⟨_, rfl, 4, by simp [encL_nil]⟩
  ·replace H := ifF C1 H
   refine S0 tok [] [1, 5, 11] ?_
   refine Cd (fun C2 => ?_) fun C2 => ?_
   ·replace H := ifT C2 H
    obtain ⟨r3, hr3, H⟩ := bindE H
    refine Sx tok [] [2] (by intro K k; (repeat first | simp -dsimp -implicitDefEqProofs | refine (c152 hr3).app ?_); exact k) ?_
    obtain rfl := oi H; exact AWP_ret ⟨_, rfl, 4, by simp [encL_nil]⟩
   ·replace H := ifF C2 H
    refine S0 tok [] [1, 5, 15] ?_
    refine Cd (fun C3 => ?_) fun C3 => ?_
    ·replace H := ifT C3 H
     obtain ⟨r4, hr4, H⟩ := bindE H
     refine Sx tok [] [2] (by intro K k; (repeat first | simp -dsimp -implicitDefEqProofs | refine (c152 hr4).app ?_); exact k) ?_
     obtain rfl := oi H; exact AWP_ret ⟨_, rfl, 4, by simp [encL_nil]⟩
    ·replace H := ifF C3 H
     refine S0 tok [] [1, 5, 19] ?_
     refine Cd (fun C4 => ?_) fun C4 => ?_
     ·replace H := ifT C4 H
      obtain ⟨r5, hr5, H⟩ := bindE H
      refine Sx tok [] [1, 3] (by intro K k; (repeat first | simp -dsimp -implicitDefEqProofs | refine (c153 hr5).app ?_); exact k) ?_
      obtain ⟨r6, hr6, H⟩ := bindE H
      obtain ⟨r7, hr7, H⟩ := bindE H
      obtain ⟨r8, hr8, H⟩ := bindE H
      obtain ⟨r9, hr9, H⟩ := bindE H
      obtain ⟨r10, hr10, H⟩ := bindE H
      obtain ⟨r11, hr11, H⟩ := bindE H
      refine Sd tok tokM [] [] [0, 1, 2, 3, 4, 5, 6, 7, 8, 9, 10, 11, 12, 13, 14] [2] (by
       intro K k
       simp only [pickL, nthO_succ, nthO_zero]
       repeat first | simp -dsimp -implicitDefEqProofs | refine Pc.mk (c148 hr6) ?_ | refine Pc.mk (c154 hr7) ?_ | refine Pc.mk (c154 hr8) ?_ | refine Pc.mk (c155 hr9) ?_ | refine Pc.mk (c148 hr10) ?_ | refine Pc.mk (c154 hr11) ?_
       exact k) ?_
      obtain rfl := oi H; exact AWP_ret ⟨_, rfl, 4, by simp [encL_nil]⟩
     ·replace H := ifF C4 H
      obtain ⟨j2, hj2, H⟩ := bindE H
      refine AWP_seq (AWP_named fun K2 hK2 => ?_)
      have hJ2 : ∀ a σ, Rc G 74 N0 (fun a σ => ∃ M2 : Nat, N0 ≤ M2 ∧ a = [(1, .fptr [.int .i64 p0.Op, .int .i64 p0.Rd, .int .i64 p0.Rs, .int .i64 p0.Rt, .int .i64 p0.Imm] 0), (5, .int .i64 p0.Op), (38, .bool j2)] ∧ σ = hp E0 [] M2) (a.keep [1, 5, 38]) σ → K2 a σ := by
       rintro a σ ⟨b, τ, hr, M2, fM2_0, rfl, rfl⟩
       refine hK2 _ _ (AWP_keep [1, 5, 38] (AWP_ref hr ?_))
       refine Cd (fun C5 => ?_) fun C5 => ?_
       ·replace H := ifT C5 H
        obtain ⟨r13, hr13, H⟩ := bindE H
        refine Sx tok [] [2] (by intro K k; (repeat first | simp -dsimp -implicitDefEqProofs | refine (c156 hr13).app ?_); exact k) ?_
        obtain rfl := oi H; exact AWP_ret ⟨_, rfl, 4, by simp [encL_nil]⟩
       ·replace H := ifF C5 H
        refine S0 tok [] [1, 5, 43] ?_
        refine Cd (fun C6 => ?_) fun C6 => ?_
        ·replace H := ifT C6 H
         obtain ⟨r14, hr14, H⟩ := bindE H
         obtain ⟨r15, hr15, H⟩ := bindE H
         refine Sd tok tokM [] [] [0, 1, 2, 3, 4, 5, 6, 7, 8] [2] (by
          intro K k
          simp only [pickL, nthO_succ, nthO_zero]
          repeat first | simp -dsimp -implicitDefEqProofs | refine Pc.mk (c154 hr14) ?_ | refine Pc.mk (c154 hr15) ?_
          exact k) ?_
         obtain rfl := oi H; exact AWP_ret ⟨_, rfl, 4, by simp [encL_nil]⟩
        ·replace H := ifF C6 H
         refine S0 tok [] [1, 5, 53] ?_
         refine Cd (fun C7 => ?_) fun C7 => ?_
         ·replace H := ifT C7 H
          obtain ⟨r16, hr16, H⟩ := bindE H
          refine Sx tok [] [2] (by intro K k; (repeat first | simp -dsimp -implicitDefEqProofs | refine (c157 hr16).app ?_); exact k) ?_
          obtain rfl := oi H; exact AWP_ret ⟨_, rfl, 4, by simp [encL_nil]⟩
         ·replace H := ifF C7 H
          refine S0 tok [] [1, 57] ?_
          refine Cd (fun C8 => ?_) fun C8 => ?_
          ·replace H := ifT C8 H
           refine S0 tok [] [2] ?_
           obtain rfl := oi H; exact AWP_ret ⟨_, rfl, 4, by simp [encL_nil]⟩
          ·replace H := ifF C8 H
           refine AWP_skip (Jn hK1 ?_)
           obtain ⟨r17, hr17, H⟩ := bindE H
           obtain ⟨r18, hr18, H⟩ := bindE H
           obtain ⟨r19, hr19, H⟩ := bindE H
           obtain ⟨r20, hr20, H⟩ := bindE H
           obtain ⟨r21, hr21, H⟩ := bindE H
           refine Sd tok tokM [] [] [0, 1, 2, 3, 4, 5, 6, 7, 8, 9, 10, 11, 12, 13, 14, 15] [2] (by
            intro K k
            simp only [pickL, nthO_succ, nthO_zero]
            repeat first | simp -dsimp -implicitDefEqProofs | refine Pc.mk (c151 hr17) ?_ | refine Pc.mk (c154 hr18) ?_ | refine Pc.mk (c154 hr19) ?_ | refine Pc.mk (c155 hr20) ?_ | refine Pc.mk (c154 hr21) ?_
            exact k) ?_
           obtain rfl := oi H; exact AWP_ret ⟨_, rfl, 4, by simp [encL_nil]⟩
      replace H := hj2
      refine S0 tok [] [1, 5, 38] ?_
      refine Cd (fun C9 => ?_) fun C9 => ?_
      ·replace H := ifT C9 H
       refine AWP_skip ?_
       show K2 _ _
       refine kE [1, 5, 38] fun a' ha => ?_
       obtain rfl := oi H
       refine hJ2 _ _ ?_; rw [ha]
       exact Rf ⟨M1 + 8, (by omega), rfl, rfl⟩
      ·replace H := ifF C9 H
       refine Rt0 tok [] [1, 5, 38] fun a ha => ?_
       obtain rfl := oi H
       refine hJ2 _ _ ?_; rw [ha]
       exact Rf ⟨M1 + 10, (by omega), rfl, rfl⟩
 replace H := hj1
 refine S0 tok [] [1, 5, 6] ?_
 refine Cd (fun C10 => ?_) fun C10 => ?_
 ·replace H := ifT C10 H
  refine AWP_skip ?_
  show K3 _ _
  refine kE [1, 5, 6] fun a' ha => ?_
  obtain rfl := oi H
  refine hJ1 _ _ ?_; rw [ha]
  exact Rf ⟨N0 + 6, (by omega), rfl, rfl⟩
 ·replace H := ifF C10 H
  refine Rt0 tok [] [1, 5, 6] fun a ha => ?_
  obtain rfl := oi H
  refine hJ1 _ _ ?_; rw [ha]
  exact Rf ⟨N0 + 8, (by omega), rfl, rfl⟩
theorem c103 {p0 : Int} {r : gInstr × Bool} (H : s_InstrDecode p0 = some r) : APure Tryz.prog G 103 [.int .i64 p0] (.tup [.agg [.int .i64 r.1.Op, .int .i64 r.1.Rd, .int .i64 r.1.Rs, .int .i64 r.1.Rt, .int .i64 r.1.Imm], .bool r.2]) := by
 refine APure_fn (fun N0 => ?_) (by simp)
 refine fnK tok Tryz.func103 Tryz.ntmps103 Tryz.results103 ?_
 simp only [argsA, Nat.reduceAdd, hp_next]
 unfold s_InstrDecode at H
 refine S0 tok [] [0, 2] ?_
 refine AWP_sq [0, 2] fun K1 hK1 => ?_
 obtain ⟨r1, hr1, H⟩ := bindE H
 obtain ⟨g3, hg3, H⟩ := bindE H
 refine Sx tok [] [0, 2, 12] (X := [(0, .int .i64 p0), (2, .ptr N0 0 0), (12, .bool g3)]) (Y := hp E0 [(N0, some ⟨103, 5, [[.int .i64 0, .int .i64 0, .int .i64 0, .int .i64 0, .int .i64 0]]⟩)] (N0 + 10)) (by
  intro K k
  simp -dsimp -implicitDefEqProofs
  refine (c21 hr1).app ?_; try simp -dsimp -implicitDefEqProofs
  cases hbg3 : bnot r1
  ·replace hg3 := ifF hbg3 hg3
   obtain ⟨r2, hr2, hg3⟩ := bindE hg3
   replace hg3 := Option.some.inj hg3; subst hg3
   try simp -dsimp -implicitDefEqProofs [hbg3]
   refine (c130 hr2).app ?_; try simp -dsimp -implicitDefEqProofs [hbg3]
   exact k
  ·replace hg3 := ifT hbg3 hg3
   replace hg3 := Option.some.inj hg3; subst hg3
   try simp -dsimp -implicitDefEqProofs [hbg3]
   exact k) ?_
 refine Cd (fun C1 => ?_) fun C1 => ?_
 ·replace H := ifT C1 H
  refine S0 tok [] [2, 3] ?_
  obtain rfl := oi H
  refine Kp [2, 3] ?_
  refine AWP_ret ?_
  exact ⟨[.agg [.int .i64 0, .int .i64 0, .int .i64 0, .int .i64 0, .int .i64 0], .bool false], by simp, 4, by simp [encL_nil]⟩
 ·replace H := ifF C1 H
  refine AWP_skip (Jn hK1 ?_)
  obtain ⟨r4, hr4, H⟩ := bindE H
  obtain ⟨r5, hr5, H⟩ := bindE H
  refine Sx tok [] [0, 2, 4] (by intro K k; (repeat first | simp -dsimp -implicitDefEqProofs | refine (c130 hr4).app ?_ | refine (c131 hr5).app ?_); exact k) ?_
  refine AWP_sq [2, 4] fun K2 hK2 => ?_
  obtain ⟨r6, hr6, H⟩ := bindE H
  refine Sx tok [] [2, 4, 21] (by intro K k; (repeat first | simp -dsimp -implicitDefEqProofs | refine (c132 hr6).app ?_); exact k) ?_
  refine Cd (fun C2 => ?_) fun C2 => ?_
  ·replace H := ifT C2 H
   refine S0 tok [] [2, 3] ?_
   obtain rfl := oi H
   refine Kp [2, 3] ?_
   refine AWP_ret ?_
   exact ⟨[.agg [.int .i64 0, .int .i64 0, .int .i64 0, .int .i64 0, .int .i64 0], .bool false], by simp, 4, by simp [encL_nil]⟩
  ·replace H := ifF C2 H
   refine AWP_skip (Jn hK2 ?_)
   refine S0 tok [] [2, 3] ?_
   obtain rfl := oi H
   refine Kp [2, 3] ?_
   refine AWP_ret ?_
   exact ⟨[.agg [.int .i64 r5.Op, .int .i64 r5.Rd, .int .i64 r5.Rs, .int .i64 r5.Rt, .int .i64 r5.Imm], .bool true], by simp, 4, by simp [encL_nil]⟩
theorem c136 {p0 : Int} {r : Int} (H : s_Wrap p0 = some r) : APure Tryz.prog G 136 [.int .i64 p0] (.int .i64 r) := by
 refine APure_fn (fun N0 => ?_) (by simp)
 refine fnK tok Tryz.func136 Tryz.ntmps136 Tryz.results136 ?_
 simp only [argsA, Nat.reduceAdd, hp_next]
 unfold s_Wrap at H
 refine S0 tok [] [0] ?_
 obtain ⟨v1, hv1, H⟩ := bindE H
 refine Sx tok [] [3] (by intro K k; simp -dsimp -implicitDefEqProofs [hv1]; exact k) ?_
 refine AWP_sq [3] fun K1 hK1 => ?_
 refine S0 tok [] [3, 7] ?_
 refine Cd (fun C1 => ?_) fun C1 => ?_
 ·replace H := ifT C1 H
  refine S0 tok [] [2] ?_
  obtain rfl := oi H; exact AWP_ret ⟨_, rfl, 4, by simp [encL_nil]⟩
 ·replace H := ifF C1 H
  refine AWP_skip (Jn hK1 ?_)
  refine AWP_sq [3] fun K2 hK2 => ?_
  refine S0 tok [] [3, 11] ?_
  refine Cd (fun C2 => ?_) fun C2 => ?_
  ·replace H := ifT C2 H
   refine S0 tok [] [2] ?_
   obtain rfl := oi H; exact AWP_ret ⟨_, rfl, 4, by simp [encL_nil]⟩
  ·replace H := ifF C2 H
   refine AWP_skip (Jn hK2 ?_)
   refine S0 tok [] [2] ?_
   obtain rfl := oi H; exact AWP_ret ⟨_, rfl, 4, by simp [encL_nil]⟩
theorem c135_moo {p0 : gMachine} {p1 : Int} {p2 : Int} {r : gMachine} (H : s_l44Set_moo p0 p1 p2 = some r) {σ : AHeap} {w0 : Nat} {W0 : List (List AV)} {r0_ : Nat} (q0 : σ.objs w0 = some ⟨63, 3, W0⟩) (g0 : W0[r0_]? = some [.osl 3 1 (encL rI p0.Regs), .int .i64 p0.Pc, .osl 3 1 (encL rI p0.Mem)]) : ACalls Tryz.prog G 135 [.ptr w0 r0_ 0, .int .i64 p1, .int .i64 p2] σ (fun v σ' => ∃ M : Nat, σ.next ≤ M ∧ v = .tup [] ∧ σ' = hp σ.objs [(w0, some ⟨63, 3, W0.set r0_ [.osl 3 1 (encL rI r.Regs), .int .i64 r.Pc, .osl 3 1 (encL rI r.Mem)]⟩)] M) := by
 refine ACalls_fr (L := [(w0, some ⟨63, 3, W0⟩)]) (Q1 := fun v σ' => ∃ M : Nat, σ.next ≤ M ∧ v = .tup [] ∧ σ' = hp E0 [(w0, some ⟨63, 3, W0.set r0_ [.osl 3 1 (encL rI r.Regs), .int .i64 r.Pc, .osl 3 1 (encL rI r.Mem)]⟩)] M) (by simp [q0]) (fun hlt => ?_) ?_ ⟨_, Tryz.func135, rfl, rfl⟩
 rotate_left
 ·rintro v σ1 ⟨M, h0, rfl, rfl⟩
  exact ⟨_, M, rfl, by simp, by simp; try omega, M, h0, rfl, rfl⟩
 generalize σ.next = N0 at hlt ⊢
 have lw0 : w0 < N0 := hlt _ (.head _) rfl
 have gs_W0 : ∀ x, (W0.set r0_ x)[r0_]? = some x := gsetW g0
 rw [← set_same g0]
 refine fnK tok Tryz.func135 Tryz.ntmps135 Tryz.results135 ?_
 simp only [argsA, Nat.reduceAdd, hp_next]
 unfold s_l44Set_moo at H
 refine AWP_end [] fun KE hKE => ?_
 refine Sx tok [] [0, 1, 2, 7] (by intro K k; simp -dsimp -implicitDefEqProofs [gs_W0, List.set_set]; exact k) ?_
 refine Cd (fun C1 => ?_) fun C1 => ?_
 ·replace H := ifT C1 H
  refine gU AWP_ref w0 r0_ 0 ?_ (hr := by exact gs_W0 _)
  obtain ⟨v1, hv1, H⟩ := bindE H
  obtain ⟨l2, hl2, H⟩ := bindE H
  refine Rt tok [] [] (by
   intro K k
   have e0 := nQ w0 (N0 + 2)
   simp -dsimp -implicitDefEqProofs [e0, gs_W0, List.set_set, ixo24 hv1, (idx_lt3 hv1).2.2, (setx_iff.1 hl2).2.symm]
   exact k) fun a ha => ?_
  (try rw [← setx_len hl2] at ha); (try rw [← setx_len hl2])
  obtain rfl := oi H
  refine hKE _ _ ?_; rw [ha]
  refine Rc.kp [] [] rfl ?_
  refine gP Rc_ref w0 r0_ 0 ?_ (hr := by exact gs_W0 _)
  refine Rc.mk ?_
  refine ⟨[], by simp [gs_W0], N0 + 11, by omega, ?_, ?_⟩
  ·simp [encL_nil]
  ·first | rfl | simp [List.set_set]
 ·replace H := ifF C1 H
  refine AWP_skip ?_
  show KE _ _
  refine kE [] fun a' ha => ?_
  obtain rfl := oi H
  refine hKE _ _ ?_; rw [ha]
  refine Rc.kp [] [] rfl ?_
  refine Rc.mk ?_
  refine ⟨[], by simp [gs_W0], N0 + 2, by omega, ?_, ?_⟩
  ·simp [encL_nil]
  ·first | rfl | simp [List.set_set]
theorem c135_c0_2_moo {p0 : gMachine} {p1 : Int} {p2 : Int} {r : gMachine} (H : s_l44Set_c0_2_moo p0 p1 p2 = some r) {σ : AHeap} {w0 : Nat} {W0 : List (List AV)} {r0_ : Nat} {w0c2 : Nat} (q0 : σ.objs w0 = some ⟨63, 3, W0⟩) (g0 : W0[r0_]? = some [.osl 3 1 (encL rI p0.Regs), .int .i64 p0.Pc, .sl w0c2 0 p0.Mem.length]) (q0c2 : σ.objs w0c2 = some ⟨3, 1, encL rI p0.Mem⟩) (d0_1 : ¬ w0 = w0c2) : ACalls Tryz.prog G 135 [.ptr w0 r0_ 0, .int .i64 p1, .int .i64 p2] σ (fun v σ' => ∃ M : Nat, σ.next ≤ M ∧ v = .tup [] ∧ σ' = hp σ.objs [(w0, some ⟨63, 3, W0.set r0_ [.osl 3 1 (encL rI r.Regs), .int .i64 r.Pc, .osl 3 1 (encL rI r.Mem)]⟩), (w0c2, none)] M) := by
 refine ACalls_fr (L := [(w0, some ⟨63, 3, W0⟩), (w0c2, some ⟨3, 1, encL rI p0.Mem⟩)]) (Q1 := fun v σ' => ∃ M : Nat, σ.next ≤ M ∧ v = .tup [] ∧ σ' = hp E0 [(w0, some ⟨63, 3, W0.set r0_ [.osl 3 1 (encL rI r.Regs), .int .i64 r.Pc, .osl 3 1 (encL rI r.Mem)]⟩), (w0c2, none)] M) (by simp [q0, q0c2]) (fun hlt => ?_) ?_ ⟨_, Tryz.func135, rfl, rfl⟩
 rotate_left
 ·rintro v σ1 ⟨M, h0, rfl, rfl⟩
  exact ⟨_, M, rfl, by simp, by simp; try omega, M, h0, rfl, rfl⟩
 generalize σ.next = N0 at hlt ⊢
 have lw0 : w0 < N0 := hlt _ (.head _) rfl
 have lw0c2 : w0c2 < N0 := hlt _ (.tail _ (.head _)) rfl
 have gs_W0 : ∀ x, (W0.set r0_ x)[r0_]? = some x := gsetW g0
 rw [← set_same g0]
 refine fnK tok Tryz.func135 Tryz.ntmps135 Tryz.results135 ?_
 simp only [argsA, Nat.reduceAdd, hp_next]
 unfold s_l44Set_c0_2_moo at H
 refine AWP_end [] fun KE hKE => ?_
 refine Sx tok [] [0, 1, 2, 7] (by
  intro K k
  have e0 := nQ w0 w0c2
  simp -dsimp -implicitDefEqProofs [e0, gs_W0, List.set_set]
  exact k) ?_
 refine Cd (fun C1 => ?_) fun C1 => ?_
 ·replace H := ifT C1 H
  refine gU AWP_ref w0 r0_ 0 ?_ (hr := by exact gs_W0 _)
  obtain ⟨v1, hv1, H⟩ := bindE H
  obtain ⟨l2, hl2, H⟩ := bindE H
  refine Rt tok [] [] (by
   intro K k
   have e0 := nQ w0 w0c2
   have e1 := nQ w0 (N0 + 2)
   have e2 := nQ w0c2 (N0 + 2)
   simp -dsimp -implicitDefEqProofs [e0, e1, e2, gs_W0, List.set_set, ixo24 hv1, (idx_lt3 hv1).2.2, (setx_iff.1 hl2).2.symm]
   exact k) fun a ha => ?_
  (try rw [← setx_len hl2] at ha); (try rw [← setx_len hl2])
  obtain rfl := oi H
  refine hKE _ _ ?_; rw [ha]
  refine Rc.kp [] [] rfl ?_
  refine gP Rc_ref w0 r0_ 0 ?_ (hr := by exact gs_W0 _)
  refine gP Rc_ref w0 r0_ 2 ?_ (hr := by exact gs_W0 _)
  refine Rc.mk ?_
  refine ⟨[], by simp [gs_W0], N0 + 11, by omega, ?_, ?_⟩
  ·simp [encL_nil]
  ·symm; first | exact hp_tail (L := [(w0, some ⟨63, 3, W0.set r0_ [.osl 3 1 (encL rI l2), .int .i64 p0.Pc, .osl 3 1 (encL rI p0.Mem)]⟩)]) | (simp only [List.set_set]; exact hp_tail (L := [(w0, some ⟨63, 3, W0.set r0_ [.osl 3 1 (encL rI l2), .int .i64 p0.Pc, .osl 3 1 (encL rI p0.Mem)]⟩)]))
 ·replace H := ifF C1 H
  refine AWP_skip ?_
  show KE _ _
  refine kE [] fun a' ha => ?_
  obtain rfl := oi H
  refine hKE _ _ ?_; rw [ha]
  refine Rc.kp [] [] rfl ?_
  refine gP Rc_ref w0 r0_ 2 ?_ (hr := by exact gs_W0 _)
  refine Rc.mk ?_
  refine ⟨[], by simp [gs_W0], N0 + 2, by omega, ?_, ?_⟩
  ·simp [encL_nil]
  ·symm; first | exact hp_tail (L := [(w0, some ⟨63, 3, W0.set r0_ [.osl 3 1 (encL rI p0.Regs), .int .i64 p0.Pc, .osl 3 1 (encL rI p0.Mem)]⟩)]) | (simp only [List.set_set]; exact hp_tail (L := [(w0, some ⟨63, 3, W0.set r0_ [.osl 3 1 (encL rI p0.Regs), .int .i64 p0.Pc, .osl 3 1 (encL rI p0.Mem)]⟩)]))
theorem c133 {p0 : gMachine} {p1 : gInstr} {r : Bool × gMachine} (H : s_l44Load p0 p1 = some r) {σ : AHeap} {w0 : Nat} {W0 : List (List AV)} {r0_ : Nat} (q0 : σ.objs w0 = some ⟨63, 3, W0⟩) (g0 : W0[r0_]? = some [.osl 3 1 (encL rI p0.Regs), .int .i64 p0.Pc, .osl 3 1 (encL rI p0.Mem)]) : ACalls Tryz.prog G 133 [.ptr w0 r0_ 0, .agg [.int .i64 p1.Op, .int .i64 p1.Rd, .int .i64 p1.Rs, .int .i64 p1.Rt, .int .i64 p1.Imm]] σ (fun v σ' => ∃ M : Nat, σ.next ≤ M ∧ v = .bool r.1 ∧ σ' = hp σ.objs [(w0, some ⟨63, 3, W0.set r0_ [.osl 3 1 (encL rI r.2.Regs), .int .i64 r.2.Pc, .osl 3 1 (encL rI r.2.Mem)]⟩)] M) := by
 refine ACalls_fr (L := [(w0, some ⟨63, 3, W0⟩)]) (Q1 := fun v σ' => ∃ M : Nat, σ.next ≤ M ∧ v = .bool r.1 ∧ σ' = hp E0 [(w0, some ⟨63, 3, W0.set r0_ [.osl 3 1 (encL rI r.2.Regs), .int .i64 r.2.Pc, .osl 3 1 (encL rI r.2.Mem)]⟩)] M) (by simp [q0]) (fun hlt => ?_) ?_ ⟨_, Tryz.func133, rfl, rfl⟩
 rotate_left
 ·rintro v σ1 ⟨M, h0, rfl, rfl⟩
  exact ⟨_, M, rfl, by simp, by simp; try omega, M, h0, rfl, rfl⟩
 generalize σ.next = N0 at hlt ⊢
 have lw0 : w0 < N0 := hlt _ (.head _) rfl
 have gs_W0 : ∀ x, (W0.set r0_ x)[r0_]? = some x := gsetW g0
 rw [← set_same g0]
 refine fnK tok Tryz.func133 Tryz.ntmps133 Tryz.results133 ?_
 simp only [argsA, Nat.reduceAdd, hp_next]
 unfold s_l44Load at H
 refine Sx tok [0] [0, 3] (by intro K k; simp -dsimp -implicitDefEqProofs [gs_W0, List.set_set]; exact k) ?_
 refine gU AWP_ref w0 r0_ 0 ?_ (hr := by exact gs_W0 _)
 obtain ⟨v1, hv1, H⟩ := bindE H
 obtain ⟨r2, hr2, H⟩ := bindE H
 refine Sd tok tokM [] [3, 6, 7] [0, 1, 2, 4, 5, 8, 9, 3, 6, 7, 10, 11, 12] [0, 3, 5] (by
  intro K k
  have e0 := nQ w0 (N0 + 2)
  simp only [pickL, nthO_succ, nthO_zero]
  repeat first | simp -dsimp -implicitDefEqProofs [e0, gs_W0, List.set_set, ixo24 hv1, (idx_lt3 hv1).2.2] | refine Pc.mk (c136 hr2) ?_
  exact k) ?_
 refine AWP_sq [0, 3, 5] fun K1 hK1 => ?_
 refine gP AWP_ref w0 r0_ 0 ?_ (hr := by exact gs_W0 _)
 refine gU AWP_ref w0 r0_ 2 ?_ (hr := by exact gs_W0 _)
 obtain ⟨r3, hr3, H⟩ := bindE H
 refine AWP_sr tok [] [0, 3, 5, 24] (fun a σ => a = [(0, .ptr w0 r0_ 0), (3, .fptr [.int .i64 p1.Op, .int .i64 p1.Rd, .int .i64 p1.Rs, .int .i64 p1.Rt, .int .i64 p1.Imm] 0), (5, .int .i64 r2), (24, .bool (bnot r3))] ∧ σ = hp E0 [(w0, some ⟨63, 3, W0.set r0_ [.osl 3 1 (encL rI p0.Regs), .int .i64 p0.Pc, .sl (N0 + 16) 0 p0.Mem.length]⟩), (N0 + 16, some ⟨3, 1, encL rI p0.Mem⟩)] (N0 + 24)) (fun K hK => ?_) ?_
 ·skip
  have e0 := nQ w0 (N0 + 16)
  simp -dsimp -implicitDefEqProofs [e0, gs_W0, List.set_set]
  refine (borrow 8 (c102 hr3) (by simp [e0, gs_W0, List.set_set]) rfl).mono ?_; rintro _ _ ⟨rfl, rfl⟩; try simp -dsimp -implicitDefEqProofs [e0, gs_W0, List.set_set]
  exact hK _ _ ⟨rfl, rfl⟩
 rintro a σ ⟨rfl, rfl⟩
 refine Cd (fun C1 => ?_) fun C1 => ?_
 ·replace H := ifT C1 H
  refine Sx tok [] [4] (by
   intro K k
   have e0 := nQ w0 (N0 + 16)
   simp -dsimp -implicitDefEqProofs [e0, gs_W0, List.set_set]
   exact k) ?_
  obtain rfl := oi H
  refine Kp [4] ?_
  refine gP AWP_ref w0 r0_ 2 ?_ (hr := by exact gs_W0 _)
  refine AWP_ret ?_
  refine ⟨[.bool false], by simp [gs_W0], N0 + 25, by omega, ?_, ?_⟩
  ·simp [encL_nil]
  ·first | rfl | simp [List.set_set]
 ·replace H := ifF C1 H
  refine AWP_skip (Jn hK1 ?_)
  obtain ⟨j1, hj1, H⟩ := bindE H
  refine AWP_seq (AWP_named fun K2 hK2 => ?_)
  have hJ1 : ∀ a σ, Rc G 63 N0 (fun a σ => ∃ M1 : Nat, N0 ≤ M1 ∧ a = [(0, .ptr w0 r0_ 0)] ∧ σ = hp E0 [(w0, some ⟨63, 3, W0.set r0_ [.osl 3 1 (encL rI j1.Regs), .int .i64 j1.Pc, .osl 3 1 (encL rI j1.Mem)]⟩)] M1) (a.keep [0]) σ → K2 a σ := by
   rintro a σ ⟨b, τ, hr, M1, fM1_0, rfl, rfl⟩
   refine hK2 _ _ (AWP_keep [0] (AWP_ref hr ?_))
   refine Sx tok [] [] (by intro K k; simp -dsimp -implicitDefEqProofs [gs_W0, List.set_set]; exact k) ?_
   refine Sx tok [] [4] (by intro K k; simp -dsimp -implicitDefEqProofs [gs_W0, List.set_set]; exact k) ?_
   obtain rfl := oi H
   refine Kp [4] ?_
   refine AWP_ret ?_
   refine ⟨[.bool true], by simp [gs_W0], M1 + 10, by omega, ?_, ?_⟩
   ·simp [encL_nil]
   ·first | rfl | simp [List.set_set]
  replace H := hj1
  refine Sx tok [] [0, 3, 5, 27] (by
   intro K k
   have e0 := nQ w0 (N0 + 16)
   simp -dsimp -implicitDefEqProofs [e0, gs_W0, List.set_set]
   exact k) ?_
  refine Cd (fun C2 => ?_) fun C2 => ?_
  ·replace H := ifT C2 H
   refine gP AWP_ref w0 r0_ 2 ?_ (hr := by exact gs_W0 _)
   refine gU AWP_ref w0 r0_ 2 ?_ (hr := by exact gs_W0 _)
   obtain ⟨v5, hv5, H⟩ := bindE H
   obtain ⟨v6, hv6, H⟩ := bindE H
   obtain ⟨r7, hr7, H⟩ := bindE H
   refine AWP_rd tok tokM [] [6, 9, 10, 11] [0, 1, 2, 3, 4, 5, 7, 8, 6, 9, 10, 11] [0] (fun a σ => ∃ M2 : Nat, N0 + 40 ≤ M2 ∧ a = [(0, .ptr w0 r0_ 0)] ∧ σ = hp E0 [(w0, some ⟨63, 3, W0.set r0_ [.osl 3 1 (encL rI r7.Regs), .int .i64 r7.Pc, .osl 3 1 (encL rI r7.Mem)]⟩)] M2) (by decide) (fun K hK => ?_) ?_
   ·simp only [pickL, nthO_succ, nthO_zero]
    have e0 := nQ w0 (N0 + 27)
    simp -dsimp -implicitDefEqProofs [e0, gs_W0, List.set_set, hv5, ixo24 hv6, (idx_lt3 hv6).2.2]
    refine (c135_c0_2_moo (w0c2 := N0 + 27) (W0 := W0.set r0_ [.osl 3 1 (encL rI p0.Regs), .int .i64 p0.Pc, .sl (N0 + 27) 0 p0.Mem.length]) (r0_ := r0_) (H := hr7) (by simp [e0, gs_W0, List.set_set, hv5, ixo24 hv6, (idx_lt3 hv6).2.2]) (by simp [e0, gs_W0, List.set_set, hv5, ixo24 hv6, (idx_lt3 hv6).2.2]) (by simp [e0, gs_W0, List.set_set, hv5, ixo24 hv6, (idx_lt3 hv6).2.2]) (by simp [e0, gs_W0, List.set_set, hv5, ixo24 hv6, (idx_lt3 hv6).2.2])).mono ?_; rintro _ _ ⟨M2, fM2_0, rfl, rfl⟩; simp only [hp_next] at fM2_0
    try simp -dsimp -implicitDefEqProofs [e0, gs_W0, List.set_set, hv5, ixo24 hv6, (idx_lt3 hv6).2.2, hp_over_some, hp_over_none]
    exact hK _ _ ⟨M2, (by omega), rfl, rfl⟩
   rintro a σ ⟨M2, fM2_0, ha, rfl⟩
   obtain rfl := oi H
   refine hJ1 _ _ ?_; rw [ha]
   exact Rf ⟨M2, (by omega), rfl, rfl⟩
  ·replace H := ifF C2 H
   refine gU AWP_ref w0 r0_ 0 ?_ (hr := by exact gs_W0 _)
   obtain ⟨v9, hv9, H⟩ := bindE H
   obtain ⟨v10, hv10, H⟩ := bindE H
   obtain ⟨v11, hv11, H⟩ := bindE H
   obtain ⟨l12, hl12, H⟩ := bindE H
   refine AWP_rd tok tokM [] [3, 9, 12, 13, 14, 15] [0, 1, 2, 4, 5, 6, 7, 8, 10, 11, 3, 9, 12, 13, 14, 15] [0] (fun a σ => a = [(0, .ptr w0 r0_ 0)] ∧ σ = hp E0 [(w0, some ⟨63, 3, W0.set r0_ [.sl (N0 + 27) 0 p0.Regs.length, .int .i64 p0.Pc, .sl (N0 + 16) 0 p0.Mem.length]⟩), (N0 + 16, some ⟨3, 1, encL rI l12⟩), (N0 + 27, some ⟨3, 1, encL rI p0.Regs⟩)] (N0 + 44)) (by decide) (fun K hK => ?_) ?_
   ·simp only [pickL, nthO_succ, nthO_zero]
    have e0 := nQ w0 (N0 + 16)
    have e1 := nQ w0 (N0 + 27)
    simp -dsimp -implicitDefEqProofs [e0, e1, gs_W0, List.set_set, hv9, ixo24 hv10, (idx_lt3 hv10).2.2, ixo24 hv11, (idx_lt3 hv11).2.2, (setx_iff.1 hl12).2.symm]
    exact hK _ _ ⟨rfl, rfl⟩
   rintro a σ ⟨ha, rfl⟩
   (try rw [← setx_len hl12] at ha); (try rw [← setx_len hl12])
   obtain rfl := oi H
   refine hJ1 _ _ ?_; rw [ha]
   refine gP Rc_ref w0 r0_ 0 ?_ (hr := by exact gs_W0 _)
   refine gP Rc_ref w0 r0_ 2 ?_ (hr := by exact gs_W0 _)
   exact Rf ⟨N0 + 44, (by omega), rfl, rfl⟩
theorem c134_moo {p0 : gMachine} {p1 : gInstr} {r : gMachine} (H : s_l44Jump_moo p0 p1 = some r) {σ : AHeap} {w0 : Nat} {W0 : List (List AV)} {r0_ : Nat} (q0 : σ.objs w0 = some ⟨63, 3, W0⟩) (g0 : W0[r0_]? = some [.osl 3 1 (encL rI p0.Regs), .int .i64 p0.Pc, .osl 3 1 (encL rI p0.Mem)]) : ACalls Tryz.prog G 134 [.ptr w0 r0_ 0, .agg [.int .i64 p1.Op, .int .i64 p1.Rd, .int .i64 p1.Rs, .int .i64 p1.Rt, .int .i64 p1.Imm]] σ (fun v σ' => ∃ M : Nat, σ.next ≤ M ∧ v = .tup [] ∧ σ' = hp σ.objs [(w0, some ⟨63, 3, W0.set r0_ [.osl 3 1 (encL rI r.Regs), .int .i64 r.Pc, .osl 3 1 (encL rI r.Mem)]⟩)] M) := by
 refine ACalls_fr (L := [(w0, some ⟨63, 3, W0⟩)]) (Q1 := fun v σ' => ∃ M : Nat, σ.next ≤ M ∧ v = .tup [] ∧ σ' = hp E0 [(w0, some ⟨63, 3, W0.set r0_ [.osl 3 1 (encL rI r.Regs), .int .i64 r.Pc, .osl 3 1 (encL rI r.Mem)]⟩)] M) (by simp [q0]) (fun hlt => ?_) ?_ ⟨_, Tryz.func134, rfl, rfl⟩
 rotate_left
 ·rintro v σ1 ⟨M, h0, rfl, rfl⟩
  exact ⟨_, M, rfl, by simp, by simp; try omega, M, h0, rfl, rfl⟩
 generalize σ.next = N0 at hlt ⊢
 have lw0 : w0 < N0 := hlt _ (.head _) rfl
 have gs_W0 : ∀ x, (W0.set r0_ x)[r0_]? = some x := gsetW g0
 rw [← set_same g0]
 refine fnK tok Tryz.func134 Tryz.ntmps134 Tryz.results134 ?_
 simp only [argsA, Nat.reduceAdd, hp_next]
 unfold s_l44Jump_moo at H
 refine AWP_end [] fun KE hKE => ?_
 refine Sx tok [0] [0, 3] (by intro K k; simp -dsimp -implicitDefEqProofs [gs_W0, List.set_set]; exact k) ?_
 obtain ⟨r1, hr1, H⟩ := bindE H
 refine Sx tok [] [0, 3, 4] (by intro K k; (repeat first | simp -dsimp -implicitDefEqProofs [gs_W0, List.set_set] | refine (c136 hr1).app ?_); exact k) ?_
 refine gU AWP_ref w0 r0_ 0 ?_ (hr := by exact gs_W0 _)
 obtain ⟨v2, hv2, H⟩ := bindE H
 obtain ⟨v3, hv3, H⟩ := bindE H
 refine Sd tok tokM [] [3, 6, 7, 11, 14, 15] [0, 1, 2, 4, 5, 8, 9, 10, 12, 13, 3, 6, 7, 11, 14, 15, 16, 17] [0, 3, 4, 5] (by
  intro K k
  have e0 := nQ w0 (N0 + 8)
  simp only [pickL, nthO_succ, nthO_zero]
  simp -dsimp -implicitDefEqProofs [e0, gs_W0, List.set_set, ixo24 hv2, (idx_lt3 hv2).2.2, ixo24 hv3, (idx_lt3 hv3).2.2]
  exact k) ?_
 refine AWP_block (AWP_thenB ?_)
 refine Sx tok [] [0, 3, 4, 5, 34] (by
  intro K k
  have e0 := nQ w0 (N0 + 8)
  simp -dsimp -implicitDefEqProofs [e0, gs_W0, List.set_set]
  exact k) ?_
 refine Cd (fun C1 => ?_) fun C1 => ?_
 ·replace H := ifT C1 H
  refine gP AWP_ref w0 r0_ 0 ?_ (hr := by exact gs_W0 _)
  refine gU AWP_ref w0 r0_ 0 ?_ (hr := by exact gs_W0 _)
  obtain ⟨r4, hr4, H⟩ := bindE H
  refine Sd tok tokM [] [3, 6, 7] [0, 1, 2, 4, 5, 8, 9, 3, 6, 7, 10, 11, 12] [0, 3, 4, 6] (by
   intro K k
   have e0 := nQ w0 (N0 + 31)
   simp only [pickL, nthO_succ, nthO_zero]
   repeat first | simp -dsimp -implicitDefEqProofs [e0, gs_W0, List.set_set, ixo24 hv2, (idx_lt3 hv2).2.2] | refine Pc.mk (c136 hr4) ?_
   exact k) ?_
  refine gP AWP_ref w0 r0_ 0 ?_ (hr := by exact gs_W0 _)
  obtain ⟨r5, hr5, H⟩ := bindE H
  refine AWP_sr tok [] [0, 6] (fun a σ => ∃ M1 : Nat, N0 + 50 ≤ M1 ∧ a = [(0, .ptr w0 r0_ 0), (6, .int .i64 r4)] ∧ σ = hp E0 [(w0, some ⟨63, 3, W0.set r0_ [.osl 3 1 (encL rI r5.Regs), .int .i64 r5.Pc, .osl 3 1 (encL rI r5.Mem)]⟩)] M1) (fun K hK => ?_) ?_
  ·skip
   simp -dsimp -implicitDefEqProofs [gs_W0, List.set_set]
   refine (c135_moo (W0 := W0.set r0_ [.osl 3 1 (encL rI p0.Regs), .int .i64 p0.Pc, .osl 3 1 (encL rI p0.Mem)]) (r0_ := r0_) (H := hr5) (by simp [gs_W0, List.set_set]) (by simp [gs_W0, List.set_set])).mono ?_; rintro _ _ ⟨M1, fM1_0, rfl, rfl⟩; simp only [hp_next] at fM1_0
   try simp -dsimp -implicitDefEqProofs [gs_W0, List.set_set, hp_over_some, hp_over_none]
   exact hK _ _ ⟨M1, (by omega), rfl, rfl⟩
  rintro a σ ⟨M1, fM1_0, rfl, rfl⟩
  refine Rt tok [] [] (by intro K k; simp -dsimp -implicitDefEqProofs [gs_W0, List.set_set]; exact k) fun a ha => ?_
  obtain rfl := oi H
  refine hKE _ _ ?_; rw [ha]
  refine Rc.kp [] [] rfl ?_
  refine Rc.mk ?_
  refine ⟨[], by simp [gs_W0], M1 + 8, by omega, ?_, ?_⟩
  ·simp [encL_nil]
  ·first | rfl | simp [List.set_set]
 ·replace H := ifF C1 H
  refine Sx tok [] [0, 3, 4, 5, 62] (by
   intro K k
   have e0 := nQ w0 (N0 + 8)
   simp -dsimp -implicitDefEqProofs [e0, gs_W0, List.set_set]
   exact k) ?_
  refine Cd (fun C2 => ?_) fun C2 => ?_
  ·replace H := ifT C2 H
   refine gP AWP_ref w0 r0_ 0 ?_ (hr := by exact gs_W0 _)
   obtain ⟨r6, hr6, H⟩ := bindE H
   refine AWP_sr tok [] [0, 3] (fun a σ => ∃ M2 : Nat, N0 + 40 ≤ M2 ∧ a = [(0, .ptr w0 r0_ 0), (3, .fptr [.int .i64 p1.Op, .int .i64 p1.Rd, .int .i64 p1.Rs, .int .i64 p1.Rt, .int .i64 p1.Imm] 0)] ∧ σ = hp E0 [(w0, some ⟨63, 3, W0.set r0_ [.osl 3 1 (encL rI r6.Regs), .int .i64 r6.Pc, .osl 3 1 (encL rI r6.Mem)]⟩)] M2) (fun K hK => ?_) ?_
   ·skip
    simp -dsimp -implicitDefEqProofs [gs_W0, List.set_set]
    refine (c135_moo (W0 := W0.set r0_ [.osl 3 1 (encL rI p0.Regs), .int .i64 p0.Pc, .osl 3 1 (encL rI p0.Mem)]) (r0_ := r0_) (H := hr6) (by simp [gs_W0, List.set_set]) (by simp [gs_W0, List.set_set])).mono ?_; rintro _ _ ⟨M2, fM2_0, rfl, rfl⟩; simp only [hp_next] at fM2_0
    try simp -dsimp -implicitDefEqProofs [gs_W0, List.set_set, hp_over_some, hp_over_none]
    exact hK _ _ ⟨M2, (by omega), rfl, rfl⟩
   rintro a σ ⟨M2, fM2_0, rfl, rfl⟩
   obtain ⟨r7, hr7, H⟩ := bindE H
   refine AWP_rd tok tokM [] [4, 11] [0, 1, 2, 3, 5, 6, 4, 7, 8, 9, 10, 11] [] (fun a σ => a = [] ∧ σ = hp E0 [(w0, some ⟨63, 3, W0.set r0_ [.osl 3 1 (encL rI r6.Regs), .int .i64 r7, .osl 3 1 (encL rI r6.Mem)]⟩)] (M2 + 12)) (by decide) (fun K hK => ?_) ?_
   ·simp only [pickL, nthO_succ, nthO_zero]
    simp -dsimp -implicitDefEqProofs [gs_W0, List.set_set]
    refine Pc.mk (c136 hr7) ?_; try simp -dsimp -implicitDefEqProofs [gs_W0, List.set_set]
    exact hK _ _ ⟨rfl, rfl⟩
   rintro a σ ⟨ha, rfl⟩
   obtain rfl := oi H
   refine hKE _ _ ?_; rw [ha]
   refine Rc.kp [] [] rfl ?_
   refine Rc.mk ?_
   refine ⟨[], by simp [gs_W0], M2 + 12, by omega, ?_, ?_⟩
   ·simp [encL_nil]
   ·first | rfl | simp [List.set_set]
  ·replace H := ifF C2 H
   refine Sx tok [] [0, 3, 4, 82] (by
    intro K k
    have e0 := nQ w0 (N0 + 8)
    simp -dsimp -implicitDefEqProofs [e0, gs_W0, List.set_set]
    exact k) ?_
   refine Cd (fun C3 => ?_) fun C3 => ?_
   ·replace H := ifT C3 H
    refine gP AWP_ref w0 r0_ 0 ?_ (hr := by exact gs_W0 _)
    obtain ⟨r8, hr8, H⟩ := bindE H
    refine AWP_rd tok tokM [] [4, 11] [0, 1, 2, 3, 5, 6, 4, 7, 8, 9, 10, 11] [] (fun a σ => a = [] ∧ σ = hp E0 [(w0, some ⟨63, 3, W0.set r0_ [.osl 3 1 (encL rI p0.Regs), .int .i64 r8, .osl 3 1 (encL rI p0.Mem)]⟩)] (N0 + 53)) (by decide) (fun K hK => ?_) ?_
    ·simp only [pickL, nthO_succ, nthO_zero]
     simp -dsimp -implicitDefEqProofs [gs_W0, List.set_set]
     refine Pc.mk (c136 hr8) ?_; try simp -dsimp -implicitDefEqProofs [gs_W0, List.set_set]
     exact hK _ _ ⟨rfl, rfl⟩
    rintro a σ ⟨ha, rfl⟩
    obtain rfl := oi H
    refine hKE _ _ ?_; rw [ha]
    refine Rc.kp [] [] rfl ?_
    refine Rc.mk ?_
    refine ⟨[], by simp [gs_W0], N0 + 53, by omega, ?_, ?_⟩
    ·simp [encL_nil]
    ·first | rfl | simp [List.set_set]
   ·replace H := ifF C3 H
    refine Rt tok [] [] (by
     intro K k
     have e0 := nQ w0 (N0 + 8)
     simp -dsimp -implicitDefEqProofs [e0, gs_W0, List.set_set]
     exact k) fun a ha => ?_
    obtain rfl := oi H
    refine hKE _ _ ?_; rw [ha]
    refine Rc.kp [] [] rfl ?_
    refine gP Rc_ref w0 r0_ 0 ?_ (hr := by exact gs_W0 _)
    refine Rc.mk ?_
    refine ⟨[], by simp [gs_W0], N0 + 46, by omega, ?_, ?_⟩
    ·simp [encL_nil]
    ·first | rfl | simp [List.set_set]
theorem c137 {p0 : Bool} {r : Int} (H : s_l2Flag p0 = some r) : APure Tryz.prog G 137 [.bool p0] (.int .i64 r) := by
 refine APure_fn (fun N0 => ?_) (by simp)
 refine fnK tok Tryz.func137 Tryz.ntmps137 Tryz.results137 ?_
 simp only [argsA, Nat.reduceAdd, hp_next]
 unfold s_l2Flag at H
 refine S0 tok [] [0] ?_
 refine AWP_sq [] fun K1 hK1 => ?_
 refine S0 tok [] [3] ?_
 refine Cd (fun C1 => ?_) fun C1 => ?_
 ·replace H := ifT C1 H
  refine S0 tok [] [2] ?_
  obtain rfl := oi H; exact AWP_ret ⟨_, rfl, 4, by simp [encL_nil]⟩
 ·replace H := ifF C1 H
  refine AWP_skip (Jn hK1 ?_)
  refine S0 tok [] [2] ?_
  obtain rfl := oi H; exact AWP_ret ⟨_, rfl, 4, by simp [encL_nil]⟩
theorem c117 {p0 : Int} {r : Bool} (H : s_OpValid p0 = some r) : APure Tryz.prog G 117 [.int .i64 p0] (.bool r) := by
 refine APure_fn (fun N0 => ?_) (by simp)
 refine fnK tok Tryz.func117 Tryz.ntmps117 Tryz.results117 ?_
 simp only [argsA, Nat.reduceAdd, hp_next]
 unfold s_OpValid at H
 refine S0 tok [] [0] ?_
 obtain ⟨r1, hr1, H⟩ := bindE H
 refine Sx tok [] [2] (by intro K k; (repeat first | simp -dsimp -implicitDefEqProofs | refine (c21 hr1).app ?_); exact k) ?_
 obtain rfl := oi H; exact AWP_ret ⟨_, rfl, 4, by simp [encL_nil]⟩
theorem c167 {p0 : Int} {p1 : Int} {p2 : Bool} {r : Int} (H : s_l2Shift p0 p1 p2 = some r) : APure Tryz.prog G 167 [.int .i64 p0, .int .i64 p1, .bool p2] (.int .i64 r) := by
 refine APure_fn (fun N0 => ?_) (by simp)
 refine fnK tok Tryz.func167 Tryz.ntmps167 Tryz.results167 ?_
 simp only [argsA, Nat.reduceAdd, hp_next]
 unfold s_l2Shift at H
 refine S0 tok [] [0, 1, 2] ?_
 refine AWP_sq [0, 1] fun K1 hK1 => ?_
 refine S0 tok [] [0, 1, 7] ?_
 refine Cd (fun C1 => ?_) fun C1 => ?_
 ·replace H := ifT C1 H
  obtain ⟨v1, hv1, H⟩ := bindE H
  refine Sx tok [] [6] (by intro K k; simp -dsimp -implicitDefEqProofs [hv1]; exact k) ?_
  obtain rfl := oi H; exact AWP_ret ⟨_, rfl, 4, by simp [encL_nil]⟩
 ·replace H := ifF C1 H
  refine AWP_skip (Jn hK1 ?_)
  obtain ⟨v2, hv2, H⟩ := bindE H
  obtain ⟨r3, hr3, H⟩ := bindE H
  refine Sx tok [] [6] (by intro K k; (repeat first | simp -dsimp -implicitDefEqProofs [hv2] | refine (c136 hr3).app ?_); exact k) ?_
  obtain rfl := oi H; exact AWP_ret ⟨_, rfl, 4, by simp [encL_nil]⟩
end Go.Proofs.YtlcilhmkbmgkeaaGreatDoor
