/- A squad's run: the program's and the reference's are one. -/
import Derived.Test.YtlcilhmkbmgkeaaGreatDoorNStepZ
import Derived.Test.YtlcilhmkbmgkeaaGreatDoorNHartZ2
import Derived.Test.YtlcilhmkbmgkeaaGreatDoorNSqZ
set_option linter.unusedSimpArgs false
set_option linter.unusedVariables false
set_option maxHeartbeats 8000000
set_option maxRecDepth 20000
namespace Go.Abs
open Go

theorem all_set' {α : Type} {f : α → Bool} {l : List α} {k : Nat} {x : α} (h : l.all f = true) (hx : f x = true) : (l.set k x).all f = true := by
 rw [List.all_eq_true] at h ⊢
 intro y hy
 rcases List.mem_or_eq_of_mem_set hy with hy | rfl
 ·exact h y hy
 ·exact hx
theorem boxes_set {l : List gBox} {k : Nat} {b : gBox} (h : isBoxes l = true) (hb : isBox b = true) : isBoxes (l.set k b) = true := by
 simp only [isBoxes, Bool.and_eq_true, decide_eq_true_eq, List.length_set] at h ⊢
 exact ⟨all_set' h.1 hb, h.2⟩
theorem box_at {l : List gBox} (h : isBoxes l = true) {i : Int} {b : gBox} (hb : idx l i = some b) : isBox b = true := by
 obtain ⟨_, _, h3⟩ := idx_lt3 hb
 simp only [isBoxes, Bool.and_eq_true, List.all_eq_true] at h
 exact h.1 b (List.mem_of_getElem? h3)

theorem call_valid {m m' : gMachine} {l l' : List gBox} {c : Int} {p : List Int} (h : CallCase m l c m' l' p) (hM : Ma m) (hB : isBoxes l = true) : Ma m' ∧ isBoxes l' = true ∧ 1 ≤ c ∧ c ≤ 4 := by
 have mk : ∀ v, idx m.Regs 1 = some v → Ma ⟨m.Regs, v, m.Mem⟩ := fun v hv => ⟨hM.rl, hM.rw, hM.r0, all_get hM.rw hv, hM.ml, hM.mw⟩
 cases h with
 | full => exact ⟨hM, hB, by decide, by decide⟩
 | @put v11 v10 v1 b b' h17 h11 h10 h1 hb h hb' =>
  obtain ⟨a, b1, c1⟩ := (isBox_iff b).1 (box_at hB hb)
  refine ⟨mk _ h1, boxes_set hB ?_, by decide, by decide⟩
  rw [hb', isBox_iff]
  exact ⟨a, by simp; omega, by rw [List.all_append, c1]; simp [all_get hM.rw h10]⟩
 | none => exact ⟨hM, hB, by decide, by decide⟩
 | @take v11 v1 v b b' t h17 h11 h1 hb h hb' =>
  obtain ⟨a, b1, c1⟩ := (isBox_iff b).1 (box_at hB hb)
  rw [h] at b1 c1
  simp only [List.length_cons, List.all_cons, Bool.and_eq_true] at b1 c1
  refine ⟨⟨by simp [hM.rl], all_upd hM.rw c1.1, ?_, all_get hM.rw h1, hM.ml, hM.mw⟩, boxes_set hB ?_, by decide, by decide⟩
  ·show (m.Regs.set (Int.toNat 10) v)[0]? = some 0
   rw [List.getElem?_set_ne (by decide)]; exact hM.r0
  ·rw [hb', isBox_iff]
   exact ⟨a, by simp only []; omega, c1.2⟩
 | yield h17 h1 => exact ⟨mk _ h1, hB, by decide, by decide⟩
 | print h17 h10 h1 => exact ⟨mk _ h1, hB, by decide, by decide⟩
 | end' => exact ⟨hM, hB, by decide, by decide⟩

structure Vq (q : gSquad) (n : Nat) : Prop where
 h1 : 1 ≤ q.Harts.length
 h3 : q.Harts.length ≤ 3
 hm : ∀ m ∈ q.Harts, Ma m
 hb : isBoxes q.Boxes = true
 t0 : 0 ≤ q.Turn ∧ q.Turn < q.Harts.length
 d0 : 0 ≤ q.Idle ∧ q.Idle ≤ q.Harts.length
 ol : q.Out.length ≤ n

theorem next_eq (many turn idle code : Int) (h1 : 1 ≤ many ∧ many ≤ 3) (ht : 0 ≤ turn ∧ turn < many) (hi : 0 ≤ idle ∧ idle < many) : ∃ t d ok, i_NextTurn many turn idle code = some (t, d, ok) ∧ s_NextTurn many turn idle code = some (t, d, ok) ∧ (ok = true → (0 ≤ t ∧ t < many) ∧ 0 ≤ d ∧ d ≤ many) ∧ (1 ≤ code ∧ code ≤ 4 → ok = true) ∧ (code = 0 → ok = false) := by
 have e1 : isub .i64 many 1 = many - 1 := isub_eq _ _ (by omega)
 have e2 : iadd .i64 turn 1 = turn + 1 := iadd_eq _ _ (by omega)
 have e3 : iadd .i64 idle 1 = idle + 1 := iadd_eq _ _ (by omega)
 have e4 : remx (turn + 1) many = some ((turn + 1) % many) := remx_eq _ _ (by omega) (by omega)
 have g1 : (ilt many 1 || igt many 3 || ilt turn 0 || ige turn many || ilt idle 0 || ige idle many) = false := by
  rw [Bool.eq_false_iff]; simp [ilt, igt, ige]; omega
 have g2 : (bnot (ige many 1 && ile many 3) || bnot (ige turn 0 && ile turn (many - 1)) || bnot (ige idle 0 && ile idle (many - 1))) = false := by
  rw [Bool.eq_false_iff]; simp [bnot, ile, ige]; omega
 have hm0 := Int.emod_nonneg (turn + 1) (show many ≠ 0 by omega)
 have hm1 := Int.emod_lt_of_pos (turn + 1) (show 0 < many by omega)
 unfold i_NextTurn s_NextTurn
 simp only [in6, bind_some', if_or, e1, e2, e3, e4, g1, g2, Bool.false_eq_true, if_false]
 by_cases c1 : code = 1
 ·subst c1
  exact ⟨turn, 0, true, rfl, rfl, fun _ => ⟨ht, by omega⟩, fun _ => rfl, fun h => absurd h (by decide)⟩
 have n1 : ieq code 1 = false := nieq c1
 by_cases c2 : code = 2
 ·subst c2
  exact ⟨_, 0, true, rfl, rfl, fun _ => ⟨⟨hm0, hm1⟩, by omega⟩, fun _ => rfl, fun h => absurd h (by decide)⟩
 have n2 : ieq code 2 = false := nieq c2
 by_cases c3 : code = 3
 ·subst c3
  exact ⟨_, _, true, rfl, rfl, fun _ => ⟨⟨hm0, hm1⟩, by omega⟩, fun _ => rfl, fun h => absurd h (by decide)⟩
 have n3 : ieq code 3 = false := nieq c3
 by_cases c4 : code = 4
 ·subst c4
  exact ⟨_, _, true, rfl, rfl, fun _ => ⟨⟨hm0, hm1⟩, by omega⟩, fun _ => rfl, fun h => absurd h (by decide)⟩
 have n4 : ieq code 4 = false := nieq c4
 simp only [n1, n2, n3, n4, Bool.false_eq_true, if_false, bind_some']
 exact ⟨0, 0, false, rfl, rfl, fun h => absurd h (by decide), fun h => by omega, fun _ => rfl⟩

def core (q : gSquad) : gSquad := ⟨q.Harts, q.Boxes, 0, 0, q.Out⟩

theorem squad_step (q : gSquad) (n : Nat) (h : Vq q n) (hn : n ≤ 3900000) (hi : q.Idle < q.Harts.length) :
  ∃ c s', i_SquadRun_1 q.Turn (core q) = some (c, s') ∧
   ((∃ t d q2, i_NextTurn (q.Harts.length : Int) q.Turn q.Idle c = some (t, d, true) ∧ s_l45Step q = some (true, q2) ∧ q2.Turn = t ∧ q2.Idle = d ∧ core q2 = s' ∧ Vq q2 (n + 1) ∧ q2.Harts.length = q.Harts.length) ∨
   (∃ t d q2, i_NextTurn (q.Harts.length : Int) q.Turn q.Idle c = some (t, d, false) ∧ s_l45Step q = some (false, q2))) := by
 obtain ⟨a1, a2, a3, a4, a5, a6, a7⟩ := h
 obtain ⟨m, hm, hmem⟩ := idx_ok q.Harts q.Turn a5.1 a5.2
 have hM := a3 m hmem
 have many : (1 : Int) ≤ (q.Harts.length : Int) ∧ (q.Harts.length : Int) ≤ 3 := by omega
 have keep : ∀ m', Ma m' → ∀ x ∈ q.Harts.set q.Turn.toNat m', Ma x := by
  intro m' hm' x hx
  rcases List.mem_or_eq_of_mem_set hx with hx | rfl
  ·exact a3 x hx
  ·exact hm'
 unfold i_SquadRun_1 s_l45Step core
 dsimp only
 rw [hm, bind_some', bind_some']
 by_cases hp : m.Pc = 0
 ·obtain ⟨fits, f1, f2⟩ := call_eq m q.Boxes q.Out (by omega) ((Ma_iff m).2 hM) a4
  rw [if_pos (by rw [ieq_iff]; exact hp), if_pos (by rw [ieq_iff]; exact hp), f1, bind_some']
  rcases f2 with ⟨rfl, x, g1⟩ | ⟨rfl, code, m', l', p, g0, g1, g2, g3⟩
  ·rw [g1, bind_some', setx_ok _ hm, bind_some']
   obtain ⟨t, d, ok, k1, k2, k3, k4, k5⟩ := next_eq q.Harts.length q.Turn q.Idle 0 many a5 ⟨a6.1, hi⟩
   obtain rfl := k5 rfl
   exact ⟨0, _, rfl, .inr ⟨t, d, _, k1, rfl⟩⟩
  ·rw [g1, bind_some', if_neg (by decide), g2, bind_some']
   simp only [setx_ok m' hm, bind_some', appx_ok 8 q.Out p (show q.Out.length + p.length ≤ maxLen ∧ (q.Out.length + p.length) * 8 ≤ 140737488355328 by have := g3.pl; unfold maxLen; omega)]
   obtain ⟨v1, v2, v3, v4⟩ := call_valid g3.how hM a4
   obtain ⟨t, d, ok, k1, k2, k3, k4, k5⟩ := next_eq q.Harts.length q.Turn q.Idle code many a5 ⟨a6.1, hi⟩
   obtain rfl := k4 ⟨v3, v4⟩
   obtain ⟨z1, z2⟩ := k3 rfl
   have e : ilen (q.Harts.set q.Turn.toNat m') = (q.Harts.length : Int) := by unfold ilen; simp
   rw [e, k2]
   refine ⟨code, _, rfl, .inl ⟨t, d, _, k1, rfl, rfl, rfl, rfl, ⟨by simp; omega, by simp; omega, keep m' v1, v2, by simp; omega, by simp; omega, ?_⟩, by simp⟩⟩
   have := g3.pl; simp; omega
 ·obtain ⟨c, m', g1, g2, g3⟩ := step_eq m hM
  rw [if_neg (by rw [ieq_iff]; exact hp), if_neg (by rw [ieq_iff]; exact hp), g1, bind_some', g2, bind_some']
  simp only [setx_ok m' hm, bind_some']
  by_cases hc : c = 1
  ·subst hc
   rw [if_pos (by rfl), if_neg (by decide), bind_some']
   obtain ⟨t, d, ok, k1, k2, k3, k4, k5⟩ := next_eq q.Harts.length q.Turn q.Idle 1 many a5 ⟨a6.1, hi⟩
   obtain rfl := k4 (by decide)
   obtain ⟨z1, z2⟩ := k3 rfl
   have e : ilen (q.Harts.set q.Turn.toNat m') = (q.Harts.length : Int) := by unfold ilen; simp
   dsimp only
   rw [e, k2]
   exact ⟨1, _, rfl, .inl ⟨t, d, _, k1, rfl, rfl, rfl, rfl, ⟨by simp; omega, by simp; omega, keep m' (g3 rfl), a4, by simp; omega, by simp; omega, by simp only []; omega⟩, by simp⟩⟩
  ·rw [if_neg (by rw [ieq_iff]; exact hc), if_pos (by rw [ine_iff]; exact hc)]
   obtain ⟨t, d, ok, k1, k2, k3, k4, k5⟩ := next_eq q.Harts.length q.Turn q.Idle 0 many a5 ⟨a6.1, hi⟩
   obtain rfl := k5 rfl
   exact ⟨0, _, rfl, .inr ⟨t, d, _, k1, rfl⟩⟩

theorem squad_loop (N : Int) (hN : 0 ≤ N ∧ N ≤ 1000000) (M : Nat) (z : gSquad) : ∀ (r : Nat) (j : Int) (q : gSquad) (n : Nat), j + (r : Int) = N → 0 ≤ j → Vq q n → n + r ≤ 3900000 → q.Harts.length = M →
  (∃ qf, loopM (s_SquadRun_L1 N) (j, z, q) = some (.inl (z, qf)) ∧ loopM (i_takeTurns_i_SquadRun_1_c4_0_0_L1 (M : Int)) ((r : Int), q.Turn, q.Idle, core q) = some (.inl (qf.Turn, qf.Idle, core qf)) ∧ Vq qf (n + r)) ∨
  (loopM (s_SquadRun_L1 N) (j, z, q) = some (.inr (⟨[], [], 0, 0, []⟩, false)) ∧ ∃ s', loopM (i_takeTurns_i_SquadRun_1_c4_0_0_L1 (M : Int)) ((r : Int), q.Turn, q.Idle, core q) = some (.inr (0, 0, false, s'))) := by
 intro r
 induction r with
 | zero =>
  intro j q n hj h0 hq hn hM
  left
  refine ⟨q, loopM_done ?_, loopM_done ?_, hq⟩
  ·unfold s_SquadRun_L1
   dsimp only
   rw [if_neg (by rw [ilt_iff]; omega), bind_some', if_neg (by decide)]
  ·unfold i_takeTurns_i_SquadRun_1_c4_0_0_L1
   dsimp only
   rw [if_neg (by rw [igt_iff]; omega), bind_some', if_neg (by decide)]
 | succ r ih =>
  intro j q n hj h0 hq hn hM
  by_cases hi : q.Idle < q.Harts.length
  ·obtain ⟨c, s', k1, k2⟩ := squad_step q n hq (by omega) hi
   have s1 : s_SquadRun_L1 N (j, z, q) = (s_l45Step q).bind fun r11 => if bnot r11.1 = true then some (.done (.inr (⟨[], [], 0, 0, []⟩, false))) else some (.next (iadd .i64 j 1, z, r11.2)) := by
    unfold s_SquadRun_L1
    dsimp only
    rw [if_pos (by rw [ilt_iff]; omega), bind_some', if_pos (by rw [ilt_iff]; unfold ilen; exact hi)]
   have s2 : i_takeTurns_i_SquadRun_1_c4_0_0_L1 (M : Int) (((r + 1 : Nat) : Int), q.Turn, q.Idle, core q) = (i_NextTurn (M : Int) q.Turn q.Idle c).bind fun r10 => if bnot r10.2.2 = true then some (.done (.inr (0, 0, false, s'))) else some (.next (isub .i64 ((r + 1 : Nat) : Int) 1, r10.1, r10.2.1, s')) := by
    unfold i_takeTurns_i_SquadRun_1_c4_0_0_L1
    dsimp only
    rw [if_pos (by rw [igt_iff]; omega), bind_some', if_pos (by rw [ilt_iff, ← hM]; exact hi), k1, bind_some']
   rw [← hM] at s2 ⊢
   rcases k2 with ⟨t, d, q2, x1, x2, rfl, rfl, rfl, x3, x4⟩ | ⟨t, d, q2, x1, x2⟩
   ·rw [x1, bind_some', if_neg (by simp [bnot])] at s2
    rw [x2, bind_some', if_neg (by simp [bnot]), iadd_eq _ _ (by omega)] at s1
    have e : isub .i64 ((r + 1 : Nat) : Int) 1 = (r : Int) := by rw [isub_eq _ _ (by omega)]; omega
    rw [e] at s2
    rw [loopM_next s1, loopM_next s2]
    have := ih (j + 1) q2 (n + 1) (by omega) (by omega) x3 (by omega) (by omega)
    rw [← hM] at this
    rw [show n + (r + 1) = n + 1 + r by omega]
    exact this
   ·rw [x1, bind_some', if_pos (by rfl)] at s2
    rw [x2, bind_some', if_pos (by rfl)] at s1
    exact .inr ⟨loopM_done s1, _, loopM_done s2⟩
  ·left
   refine ⟨q, loopM_done ?_, loopM_done ?_, ⟨hq.h1, hq.h3, hq.hm, hq.hb, hq.t0, hq.d0, by have := hq.ol; omega⟩⟩
   ·unfold s_SquadRun_L1
    dsimp only
    rw [if_pos (by rw [ilt_iff]; omega), bind_some', if_neg (by rw [ilt_iff]; unfold ilen; exact hi)]
   ·unfold i_takeTurns_i_SquadRun_1_c4_0_0_L1
    dsimp only
    rw [if_pos (by rw [igt_iff]; omega), bind_some', if_neg (by rw [ilt_iff, ← hM]; exact hi)]

/-! copies -/
theorem harts_copy (l : List gMachine) (hl : l.length ≤ 4000000) (hi : ∀ m ∈ l, m.Regs.length ≤ 4000000 ∧ m.Mem.length ≤ 4000000) (q : gSquad) (hq : q.Harts = l) (z : gSquad) (b : List gBox) (t d : Int) (o : List Int) :
  loopM (i_SquadRun_L1 q) (0, z, ⟨[], b, t, d, o⟩) = some (z, ⟨l, b, t, d, o⟩) ∧ loopM (s_l45Copy_o5_L1 q) (0, z, ⟨[], b, t, d, o⟩) = some (z, ⟨l, b, t, d, o⟩) := by
 subst hq
 constructor
 ·refine up_loop (s0 := ((0 : Int), z, (⟨[], b, t, d, o⟩ : gSquad))) q.Harts.length (fun k => ((k : Int), z, ⟨q.Harts.take k, b, t, d, o⟩)) _ rfl (fun k hk => ?_) ?_
  ·have h := hi _ (List.getElem_mem hk)
   have c1 : i_machineCopy_o2 q.Harts[k] = some q.Harts[k] := (show i_machineCopy_o2 q.Harts[k] = i_machineCopy q.Harts[k] from rfl).trans (i_machineCopy_id _ h.1 h.2)
   unfold i_SquadRun_L1
   dsimp only
   rw [if_pos (by rw [ilt_iff]; unfold ilen; omega), idx_at (List.getElem?_eq_getElem hk), bind_some', c1, bind_some', appx_ok 56 _ _ (by simp; unfold maxLen; omega), bind_some', iadd_eq _ _ (by omega), List.take_add_one, List.getElem?_eq_getElem hk]
   rfl
  ·unfold i_SquadRun_L1
   dsimp only
   rw [if_neg (by rw [ilt_iff]; unfold ilen; omega), List.take_length]
 ·refine up_loop (s0 := ((0 : Int), z, (⟨[], b, t, d, o⟩ : gSquad))) q.Harts.length (fun k => ((k : Int), z, ⟨q.Harts.take k, b, t, d, o⟩)) _ rfl (fun k hk => ?_) ?_
  ·have h := hi _ (List.getElem_mem hk)
   have c1 : s_l44Copy_o2 q.Harts[k] = some q.Harts[k] := (show s_l44Copy_o2 q.Harts[k] = s_l44Copy q.Harts[k] from rfl).trans (s_l44Copy_id _ h.1 h.2)
   unfold s_l45Copy_o5_L1
   dsimp only
   rw [if_pos (by rw [ilt_iff]; unfold ilen; omega), idx_at (List.getElem?_eq_getElem hk), bind_some', c1, bind_some', appx_ok 56 _ _ (by simp; unfold maxLen; omega), bind_some', iadd_eq _ _ (by omega), List.take_add_one, List.getElem?_eq_getElem hk]
   rfl
  ·unfold s_l45Copy_o5_L1
   dsimp only
   rw [if_neg (by rw [ilt_iff]; unfold ilen; omega), List.take_length]

theorem squadRun_eq (q : gSquad) (n : Int) (hq : SmallSq q) (ho : q.Out.length ≤ 1048576) : ∃ r, i_SquadRun q n = some r ∧ s_SquadRun q n = some r ∧ r.1.Harts.length ≤ 3 ∧ (∀ m ∈ r.1.Harts, m.Regs.length ≤ 32 ∧ m.Mem.length ≤ 10000) ∧ r.1.Boxes.length ≤ 3 ∧ (∀ b ∈ r.1.Boxes, b.Items.length ≤ 4) ∧ r.1.Out.length ≤ 3000000 := by
 obtain ⟨h1, h2, h3, h4, h5⟩ := hq
 unfold i_SquadRun s_SquadRun
 rw [i_squadValid_val q ⟨h1, h2, h3, h4, h5⟩, s_l45Valid_val q ⟨h1, h2, h3, h4, h5⟩]
 simp only [bind_some', if_or, in6]
 by_cases hv : isSquad q = true ∧ 0 ≤ n ∧ n ≤ 1000000
 ·obtain ⟨v, n0, n1⟩ := hv
  have g1 : (bnot (isSquad q) || ilt n 0 || igt n 1000000) = false := by
   rw [v, Bool.eq_false_iff]; simp [bnot, ilt, igt]; omega
  have g2 : (bnot (isSquad q) || bnot (ige n 0 && ile n 1000000)) = false := by
   rw [v, Bool.eq_false_iff]; simp [bnot, ige, ile]; omega
  have c1 : i_boxesCopy_o2 q.Boxes = some q.Boxes := (show i_boxesCopy_o2 q.Boxes = i_boxesCopy q.Boxes from rfl).trans (i_boxesCopy_id _ h3 h4)
  have c2 : slices_Clone_int_int_o q.Out = some q.Out := clone_id _ h5
  have c3 : s_l15BoxesCopy_o q.Boxes = some q.Boxes := (show s_l15BoxesCopy_o q.Boxes = s_l15BoxesCopy q.Boxes from rfl).trans (s_l15BoxesCopy_id _ h3 h4)
  have c4 : s_l45Copy_o5 q = some q := by
   unfold s_l45Copy_o5
   rw [c3, bind_some', appx_nil' _ h5, bind_some', bind_some', (harts_copy q.Harts h1 h2 q rfl _ _ _ _ _).2]
   rfl
  rw [g1, g2]
  simp only [Bool.false_eq_true, if_false, c1, c2, c4, bind_some', (harts_copy q.Harts h1 h2 q rfl _ q.Boxes 0 0 q.Out).1]
  have vq : Vq q 1048576 := by
   simp only [isSquad, Bool.and_eq_true, decide_eq_true_eq, List.all_eq_true] at v
   obtain ⟨⟨⟨⟨⟨⟨⟨⟨a1, a2⟩, a3⟩, a4⟩, a5⟩, a6⟩, a7⟩, a8⟩, a9⟩ := v
   exact ⟨a1, a2, fun m hm => (Ma_iff m).1 (a9 m hm), a8, ⟨a3, a4⟩, ⟨a5, a6⟩, ho⟩
  obtain ⟨r, rfl⟩ := Int.eq_ofNat_of_zero_le n0
  have lp := squad_loop (r : Int) ⟨n0, n1⟩ q.Harts.length ⟨[], [], 0, 0, []⟩ r 0 q 1048576 (by omega) (by omega) vq (by omega) rfl
  unfold i_takeTurns_i_SquadRun_1_c4_0_0
  rcases lp with ⟨qf, l1, l2, l3⟩ | ⟨l1, s', l2⟩
  ·have l2' : loopM (i_takeTurns_i_SquadRun_1_c4_0_0_L1 (ilen q.Harts)) ((r : Int), q.Turn, q.Idle, (⟨q.Harts, q.Boxes, 0, 0, q.Out⟩ : gSquad)) = _ := l2
   rw [l1, l2', bind_some', bind_some', bind_some']
   refine ⟨(qf, true), rfl, rfl, l3.h3, fun m hm => ?_, ?_, fun b hb => ?_, ?_⟩
   ·have := l3.hm m hm
    have a := this.rl; have b := this.ml; omega
   ·have := l3.hb; simp only [isBoxes, Bool.and_eq_true, decide_eq_true_eq] at this; exact this.2
   ·have := l3.hb; simp only [isBoxes, Bool.and_eq_true, List.all_eq_true] at this
    have := (isBox_iff b).1 (this.1 b hb); omega
   ·have := l3.ol; simp only []; omega
  ·have l2' : loopM (i_takeTurns_i_SquadRun_1_c4_0_0_L1 (ilen q.Harts)) ((r : Int), q.Turn, q.Idle, (⟨q.Harts, q.Boxes, 0, 0, q.Out⟩ : gSquad)) = _ := l2
   rw [l1, l2', bind_some', bind_some', bind_some']
   exact ⟨_, rfl, rfl, by simp, fun m hm => by simp at hm, by simp, fun b hb => by simp at hb, by simp⟩
 ·have g1 : (bnot (isSquad q) || ilt n 0 || igt n 1000000) = true := by
   cases h : isSquad q
   ·rfl
   ·simp [h] at hv; simp [bnot, ilt, igt]; omega
  have g2 : (bnot (isSquad q) || bnot (ige n 0 && ile n 1000000)) = true := by
   cases h : isSquad q
   ·rfl
   ·simp [h] at hv; simp [bnot, ige, ile]; omega
  rw [g1, g2, if_pos rfl, if_pos rfl]
  exact ⟨_, rfl, rfl, by simp, fun m hm => by simp at hm, by simp, fun b hb => by simp at hb, by simp⟩
end Go.Abs
