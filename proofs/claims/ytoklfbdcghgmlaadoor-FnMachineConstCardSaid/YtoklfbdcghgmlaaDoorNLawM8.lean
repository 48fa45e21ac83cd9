/- laws.FnMachineConst's mirror: true for each tape. -/
import Derived.Test.YtoklfbdcghgmlaaDoorNDec
import Derived.Test.YtoklfbdcghgmlaaDoorNDrawC
set_option linter.unusedSimpArgs false
set_option linter.unusedVariables false
set_option maxHeartbeats 8000000
set_option maxRecDepth 20000
namespace Go.Abs
open Go

theorem sameInstrs_refl (l : List gInstr) (hl : l.length ≤ 1000000) : l_sameInstrs l l = some true := by
 unfold l_sameInstrs
 rw [if_neg (by simp [ine])]
 have := up_loop (step := l_sameInstrs_L1 l l) (s0 := (0 : Int)) l.length (fun k => (k : Int)) (.inl ()) rfl (fun k hk => ?_) ?_
 ·
  rw [this]; rfl
 ·
  unfold l_sameInstrs_L1
  dsimp only
  rw [if_pos (by rw [ilt_iff]; unfold ilen; omega), idx_at (List.getElem?_eq_getElem hk)]
  simp only [bind_some']
  rw [if_neg (by simp [eqD, bnot]), iadd_eq _ _ (by omega)]
  rfl
 ·
  unfold l_sameInstrs_L1
  dsimp only
  rw [if_neg (by rw [ilt_iff]; unfold ilen; omega)]
theorem differs_refl (l : List Int) (hl : l.length ≤ 1000000) : l_differs l l = some 0 := by
 unfold l_differs
 have := up_loop (step := l_differs_L1 l l) (s0 := ((0 : Int), (0 : Int))) l.length (fun k => ((0 : Int), (k : Int))) 0 rfl (fun k hk => ?_) ?_
 ·
  rw [this]; rfl
 ·
  unfold l_differs_L1
  dsimp only
  have h : ilt (k : Int) (ilen l) = true := by rw [ilt_iff]; unfold ilen; omega
  simp only [if_and, bind_some', h, Bool.and_self, if_true]
  rw [idx_at (List.getElem?_eq_getElem hk)]
  simp only [bind_some']
  rw [if_neg (by simp [ine]), iadd_eq _ _ (by omega)]
  rfl
 ·
  unfold l_differs_L1
  dsimp only
  have h : ilt (l.length : Int) (ilen l) = false := by rw [Bool.eq_false_iff, ne_eq, ilt_iff]; unfold ilen; omega
  simp only [if_and, bind_some', h, Bool.and_self, Bool.false_eq_true, if_false]

/-- what loads a word: one instruction or two -/
theorem const_cases (rd n : Int) (hn : -2147483648 ≤ n ∧ n ≤ 2147483647) :
  (i_constInstrs rd n = some [⟨12, rd, 0, 0, n⟩] ∧ s_l43Const rd n = some [⟨12, rd, 0, 0, n⟩] ∧ -2048 ≤ n ∧ n ≤ 2047) ∨
  ∃ hi lo, i_constInstrs rd n = some [⟨19, rd, 0, 0, hi⟩, ⟨12, rd, rd, 0, lo⟩] ∧ s_l43Const rd n = some [⟨19, rd, 0, 0, hi⟩, ⟨12, rd, rd, 0, lo⟩] ∧ (0 ≤ hi ∧ hi < 1048576) ∧ (-2048 ≤ lo ∧ lo ≤ 2047) ∧ (hi * 4096 + lo - n) % 4294967296 = 0 := by
 unfold i_constInstrs s_l43Const
 simp only [if_and, bind_some', in6]
 by_cases hs : -2048 ≤ n ∧ n ≤ 2047
 ·
  left
  have g : (ige n (-2048) && ile n 2047) = true := by simp [ige, ile]; omega
  rw [g]
  exact ⟨rfl, rfl, hs.1, hs.2⟩
 ·
  right
  have g : (ige n (-2048) && ile n 2047) = false := by rw [Bool.eq_false_iff]; simp [ige, ile]; omega
  rw [g]
  obtain ⟨u, hu, bu, eu⟩ := uns n hn
  have q1 : s_Bits u 0 12 = some (u / 1 % 4096) := bitsK u 0 12 1 4096 (by decide) (by decide) bu (by decide)
  have sx : i_SignExtend (u / 1 % 4096) 12 = some (if u / 1 % 4096 ≥ 2048 then u / 1 % 4096 - 4096 else u / 1 % 4096) := sxK _ 12 4096 2048 (by decide) (by decide) (by decide) (by decide) (by omega)
  have sl : ∃ lo, (if u / 1 % 4096 ≥ 2048 then u / 1 % 4096 - 4096 else u / 1 % 4096) = lo ∧ -2048 ≤ lo ∧ lo ≤ 2047 ∧ (n - lo) % 4096 = 0 := by
   refine ⟨_, rfl, ?_⟩
   split <;> omega
  obtain ⟨lo, elo, l1, l2, l3⟩ := sl
  rw [elo] at sx
  have ss : s_SignExtend (u / 1 % 4096) 12 = some lo := by rw [← signExtend_eq]; exact sx
  have e : isub .i64 n lo = n - lo := isub_eq _ _ (by omega)
  have hw := wrap_val (n - lo) (by omega)
  have hwi := (wrap_eq (n - lo) (by omega)).trans hw
  obtain ⟨u2, hu2, bu2, eu2⟩ := uns ((n - lo + 2147483648) % 4294967296 - 2147483648) (by omega)
  have q2 : s_Bits u2 12 20 = some (u2 / 4096 % 1048576) := bitsK u2 12 20 4096 1048576 (by decide) (by decide) bu2 (by decide)
  have us : s_Unsigned n = some u := by rw [← unsigned_eq]; exact hu
  have us2 : s_Unsigned ((n - lo + 2147483648) % 4294967296 - 2147483648) = some u2 := by rw [← unsigned_eq]; exact hu2
  refine ⟨u2 / 4096 % 1048576, lo, ?_, ?_, by omega, ⟨l1, l2⟩, by omega⟩
  ·
   simp -implicitDefEqProofs only [Bool.false_eq_true, if_false, hu, bind_some', bits_eq, q1, sx, e, hwi, hu2, q2, i_addi]
  ·
   simp -implicitDefEqProofs only [Bool.false_eq_true, if_false, us, bind_some', q1, ss, e, hw, us2, q2]
   rw [appx_ok 40 _ _ (by unfold maxLen; simp)]
   rfl

theorem wrap_ex (e : Int) (he : -9223372036854775808 ≤ e ∧ e ≤ 9223372036854775807) : ∃ w, i_Wrap e = some w ∧ (-2147483648 ≤ w ∧ w ≤ 2147483647) ∧ (w - e) % 4294967296 = 0 := by
 refine ⟨_, (wrap_eq e he).trans (wrap_val e he), by omega, by omega⟩
theorem wrap_is (e n : Int) (he : -9223372036854775808 ≤ e ∧ e ≤ 9223372036854775807) (hn : -2147483648 ≤ n ∧ n ≤ 2147483647) (h : (e - n) % 4294967296 = 0) : i_Wrap e = some n := by
 rw [wrap_eq e he, wrap_val e he]; congr 1; omega

/-! steps of the machine -/
theorem word_at (m : gMachine) (k : Nat) (hk : k < m.Mem.length) (hl : m.Mem.length ≤ 10000) (hp : m.Pc = 4 * (k : Int)) : i_Machine_word_c0_2_moo m m.Pc = some (some (k : Int)) := by
 have q : quox .i64 (4 * (k : Int)) 4 = some (k : Int) := by rw [quox_eq _ _ (by omega) (by omega) (by decide)]; congr 1; omega
 have r : remx (4 * (k : Int)) 4 = some 0 := by rw [remx_eq _ _ (by omega) (by decide)]; congr 1; omega
 have hx : ∃ v, idx m.Mem (k : Int) = some v := ⟨_, idx_at (List.getElem?_eq_getElem hk)⟩
 obtain ⟨v, hv⟩ := hx
 unfold i_Machine_word_c0_2_moo
 rw [hp]
 have z1 : ilt (4 * (k : Int)) 0 = false := by rw [Bool.eq_false_iff, ne_eq, ilt_iff]; omega
 have z2 : ige (k : Int) (ilen m.Mem) = false := by rw [Bool.eq_false_iff, ne_eq, ige_iff]; unfold ilen; omega
 simp -implicitDefEqProofs only [z1, Bool.false_eq_true, if_false, r, bind_some', q, z2, hv, show ine (0 : Int) 0 = false from rfl]

theorem uns_wrap (e w : Int) (he : 0 ≤ e ∧ e < 4294967296) (hw : i_Wrap e = some w) : i_Unsigned w = some e := by
 have h1 := (wrap_eq e (by omega)).symm.trans hw
 rw [wrap_val e (by omega)] at h1
 have h1 := Option.some.inj h1
 obtain ⟨u, hu, _, eu⟩ := uns w (by omega)
 rw [hu]; congr 1; omega

theorem set_reg (m : gMachine) (rd v : Int) (h : 1 ≤ rd ∧ rd ≤ 31) (hr : m.Regs.length = 32) : i_Machine_set_moo m rd v = some ⟨m.Regs.set rd.toNat v, m.Pc, m.Mem⟩ := by
 unfold i_Machine_set_moo
 have hx : ∃ w, idx m.Regs rd = some w := by
  obtain ⟨w, hw, _⟩ := idx_ok m.Regs rd (by omega) (by omega)
  exact ⟨w, hw⟩
 obtain ⟨w, hw⟩ := hx
 rw [if_pos (by rw [ine_iff]; omega), hw, bind_some']
 unfold setx
 rw [if_pos (by omega)]
 rfl

theorem step_addi (m : gMachine) (k : Nat) (hk : k < m.Mem.length) (hl : m.Mem.length ≤ 10000) (hp : m.Pc = 4 * (k : Int)) (hr : m.Regs.length = 32) (rd rs imm w v r x : Int) (hd : 1 ≤ rd ∧ rd ≤ 31) (hs : 0 ≤ rs ∧ rs < 32) (hi : -2048 ≤ imm ∧ imm ≤ 2047)
  (hw : i_Wrap (wAddi rd rs imm) = some w) (hm : idx m.Mem (k : Int) = some w) (hv : idx m.Regs rs = some v) (hb : -2147483648 ≤ v ∧ v ≤ 2147483647) (hres : i_Wrap (v + imm) = some r) (h0 : idx m.Regs 0 = some x) :
  i_Machine_step m = some (1, ⟨m.Regs.set rd.toNat r, 4 * ((k + 1 : Nat) : Int), m.Mem⟩) := by
 obtain ⟨a1, a2, a3⟩ := addi_ok rd rs imm (by omega) hs hi
 have u := uns_wrap _ _ a2 hw
 have e1 : iadd .i64 (4 * (k : Int)) 4 = 4 * ((k + 1 : Nat) : Int) := by rw [iadd_eq _ _ (by omega)]; omega
 have w1 : i_Wrap (4 * ((k + 1 : Nat) : Int)) = some (4 * ((k + 1 : Nat) : Int)) := wrap_is _ _ (by omega) (by omega) (by omega)
 have e2 : iadd .i64 v imm = v + imm := iadd_eq _ _ (by omega)
 unfold i_Machine_step
 rw [word_at m k hk hl hp, bind_some', if_neg (by simp)]
 simp -implicitDefEqProofs only [bind_some', hm, u, a3, tt, Bool.false_eq_true, if_false, hv, h0, hp, e1, w1, ieq, Int.reduceBEq, if_true, e2, hres]
 rw [set_reg m rd r hd hr]
 rfl

theorem step_lui (m : gMachine) (k : Nat) (hk : k < m.Mem.length) (hl : m.Mem.length ≤ 10000) (hp : m.Pc = 4 * (k : Int)) (hr : m.Regs.length = 32) (rd imm w r x : Int) (hd : 1 ≤ rd ∧ rd ≤ 31) (hi : 0 ≤ imm ∧ imm < 1048576)
  (hw : i_Wrap (wLui rd imm) = some w) (hm : idx m.Mem (k : Int) = some w) (hres : i_Wrap (imm * 4096) = some r) (h0 : idx m.Regs 0 = some x) :
  i_Machine_step m = some (1, ⟨m.Regs.set rd.toNat r, 4 * ((k + 1 : Nat) : Int), m.Mem⟩) := by
 obtain ⟨a1, a2, a3⟩ := lui_ok rd imm (by omega) hi
 have u := uns_wrap _ _ a2 hw
 have e1 : iadd .i64 (4 * (k : Int)) 4 = 4 * ((k + 1 : Nat) : Int) := by rw [iadd_eq _ _ (by omega)]; omega
 have w1 : i_Wrap (4 * ((k + 1 : Nat) : Int)) = some (4 * ((k + 1 : Nat) : Int)) := wrap_is _ _ (by omega) (by omega) (by omega)
 have e2 : imul .i64 imm 4096 = imm * 4096 := imul_eq _ _ (by omega)
 unfold i_Machine_step
 rw [word_at m k hk hl hp, bind_some', if_neg (by simp)]
 simp -implicitDefEqProofs only [bind_some', hm, u, a3, tt, Bool.false_eq_true, if_false, h0, hp, e1, w1, ieq, Int.reduceBEq, if_true, e2, hres]
 rw [set_reg m rd r hd hr]
 rfl

/-! the law -/
theorem regs0 : makex 8 32 (0 : Int) = some (List.replicate 32 0) := rfl
theorem valid0 (mem : List Int) (hl : mem.length ≤ 10000) (hw : mem.all isW = true) : i_MachineValid ⟨List.replicate 32 0, 0, mem⟩ = some true := by
 unfold i_MachineValid
 have h1 : i_areWords (List.replicate 32 (0 : Int)) = some true := by rw [i_areWords_val _ (by simp; unfold maxLen; omega)]; rfl
 have h2 : i_areWords mem = some true := by rw [i_areWords_val _ (by unfold maxLen; omega), hw]
 have h3 : idx (List.replicate 32 (0 : Int)) 0 = some 0 := rfl
 have h4 : ile (ilen mem) 10000 = true := by rw [ile_iff]; unfold ilen; omega
 have h5 : i_WordValid 0 = some true := rfl
 have h6 : ieq (ilen (List.replicate 32 (0 : Int))) 32 = true := rfl
 have h7 : ieq (0 : Int) 0 = true := rfl
 simp -implicitDefEqProofs only [h1, h2, h3, h4, h5, h6, h7, bind_some', if_true]
theorem clone_o (l : List Int) (hl : l.length ≤ 2000000) : slices_Clone_int_int_o l = some l := by
 unfold slices_Clone_int_int_o
 rw [if_neg (by decide), appx_ok 8 _ _ (by unfold maxLen; simp; omega)]
 rfl
theorem isW_wrap (e w : Int) (he : -9223372036854775808 ≤ e ∧ e ≤ 9223372036854775807) (h : i_Wrap e = some w) : isW w = true := by
 have h1 := (wrap_eq e he).symm.trans h
 rw [wrap_val e he] at h1
 have h1 := Option.some.inj h1
 unfold isW; simp; omega
theorem drawConst_ok {l : List Int} (hb : Bytes l) (hl : l.length ≤ 1048576) : Ok (s_DrawConstInstrs l) (fun _ => True) := by
 unfold s_DrawConstInstrs
 refine Ok.bind (Ok.open hb hl) fun r hr => ?_
 obtain ⟨b, hbb, hbl, hr⟩ := hr
 refine Ok.bind (Ok.pick hbb hbl hr (by omega) (by omega)) fun q1 h1 => ?_
 refine Ok.bind (Ok.word hbb hbl h1.1 (by omega)) fun q2 h2 => ?_
 refine Ok.bind (Ok.pick hbb hbl h2 (by omega) (by omega)) fun q3 h3 => ?_
 refine Ok.ite (fun _ => ?_) (fun _ => ?_)
 ·
  refine Ok.bind (Ok.pick hbb hbl h3.1 (by omega) (by omega)) fun q4 h4 => ?_
  exact Ok.bind (Ok.idx (by have := h4.2; simp; omega)) fun v _ => Ok.pure trivial
 ·
  have e : (if ieq q3.1 1 = true then some (ieq q3.1 1) else if ieq q3.1 2 = true then some (ieq q3.1 2) else some (ieq q3.1 3)) = some (ieq q3.1 1 || ieq q3.1 2 || ieq q3.1 3) := by
   cases ieq q3.1 1 <;> cases ieq q3.1 2 <;> rfl
  rw [e, bind_some']
  refine Ok.ite (fun _ => ?_) (fun _ => ?_)
  ·
   refine Ok.bind (Ok.pick hbb hbl h3.1 (by omega) (by omega)) fun q4 h4 => ?_
   exact Ok.bind (Ok.idx (by have := h4.2; simp; omega)) fun v _ => Ok.pure trivial
  ·
   exact Ok.ite (fun _ => Ok.pure trivial) (fun _ => Ok.pure trivial)

theorem run_const (rd n : Int) (hd : 1 ≤ rd ∧ rd ≤ 31) (hn : -2147483648 ≤ n ∧ n ≤ 2147483647) : ∃ l ws, i_constInstrs rd n = some l ∧ s_l43Const rd n = some l ∧ l.length ≤ 2 ∧ l_wordsOf l = some ws ∧
  i_MachineRun_o2 ⟨List.replicate 32 0, 0, ws⟩ (ilen l) = some (⟨(List.replicate 32 0).set rd.toNat n, 4 * (l.length : Int), ws⟩, (l.length : Int), 1) := by
 have z0 : idx (List.replicate 32 (0 : Int)) 0 = some 0 := rfl
 rcases const_cases rd n hn with ⟨h1, h2, h3⟩ | ⟨hi, lo, h1, h2, h3, h4, h5⟩
 ·
  obtain ⟨a1, a2, a3⟩ := addi_ok rd 0 n (by omega) (by omega) h3
  obtain ⟨w, hw, bw, _⟩ := wrap_ex (wAddi rd 0 n) (by omega)
  refine ⟨_, [w], h1, h2, by simp, ?_, ?_⟩
  ·
   unfold l_wordsOf
   rw [loopM_next (s' := (1, [w])), loopM_done (e := [w])]
   ·
    rfl
   ·
    rfl
   ·
    unfold l_wordsOf_L1
    simp -implicitDefEqProofs only [show ilt 0 (ilen [(⟨12, rd, 0, 0, n⟩ : gInstr)]) = true from rfl, if_true, show idx [(⟨12, rd, 0, 0, n⟩ : gInstr)] 0 = some ⟨12, rd, 0, 0, n⟩ from rfl, bind_some', a1, hw]
    rw [appx_ok 8 _ _ (by unfold maxLen; simp)]
    rfl
  ·
   have hv : i_MachineValid ⟨List.replicate 32 0, 0, [w]⟩ = some true := valid0 [w] (by simp) (by simp [isW_wrap _ _ (by omega) hw])
   unfold i_MachineRun_o2 i_machineCopy_o2
   rw [hv]
   simp -implicitDefEqProofs only [bind_some', tt, Bool.false_eq_true, if_false, show ilt (ilen [(⟨12, rd, 0, 0, n⟩ : gInstr)]) 0 = false from rfl, show igt (ilen [(⟨12, rd, 0, 0, n⟩ : gInstr)]) 1000000 = false from rfl, clone_o (List.replicate 32 (0 : Int)) (by simp), clone_o [w] (by simp)]
   have st := step_addi ⟨List.replicate 32 0, 0, [w]⟩ 0 (by simp) (by simp) rfl (by simp) rd 0 n w 0 n 0 hd (by omega) h3 hw rfl z0 (by omega) (wrap_is _ n (by omega) hn (by omega)) z0
   rw [loopM_next (s' := (1, (⟨[], 0, []⟩ : gMachine), ⟨(List.replicate 32 (0 : Int)).set rd.toNat n, 4, [w]⟩)), loopM_done (e := .inl ((⟨[], 0, []⟩ : gMachine), ⟨(List.replicate 32 (0 : Int)).set rd.toNat n, 4, [w]⟩))]
   ·
    rfl
   ·
    rfl
   ·
    unfold i_MachineRun_o2_L1
    dsimp only
    rw [if_pos (by rfl), st, bind_some', if_neg (by simp [ine])]
    rfl
 ·
  obtain ⟨a1, a2, a3⟩ := lui_ok rd hi (by omega) h3
  obtain ⟨b1, b2, b3⟩ := addi_ok rd rd lo (by omega) (by omega) h4
  obtain ⟨w, hw, bw, _⟩ := wrap_ex (wLui rd hi) (by omega)
  obtain ⟨w2, hw2, bw2, _⟩ := wrap_ex (wAddi rd rd lo) (by omega)
  obtain ⟨r, hr, br, er⟩ := wrap_ex (hi * 4096) (by omega)
  refine ⟨_, [w, w2], h1, h2, by simp, ?_, ?_⟩
  ·
   unfold l_wordsOf
   rw [loopM_next (s' := (1, [w])), loopM_next (s' := (2, [w, w2])), loopM_done (e := [w, w2])]
   ·
    rfl
   ·
    rfl
   ·
    unfold l_wordsOf_L1
    simp -implicitDefEqProofs only [show ilt 1 (ilen [(⟨19, rd, 0, 0, hi⟩ : gInstr), ⟨12, rd, rd, 0, lo⟩]) = true from rfl, if_true, show idx [(⟨19, rd, 0, 0, hi⟩ : gInstr), ⟨12, rd, rd, 0, lo⟩] 1 = some ⟨12, rd, rd, 0, lo⟩ from rfl, bind_some', b1, hw2]
    rw [appx_ok 8 _ _ (by unfold maxLen; simp)]
    rfl
   ·
    unfold l_wordsOf_L1
    simp -implicitDefEqProofs only [show ilt 0 (ilen [(⟨19, rd, 0, 0, hi⟩ : gInstr), ⟨12, rd, rd, 0, lo⟩]) = true from rfl, if_true, show idx [(⟨19, rd, 0, 0, hi⟩ : gInstr), ⟨12, rd, rd, 0, lo⟩] 0 = some ⟨19, rd, 0, 0, hi⟩ from rfl, bind_some', a1, hw]
    rw [appx_ok 8 _ _ (by unfold maxLen; simp)]
    rfl
  ·
   have hv : i_MachineValid ⟨List.replicate 32 0, 0, [w, w2]⟩ = some true := valid0 [w, w2] (by simp) (by simp [isW_wrap _ _ (by omega) hw, isW_wrap _ _ (by omega) hw2])
   unfold i_MachineRun_o2 i_machineCopy_o2
   rw [hv]
   simp -implicitDefEqProofs only [bind_some', tt, Bool.false_eq_true, if_false, show ilt (ilen [(⟨19, rd, 0, 0, hi⟩ : gInstr), ⟨12, rd, rd, 0, lo⟩]) 0 = false from rfl, show igt (ilen [(⟨19, rd, 0, 0, hi⟩ : gInstr), ⟨12, rd, rd, 0, lo⟩]) 1000000 = false from rfl, clone_o (List.replicate 32 (0 : Int)) (by simp), clone_o [w, w2] (by simp)]
   have st := step_lui ⟨List.replicate 32 0, 0, [w, w2]⟩ 0 (by simp) (by simp) rfl (by simp) rd hi w r 0 hd h3 hw rfl hr z0
   have g1 : idx ((List.replicate 32 (0 : Int)).set rd.toNat r) rd = some r := by
    unfold idx
    rw [if_pos (by omega), List.getElem?_set_self (by simp; omega)]
   have g0 : ∃ x, idx ((List.replicate 32 (0 : Int)).set rd.toNat r) 0 = some x := by
    obtain ⟨x, hx, _⟩ := idx_ok ((List.replicate 32 (0 : Int)).set rd.toNat r) 0 (by decide) (by simp)
    exact ⟨x, hx⟩
   obtain ⟨x, g0⟩ := g0
   have st2 := step_addi ⟨(List.replicate 32 (0 : Int)).set rd.toNat r, 4, [w, w2]⟩ 1 (by simp) (by simp) rfl (by simp) rd rd lo w2 r n x hd (by omega) h4 hw2 rfl g1 br (wrap_is _ n (by omega) hn (by omega)) g0
   rw [List.set_set] at st2
   rw [loopM_next (s' := (1, (⟨[], 0, []⟩ : gMachine), ⟨(List.replicate 32 (0 : Int)).set rd.toNat r, 4, [w, w2]⟩)), loopM_next (s' := (2, (⟨[], 0, []⟩ : gMachine), ⟨(List.replicate 32 (0 : Int)).set rd.toNat n, 8, [w, w2]⟩)), loopM_done (e := .inl ((⟨[], 0, []⟩ : gMachine), ⟨(List.replicate 32 (0 : Int)).set rd.toNat n, 8, [w, w2]⟩))]
   ·
    rfl
   ·
    rfl
   ·
    unfold i_MachineRun_o2_L1
    dsimp only
    rw [if_pos (by rfl), st2, bind_some', if_neg (by simp [ine])]
    rfl
   ·
    unfold i_MachineRun_o2_L1
    dsimp only
    rw [if_pos (by rfl), st, bind_some', if_neg (by simp [ine])]
    rfl

theorem fnMachineConst_true (l : List Int) (hb : Bytes l) : l_FnMachineConst l = some true := by
 unfold l_FnMachineConst
 by_cases h0 : (1048576 : Int) < l.length
 ·
  rw [if_pos (by simp [igt, ilen]; omega)]
 rw [if_neg (by simp [igt, ilen]; omega)]
 obtain ⟨q, hq, _⟩ := drawConst_ok hb (by omega)
 rw [hq, bind_some']
 obtain ⟨rd, n⟩ := q
 dsimp only
 unfold i_ConstInstrs s_ConstInstrs
 simp only [in6, bind_some', i_WordValid_val, s_WordValid_val, if_or, bind_id]
 have zb : ∀ a : Bool, bneb a a = false := by intro a; simp [bneb]
 have zc : ∀ a : Bool, beqb a a = true := by intro a; simp [beqb]
 by_cases hg : (1 ≤ rd ∧ rd ≤ 31) ∧ isW n = true
 ·
  obtain ⟨hd, hw⟩ := hg
  have hn : -2147483648 ≤ n ∧ n ≤ 2147483647 := by unfold isW at hw; simp at hw; exact hw
  obtain ⟨c, ws, k1, k2, k3, k4, k5⟩ := run_const rd n hd hn
  have e1 : (ilt rd 1 || igt rd 31 || bnot (isW n)) = false := by rw [hw, Bool.eq_false_iff]; simp [ilt, igt, bnot]; omega
  have e2 : (bnot (ige rd 1 && ile rd 31) || bnot (isW n)) = false := by rw [hw, Bool.eq_false_iff]; simp [ige, ile, bnot]; omega
  simp only [e1, e2, Bool.false_eq_true, if_false, k1, k2, bind_some', zb, sameInstrs_refl c (by omega), tt, k4, regs0, k5]
  obtain ⟨x, hx, _⟩ := idx_ok (List.replicate 32 (0 : Int)) rd (by omega) (by simp; omega)
  have sx : setx (List.replicate 32 (0 : Int)) rd n = some ((List.replicate 32 (0 : Int)).set rd.toNat n) := by
   unfold setx; rw [if_pos (by simp; omega)]
  have gx : idx ((List.replicate 32 (0 : Int)).set rd.toNat n) rd = some n := by
   unfold idx
   rw [if_pos (by omega), List.getElem?_set_self (by simp; omega)]
  rw [hx, bind_some', sx, bind_some']
  have i1 : ieq (c.length : Int) (ilen c) = true := by rw [ieq_iff]; rfl
  have i3 : ieq n n = true := by rw [ieq_iff]
  simp -implicitDefEqProofs only [i1, if_true, show ieq (1 : Int) 1 = true from rfl, bind_some', gx, i3, differs_refl ((List.replicate 32 (0 : Int)).set rd.toNat n) (by simp), show ieq (0 : Int) 0 = true from rfl]
  rfl
 ·
  have e1 : (ilt rd 1 || igt rd 31 || bnot (isW n)) = true := by
   cases hw : isW n
   ·
    simp [bnot]
   ·
    simp [hw] at hg; simp [ilt, igt, bnot]; omega
  have e2 : (bnot (ige rd 1 && ile rd 31) || bnot (isW n)) = true := by
   cases hw : isW n
   ·
    simp [bnot]
   ·
    simp [hw] at hg; simp [ige, ile, bnot]; omega
  simp only [e1, e2, if_true, bind_some', zb, zc, Bool.false_eq_true, if_false, sameInstrs_refl ([] : List gInstr) (by simp), tt, show bnot false = true from rfl]
  rw [if_pos (by rfl)]
end Go.Abs
