/- A quad that computes: its instructions, and what the machine does with them. -/
import Derived.Test.YtlcilhmkbmgkeaaDoorNStepM
import Derived.Test.YtlcilhmkbmgkeaaDoorNApp
set_option linter.unusedSimpArgs false
set_option linter.unusedVariables false
set_option maxHeartbeats 8000000
set_option maxRecDepth 20000
namespace Go.Abs
open Go

theorem isW_wrap (e w : Int) (he : -9223372036854775808 ≤ e ∧ e ≤ 9223372036854775807) (h : i_Wrap e = some w) : isW w = true := by
  have h1 := (wrap_eq e he).symm.trans h
  rw [wrap_val e he] at h1
  have h1 := Option.some.inj h1
  unfold isW; simp; omega

structure Code (code : List gInstr) (ws : List Int) : Prop where
  len : ws.length = code.length
  vp : ∀ p ∈ code, VP p
  words : ∀ (k : Nat) (p : gInstr), code[k]? = some p → ∃ w, ws[k]? = some w ∧ i_Wrap (encZ p) = some w

theorem words_ok (code : List gInstr) (hv : ∀ p ∈ code, VP p) (hl : code.length ≤ 1000) : ∃ ws, l_wordsOf code = some ws ∧ Code code ws ∧ ws.all isW = true := by
  -- the words
  have hw : ∀ p : gInstr, ∃ w, VP p → i_Wrap (encZ p) = some w ∧ isW w = true := by
    intro p
    by_cases h : VP p
    · obtain ⟨_, b, _⟩ := dec_enc p h
      obtain ⟨w, h1, _⟩ := wrap_ex (encZ p) (by omega)
      exact ⟨w, fun _ => ⟨h1, isW_wrap _ _ (by omega) h1⟩⟩
    · exact ⟨0, fun a => absurd a h⟩
  let f : gInstr → Int := fun p => (hw p).choose
  have hf : ∀ p, VP p → i_Wrap (encZ p) = some (f p) ∧ isW (f p) = true := fun p => (hw p).choose_spec
  refine ⟨code.map f, ?_, ⟨by simp, hv, ?_⟩, ?_⟩
  · unfold l_wordsOf
    have := up_loop (step := l_wordsOf_L1 code) (s0 := ((0 : Int), ([] : List Int))) code.length (fun k => ((k : Int), (code.take k).map f)) (code.map f) rfl (fun k hk => ?_) ?_
    · rw [this]; rfl
    · unfold l_wordsOf_L1
      dsimp only
      rw [if_pos (by rw [ilt_iff]; unfold ilen; omega), idx_at (List.getElem?_eq_getElem hk), bind_some', (dec_enc _ (hv _ (List.getElem_mem hk))).1, bind_some', (hf _ (hv _ (List.getElem_mem hk))).1, bind_some', appx_ok 8 _ _ (by unfold maxLen; simp; omega), bind_some', iadd_eq _ _ (by omega)]
      rw [List.take_add_one, List.map_append, List.getElem?_eq_getElem hk]
      rfl
    · unfold l_wordsOf_L1
      dsimp only
      rw [if_neg (by rw [ilt_iff]; unfold ilen; omega), List.take_length]
  · intro k p hp
    refine ⟨f p, by rw [List.getElem?_map, hp]; rfl, (hf p (hv p (List.mem_of_getElem? hp))).1⟩
  · rw [List.all_eq_true]
    intro w hw'
    obtain ⟨p, hp, rfl⟩ := List.mem_map.1 hw'
    exact (hf p (hv p hp)).2

theorem Code.next {code : List gInstr} {ws : List Int} (h : Code code ws) {R F : List Int} (hF : F.length ≤ 100) (hc : code.length ≤ 100) (hR : R.length = 32) {k : Nat} {p : gInstr} (hp : code[k]? = some p) : Next ⟨R, 4 * (k : Int), ws ++ F⟩ k p := by
  have hk : k < code.length := by
    rcases Nat.lt_or_ge k code.length with a | a
    · exact a
    · rw [List.getElem?_eq_none a] at hp; cases hp
  have hl := h.len
  obtain ⟨w, h1, h2⟩ := h.words k p hp
  refine ⟨?_, ?_, rfl, hR, h.vp p (List.mem_of_getElem? hp), w, ?_, h2⟩
  · simp; omega
  · simp; omega
  · refine idx_at ?_
    show (ws ++ F)[k]? = some w
    rw [List.getElem?_append_left (by omega), h1]

def Goes (ws : List Int) (N : Int) (k : Nat) (R F : List Int) (k' : Nat) (R' F' : List Int) : Prop :=
  ∀ z, loopM (i_MachineRun_o2_L1 N) ((k : Int), z, ⟨R, 4 * (k : Int), ws ++ F⟩) = loopM (i_MachineRun_o2_L1 N) ((k' : Int), z, ⟨R', 4 * (k' : Int), ws ++ F'⟩)
theorem Goes.refl {ws : List Int} {N : Int} {k : Nat} {R F : List Int} : Goes ws N k R F k R F := fun _ => rfl
theorem Goes.trans {ws : List Int} {N : Int} {k k1 k2 : Nat} {R R1 R2 F F1 F2 : List Int} (h : Goes ws N k R F k1 R1 F1) (h' : Goes ws N k1 R1 F1 k2 R2 F2) : Goes ws N k R F k2 R2 F2 := fun z => (h z).trans (h' z)
theorem Goes.one {ws : List Int} {N : Int} {k : Nat} {R F R' F' : List Int} (hk : (k : Int) < N) (hN : N ≤ 1000) (h : i_Machine_step ⟨R, 4 * (k : Int), ws ++ F⟩ = some (1, ⟨R', 4 * ((k + 1 : Nat) : Int), ws ++ F'⟩)) : Goes ws N k R F (k + 1) R' F' := by
  intro z
  refine loopM_next ?_
  unfold i_MachineRun_o2_L1
  dsimp only
  rw [if_pos (by rw [ilt_iff]; exact hk), h, bind_some', if_neg (by simp [ine]), iadd_eq _ _ (by omega)]
  rfl

/-! the parts of the list -/
def CR (p : Int) : Int := ([8, 9, 18, 19, 20, 21, 22, 23] : List Int).getD p.toNat 0
def OPI (n : Int) : Int := ([7, 8, 6, 8, 11, 9, 10, 1, 2, 3, 4, 5] : List Int).getD (n - 1).toNat 0
def ldP (c p s : Int) : List gInstr := if p < c then [] else [⟨14, s, 2, 0, 4 * (p - c)⟩]
def rgP (c p s : Int) : Int := if p < c then CR p else s
def opP (n rd ra rb : Int) : List gInstr := ⟨OPI n, rd, ra, rb, 0⟩ :: (if n = 4 then [⟨13, rd, rd, 0, 1⟩] else [])
def stP (c p : Int) : List gInstr := if p < c then [] else [⟨16, 0, 2, 7, 4 * (p - c)⟩]
def binP (q : gQuad) (c : Int) : List gInstr := ldP c q.A 5 ++ ldP c q.B 6 ++ opP q.N (rgP c q.Dst 7) (rgP c q.A 5) (rgP c q.B 6) ++ stP c q.Dst

theorem cr_val (p : Int) (h : 0 ≤ p ∧ p < 8) : idx ([8, 9, 18, 19, 20, 21, 22, 23] : List Int) p = some (CR p) ∧ 8 ≤ CR p ∧ CR p ≤ 23 := by
  obtain rfl | rfl | rfl | rfl | rfl | rfl | rfl | rfl : p = 0 ∨ p = 1 ∨ p = 2 ∨ p = 3 ∨ p = 4 ∨ p = 5 ∨ p = 6 ∨ p = 7 := by omega
  all_goals exact ⟨rfl, by decide, by decide⟩
theorem cr_inj (p q : Int) (h : 0 ≤ p ∧ p < 8) (h' : 0 ≤ q ∧ q < 8) (e : CR p = CR q) : p = q := by
  have a : ∀ x y : Fin 8, CR (x.val : Int) = CR (y.val : Int) → x = y := by decide
  have := a ⟨p.toNat, by omega⟩ ⟨q.toNat, by omega⟩ (by
    show CR ((p.toNat : Nat) : Int) = CR ((q.toNat : Nat) : Int)
    rw [Int.toNat_of_nonneg h.1, Int.toNat_of_nonneg h'.1]; exact e)
  have := congrArg Fin.val this
  dsimp only at this
  omega
theorem opi_val (n : Int) (h : 1 ≤ n ∧ n ≤ 12) : idx ([7, 8, 6, 8, 11, 9, 10, 1, 2, 3, 4, 5] : List Int) (isub .i64 n 1) = some (OPI n) ∧ (1 ≤ OPI n ∧ OPI n ≤ 11) ∧ idx ([8, 9, 10, 11, 12, 3, 1, 2, 6, 7, 5] : List Int) (isub .i64 (OPI n) 1) = some (if n = 4 then 2 else n) := by
  obtain rfl | rfl | rfl | rfl | rfl | rfl | rfl | rfl | rfl | rfl | rfl | rfl : n = 1 ∨ n = 2 ∨ n = 3 ∨ n = 4 ∨ n = 5 ∨ n = 6 ∨ n = 7 ∨ n = 8 ∨ n = 9 ∨ n = 10 ∨ n = 11 ∨ n = 12 := by omega
  all_goals exact ⟨rfl, by decide, rfl⟩

theorem rgP_r (c p s : Int) (hp : 0 ≤ p) (hc : c ≤ 8) (hs : 5 ≤ s ∧ s ≤ 7) : 5 ≤ rgP c p s ∧ rgP c p s ≤ 23 := by
  unfold rgP
  split
  · have := cr_val p ⟨hp, by omega⟩; omega
  · omega

def Has (c : Int) (R F : List Int) (p x : Int) : Prop := if p < c then idx R (CR p) = some x else idx F (p - c) = some x

theorem idx_set_ne {l : List Int} {r s v : Int} (hs : 0 ≤ s) (h : r ≠ s) : idx (l.set s.toNat v) r = idx l r := by
  unfold idx
  split
  · rename_i h0
    rw [List.getElem?_set_ne (by omega)]
  · rfl
theorem idx_set_eq {l : List Int} {s v : Int} (hs : 0 ≤ s ∧ s < l.length) : idx (l.set s.toNat v) s = some v := by
  unfold idx
  rw [if_pos (by omega), List.getElem?_set_self (by omega)]
theorem idx_some {l : List Int} {r : Int} (h : 0 ≤ r ∧ r < l.length) : ∃ x, idx l r = some x := by
  obtain ⟨x, hx, _⟩ := idx_ok l r h.1 h.2
  exact ⟨x, hx⟩

variable {code : List gInstr} {ws F R : List Int}

theorem ld_go (h : Code code ws) (hF : F.length = 12) (hc : code.length ≤ 20) (hR : R.length = 32) (h2 : idx R 2 = some (4 * (code.length : Int))) {c p s x : Int} (hp : 0 ≤ p ∧ p ≤ 11) (hc8 : 1 ≤ c ∧ c ≤ 8) (hs : s = 5 ∨ s = 6) {pre post : List gInstr}
    (e : code = pre ++ ldP c p s ++ post) (hx : Has c R F p x) : ∃ R', Goes ws code.length pre.length R F (pre ++ ldP c p s).length R' F ∧ idx R' (rgP c p s) = some x ∧ R'.length = 32 ∧ (∀ r, r ≠ s → idx R' r = idx R r) := by
  unfold Has at hx
  unfold ldP at e
  unfold ldP rgP
  by_cases hpc : p < c
  · rw [if_pos hpc] at e hx ⊢
    rw [if_pos hpc]
    refine ⟨R, ?_, hx, hR, fun _ _ => rfl⟩
    rw [List.append_nil]; exact Goes.refl
  · rw [if_neg hpc] at e hx ⊢
    rw [if_neg hpc]
    have hk : code[pre.length]? = some ⟨14, s, 2, 0, 4 * (p - c)⟩ := by rw [e]; simp
    have hlt : pre.length < code.length := by rw [e]; simp
    have n := h.next (F := F) (by omega) (by omega) hR hk
    obtain ⟨y, hy⟩ := idx_some (l := R) (r := 0) (by omega)
    have hm : idx (ws ++ F) ((code.length + (p - c).toNat : Nat) : Int) = some x := by
      refine idx_at ?_
      have hl := h.len
      rw [List.getElem?_append_right (by omega), hl]
      unfold idx at hx
      rw [if_pos (by omega)] at hx
      rw [← hx]; congr 1; omega
    have st := step_lw n (by omega) (code.length + (p - c).toNat) h2 (by omega) (by omega) (by omega) (by show _ < (ws ++ F).length; rw [List.length_append, h.len]; omega) hm hy
    refine ⟨R.set s.toNat x, ?_, idx_set_eq (by omega), by simp [hR], fun r hr => idx_set_ne (by omega) hr⟩
    have : (pre ++ [(⟨14, s, 2, 0, 4 * (p - c)⟩ : gInstr)]).length = pre.length + 1 := by simp
    rw [this]
    exact Goes.one (by omega) (by omega) st

theorem op_go (h : Code code ws) (hF : F.length = 12) (hc : code.length ≤ 20) (hR : R.length = 32) {n rd ra rb a b due : Int} (hn : 1 ≤ n ∧ n ≤ 12) (hd : 1 ≤ rd ∧ rd ≤ 31) {pre post : List gInstr}
    (e : code = pre ++ opP n rd ra rb ++ post) (ha : idx R ra = some a) (hb : idx R rb = some b) (wa : -2147483648 ≤ a ∧ a ≤ 2147483647) (wb : -2147483648 ≤ b ∧ b ≤ 2147483647) (hdue : i_apply n a b = some due) :
    ∃ R', Goes ws code.length pre.length R F (pre ++ opP n rd ra rb).length R' F ∧ idx R' rd = some due ∧ R'.length = 32 ∧ (∀ r, r ≠ rd → idx R' r = idx R r) := by
  obtain ⟨_, o1, o2⟩ := opi_val n hn
  unfold opP at e
  unfold opP
  by_cases h4 : n = 4
  · rw [if_pos h4] at e o2 ⊢
    have hk : code[pre.length]? = some ⟨OPI n, rd, ra, rb, 0⟩ := by rw [e]; simp
    have hk2 : code[pre.length + 1]? = some ⟨13, rd, rd, 0, 1⟩ := by rw [e]; simp
    have hlt : pre.length + 1 < code.length := by rw [e]; simp
    have st := step_R (h.next (F := F) (by omega) (by omega) hR hk) o1 hd ha hb o2 (r := ixor .i64 a b) rfl
    have wx := ixor_w a b wa wb
    have bx := bw (BitVec.ofInt 32 a ^^^ BitVec.ofInt 32 b)
    rw [← wx] at bx
    obtain ⟨u, hu, bu, eu⟩ := uns (ixor .i64 a b) bx
    have hR2 : (R.set rd.toNat (ixor .i64 a b)).length = 32 := by simp [hR]
    obtain ⟨y, hy⟩ := idx_some (l := R.set rd.toNat (ixor .i64 a b)) (r := 0) (by omega)
    have st2 := step_sltiu (h.next (F := F) (by omega) (by omega) hR2 hk2) hd (v := ixor .i64 a b) (idx_set_eq (by omega)) hu (j := 1) (by rfl) hy
    refine ⟨(R.set rd.toNat (ixor .i64 a b)).set rd.toNat (if u < 1 then 1 else 0), (Goes.one (by omega) (by omega) st).trans ?_, ?_, ?_, ?_⟩
    · have : (pre ++ (⟨OPI n, rd, ra, rb, 0⟩ : gInstr) :: [⟨13, rd, rd, 0, 1⟩]).length = pre.length + 1 + 1 := by simp
      rw [this]
      exact Goes.one (by omega) (by omega) st2
    · rw [idx_set_eq (by omega)]
      subst h4
      have hz := ixor_zero a b wa wb
      have hd2 : i_apply 4 a b = some (if ieq a b = true then 1 else 0) := by
        unfold i_apply
        simp -implicitDefEqProofs only [ieq, Int.reduceBEq, Bool.false_eq_true, if_false, if_true, truth_val, bind_some']
        rfl
      rw [hd2] at hdue
      rw [← hdue]
      congr 1
      by_cases hab : a = b
      · have := hz.2 hab
        rw [if_pos (by omega), if_pos (by rw [ieq_iff]; exact hab)]
      · have : ixor .i64 a b ≠ 0 := fun q => hab (hz.1 q)
        rw [if_neg (by omega), if_neg (by rw [ieq_iff]; exact hab)]
    · simp [hR]
    · intro r hr
      rw [idx_set_ne (by omega) hr, idx_set_ne (by omega) hr]
  · rw [if_neg h4] at e o2 ⊢
    have hk : code[pre.length]? = some ⟨OPI n, rd, ra, rb, 0⟩ := by rw [e]; simp
    have hlt : pre.length < code.length := by rw [e]; simp
    have st := step_R (h.next (F := F) (by omega) (by omega) hR hk) o1 hd ha hb o2 hdue
    refine ⟨R.set rd.toNat due, ?_, idx_set_eq (by omega), by simp [hR], fun r hr => idx_set_ne (by omega) hr⟩
    have : (pre ++ [(⟨OPI n, rd, ra, rb, 0⟩ : gInstr)]).length = pre.length + 1 := by simp
    rw [this]
    exact Goes.one (by omega) (by omega) st

theorem st_go (h : Code code ws) (hF : F.length = 12) (hc : code.length ≤ 20) (hR : R.length = 32) (h2 : idx R 2 = some (4 * (code.length : Int))) {c p x : Int} (hp : 0 ≤ p ∧ p ≤ 11) (hc8 : 1 ≤ c ∧ c ≤ 8) {pre post : List gInstr}
    (e : code = pre ++ stP c p ++ post) (hx : idx R (rgP c p 7) = some x) : ∃ F', Goes ws code.length pre.length R F (pre ++ stP c p).length R F' ∧ F'.length = 12 ∧ Has c R F' p x := by
  unfold Has
  unfold stP at e
  unfold rgP at hx
  unfold stP
  by_cases hpc : p < c
  · rw [if_pos hpc] at e hx ⊢
    refine ⟨F, ?_, hF, by rw [if_pos hpc]; exact hx⟩
    rw [List.append_nil]; exact Goes.refl
  · rw [if_neg hpc] at e hx ⊢
    have hk : code[pre.length]? = some ⟨16, 0, 2, 7, 4 * (p - c)⟩ := by rw [e]; simp
    have hlt : pre.length < code.length := by rw [e]; simp
    have n := h.next (F := F) (by omega) (by omega) hR hk
    have st := step_sw n (code.length + (p - c).toNat) h2 (by omega) (by omega) (by omega) (by show _ < (ws ++ F).length; rw [List.length_append, h.len]; omega) hx
    have es : (ws ++ F).set (code.length + (p - c).toNat) x = ws ++ F.set (p - c).toNat x := by
      rw [List.set_append_right _ _ (by have := h.len; omega), h.len]; congr 2; omega
    rw [es] at st
    refine ⟨F.set (p - c).toNat x, ?_, by simp [hF], ?_⟩
    · have : (pre ++ [(⟨16, 0, 2, 7, 4 * (p - c)⟩ : gInstr)]).length = pre.length + 1 := by simp
      rw [this]
      exact Goes.one (by omega) (by omega) st
    · rw [if_neg hpc]; exact idx_set_eq (by omega)

theorem bin_go {q : gQuad} {c : Int} (h : Code (binP q c) ws) (hF : F.length = 12) (hR : R.length = 32) (h2 : idx R 2 = some (4 * ((binP q c).length : Int))) (hA : 0 ≤ q.A ∧ q.A ≤ 11) (hB : 0 ≤ q.B ∧ q.B ≤ 11) (hD : 0 ≤ q.Dst ∧ q.Dst ≤ 11) (hN : 1 ≤ q.N ∧ q.N ≤ 12) (hc8 : 1 ≤ c ∧ c ≤ 8)
    {a b due : Int} (ha : Has c R F q.A a) (hb : Has c R F q.B b) (wa : -2147483648 ≤ a ∧ a ≤ 2147483647) (wb : -2147483648 ≤ b ∧ b ≤ 2147483647) (hdue : i_apply q.N a b = some due) :
    ∃ R' F', Goes ws (binP q c).length 0 R F (binP q c).length R' F' ∧ R'.length = 32 ∧ F'.length = 12 ∧ Has c R' F' q.Dst due := by
  have hl : (binP q c).length ≤ 20 := by
    unfold binP ldP opP stP
    simp only [List.length_append, List.length_cons]
    repeat' split
    all_goals simp
  obtain ⟨R1, g1, r1, l1, s1⟩ := ld_go h hF hl hR h2 hA hc8 (.inl rfl) (pre := []) (post := ldP c q.B 6 ++ opP q.N (rgP c q.Dst 7) (rgP c q.A 5) (rgP c q.B 6) ++ stP c q.Dst) (by unfold binP; simp [List.append_assoc]) ha
  have hb1 : Has c R1 F q.B b := by
    unfold Has at hb ⊢
    split
    · rename_i hq
      rw [if_pos hq] at hb
      have := cr_val q.B ⟨hB.1, by omega⟩
      rw [s1 _ (by omega)]; exact hb
    · rename_i hq
      rw [if_neg hq] at hb; exact hb
  obtain ⟨R2, g2, r2, l2, s2⟩ := ld_go h hF hl l1 (by rw [s1 2 (by decide)]; exact h2) hB hc8 (.inr rfl) (pre := [] ++ ldP c q.A 5) (post := opP q.N (rgP c q.Dst 7) (rgP c q.A 5) (rgP c q.B 6) ++ stP c q.Dst) (by unfold binP; simp [List.append_assoc]) hb1
  have ra2 : idx R2 (rgP c q.A 5) = some a := by
    have : rgP c q.A 5 ≠ 6 := by
      unfold rgP
      split
      · have := cr_val q.A ⟨hA.1, by omega⟩; omega
      · decide
    rw [s2 _ this]; exact r1
  have hd := rgP_r c q.Dst 7 hD.1 hc8.2 (by decide)
  have hd7 : 7 ≤ rgP c q.Dst 7 := by
    unfold rgP
    split
    · have := cr_val q.Dst ⟨hD.1, by omega⟩; omega
    · decide
  obtain ⟨R3, g3, r3, l3, s3⟩ := op_go h hF hl l2 hN (by omega : 1 ≤ rgP c q.Dst 7 ∧ rgP c q.Dst 7 ≤ 31) (pre := [] ++ ldP c q.A 5 ++ ldP c q.B 6) (post := stP c q.Dst) (by unfold binP; simp [List.append_assoc]) ra2 r2 wa wb hdue
  obtain ⟨F', g4, l4, h4⟩ := st_go h hF hl l3 (by rw [s3 2 (by omega), s2 2 (by decide), s1 2 (by decide)]; exact h2) hD hc8 (pre := [] ++ ldP c q.A 5 ++ ldP c q.B 6 ++ opP q.N (rgP c q.Dst 7) (rgP c q.A 5) (rgP c q.B 6)) (post := []) (by unfold binP; simp [List.append_assoc]) r3
  refine ⟨R3, F', ?_, l3, l4, h4⟩
  have e : (binP q c).length = ([] ++ ldP c q.A 5 ++ ldP c q.B 6 ++ opP q.N (rgP c q.Dst 7) (rgP c q.A 5) (rgP c q.B 6) ++ stP c q.Dst).length := by unfold binP; simp
  have g := ((g1.trans g2).trans g3).trans g4
  rw [← e] at g
  exact g

theorem bin_vp {q : gQuad} {c : Int} (hA : 0 ≤ q.A ∧ q.A ≤ 11) (hB : 0 ≤ q.B ∧ q.B ≤ 11) (hD : 0 ≤ q.Dst ∧ q.Dst ≤ 11) (hN : 1 ≤ q.N ∧ q.N ≤ 12) (hc8 : 1 ≤ c ∧ c ≤ 8) : ∀ p ∈ binP q c, VP p := by
  have ra := rgP_r c q.A 5 hA.1 hc8.2 (by decide)
  have rb := rgP_r c q.B 6 hB.1 hc8.2 (by decide)
  have rd := rgP_r c q.Dst 7 hD.1 hc8.2 (by decide)
  obtain ⟨_, o1, _⟩ := opi_val q.N hN
  intro p hp
  unfold binP at hp
  rw [List.mem_append, List.mem_append, List.mem_append] at hp
  rcases hp with ((hp | hp) | hp) | hp
  · unfold ldP at hp
    split at hp
    · cases hp
    · rw [List.mem_singleton] at hp; subst hp
      right; left; exact ⟨by dsimp only; omega, by dsimp only; omega, by dsimp only; omega, by dsimp only; omega, rfl, by dsimp only; omega, by dsimp only; omega⟩
  · unfold ldP at hp
    split at hp
    · cases hp
    · rw [List.mem_singleton] at hp; subst hp
      right; left; exact ⟨by dsimp only; omega, by dsimp only; omega, by dsimp only; omega, by dsimp only; omega, rfl, by dsimp only; omega, by dsimp only; omega⟩
  · unfold opP at hp
    rw [List.mem_cons] at hp
    rcases hp with hp | hp
    · subst hp
      left; exact ⟨o1.1, o1.2, by dsimp only; omega, by dsimp only; omega, by dsimp only; omega, rfl⟩
    · split at hp
      · rw [List.mem_singleton] at hp; subst hp
        right; left; exact ⟨by dsimp only; omega, by dsimp only; omega, by dsimp only; omega, by dsimp only; omega, rfl, by dsimp only; omega, by dsimp only; omega⟩
      · cases hp
  · unfold stP at hp
    split at hp
    · cases hp
    · rw [List.mem_singleton] at hp; subst hp
      right; right; left; exact ⟨rfl, rfl, by dsimp only; omega, by dsimp only; omega, by dsimp only; omega, by dsimp only; omega⟩
end Go.Abs
