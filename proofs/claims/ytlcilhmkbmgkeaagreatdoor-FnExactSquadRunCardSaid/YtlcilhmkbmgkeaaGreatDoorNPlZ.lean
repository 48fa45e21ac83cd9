/- Lists of numbers: copied, compared, marked, held; loops that look at each element. -/
import Derived.Test.YtlcilhmkbmgkeaaGreatDoorNWordsN
import Derived.Test.YtlcilhmkbmgkeaaGreatDoorNNum
set_option linter.unusedSimpArgs false
set_option linter.unusedVariables false
set_option maxHeartbeats 4000000
namespace Go.Abs
open Go

theorem all_loop {α E : Type} {step : Int → Option (Flow Int E)} (l : List α) (W : α → Bool) (e0 e1 : E) (h : ∀ k (hk : k < l.length), step (k : Int) = some (if W l[k] = true then .next ((k + 1 : Nat) : Int) else .done e1)) (hd : step (l.length : Int) = some (.done e0)) :
  loopM step 0 = some (if l.all W = true then e0 else e1) := by
 have key : ∀ m k, k + m = l.length → loopM step (k : Int) = some (if (l.drop k).all W = true then e0 else e1) := by
  intro m
  induction m with
  | zero =>
   intro k hk
   obtain rfl : k = l.length := by omega
   rw [List.drop_length]
   exact loopM_done hd
  | succ m ih =>
   intro k hk
   have hlt : k < l.length := by omega
   rw [List.drop_eq_getElem_cons hlt, List.all_cons]
   by_cases hw : W l[k] = true
   ·rw [loopM_next (by rw [h k hlt, if_pos hw]), ih (k + 1) (by omega), hw, Bool.true_and]
   ·rw [loopM_done (by rw [h k hlt, if_neg hw])]
    rw [if_neg (by simp [hw])]
 have := key l.length 0 (by omega)
 simpa using this

theorem eqIntS_refl (l : List Int) (hl : l.length ≤ 4000000) : l_eqIntS l l = some true := by
 unfold l_eqIntS
 rw [if_neg (by simp [ine])]
 have := up_loop (step := l_eqIntS_L1 l l) (s0 := (0 : Int)) l.length (fun k => (k : Int)) (.inl ()) rfl (fun k hk => ?_) ?_
 ·rw [this]; rfl
 ·unfold l_eqIntS_L1
  dsimp only
  rw [if_pos (by rw [ilt_iff]; unfold ilen; omega), idx_at (List.getElem?_eq_getElem hk)]
  simp only [bind_some']
  rw [if_neg (by simp [ine]), iadd_eq _ _ (by omega)]
  rfl
 ·unfold l_eqIntS_L1
  dsimp only
  rw [if_neg (by rw [ilt_iff]; unfold ilen; omega)]
theorem toIntS_id (l : List Int) (hl : l.length ≤ 4000000) : l_toIntS l = some l := by
 unfold l_toIntS
 have hm : makex 8 (ilen l) (0 : Int) = some (List.replicate l.length 0) := by
  unfold makex ilen
  rw [if_pos (by simp; unfold maxLen; omega)]
  simp
 rw [hm, bind_some']
 have := up_loop (step := l_toIntS_L1 l) (s0 := ((0 : Int), List.replicate l.length (0 : Int))) l.length (fun k => ((k : Int), l.take k ++ List.replicate (l.length - k) 0)) l (by simp) (fun k hk => ?_) ?_
 ·rw [this]; rfl
 ·unfold l_toIntS_L1
  dsimp only
  have hr : List.replicate (l.length - k) (0 : Int) = 0 :: List.replicate (l.length - (k + 1)) 0 := by
   rw [show l.length - k = (l.length - (k + 1)) + 1 by omega, List.replicate_succ]
  have ht : (l.take k).length = k := by simp; omega
  rw [if_pos (by rw [ilt_iff]; unfold ilen; omega), idx_at (List.getElem?_eq_getElem hk), hr]
  simp only [bind_some', idx_cat _ _ _ k ht, setx_cat _ _ _ _ k ht]
  rw [iadd_eq _ _ (by omega), List.take_add_one, List.getElem?_eq_getElem hk]
  simp only [Option.toList_some, List.append_assoc, List.singleton_append]
  rfl
 ·unfold l_toIntS_L1
  dsimp only
  rw [if_neg (by rw [ilt_iff]; unfold ilen; omega)]
  simp
def mkN (s : Int) (n : Nat) : List Int := (List.range n).map fun k : Nat => s + (k : Int)
theorem mkN_succ (s : Int) (n : Nat) : mkN s (n + 1) = mkN s n ++ [s + (n : Int)] := by simp [mkN, List.range_succ]
@[simp] theorem mkN_len (s : Int) (n : Nat) : (mkN s n).length = n := by simp [mkN]
theorem markIntS_val (l : List Int) (s : Int) (hl : l.length ≤ 4000000) (hs : 0 ≤ s ∧ s ≤ 1000000000000) : l_markIntS l s = some (s + (l.length : Int), mkN s l.length) := by
 unfold l_markIntS
 have := up_loop (step := l_markIntS_L1) (s0 := (s, (0 : Int), l)) l.length (fun k => ((s + k : Int), (k : Int), mkN s k ++ l.drop k)) (s + (l.length : Int), mkN s l.length) (by simp [mkN]) (fun k hk => ?_) ?_
 ·rw [this]; rfl
 ·unfold l_markIntS_L1
  dsimp only
  have hc : l.drop k = l[k] :: l.drop (k + 1) := List.drop_eq_getElem_cons hk
  have hlen : (mkN s k ++ l.drop k).length = l.length := by simp; omega
  rw [if_pos (by rw [ilt_iff]; unfold ilen; rw [hlen]; omega), hc]
  have e1 : iadd .i64 (s + (k : Int)) 1 = s + ((k + 1 : Nat) : Int) := by rw [iadd_eq _ _ (by omega)]; omega
  have e6 : iadd .i64 (k : Int) 1 = ((k + 1 : Nat) : Int) := by rw [iadd_eq _ _ (by omega)]; rfl
  simp only [idx_cat _ _ _ k (mkN_len s k), setx_cat _ _ _ _ k (mkN_len s k), bind_some', e1, e6]
  rw [mkN_succ, List.append_assoc]
  rfl
 ·unfold l_markIntS_L1
  dsimp only
  rw [List.drop_length, List.append_nil, if_neg (by rw [ilt_iff]; unfold ilen; rw [mkN_len]; omega)]
theorem heldIntS_val (n : Nat) (s : Int) (hn : n ≤ 4000000) (hs : 0 ≤ s ∧ s ≤ 1000000000000) : l_heldIntS (mkN s n) s = some (s + (n : Int)) := by
 unfold l_heldIntS
 have := up_loop (step := l_heldIntS_L1 (mkN s n)) (s0 := (s, (0 : Int))) n (fun k => ((s + k : Int), (k : Int))) (.inl (s + (n : Int))) (by simp) (fun k hk => ?_) ?_
 ·rw [this]; rfl
 ·unfold l_heldIntS_L1
  dsimp only
  have hx : idx (mkN s n) (k : Int) = some (s + k : Int) := idx_at (by simp [mkN, hk])
  have e1 : iadd .i64 (s + (k : Int)) 1 = s + ((k + 1 : Nat) : Int) := by rw [iadd_eq _ _ (by omega)]; omega
  have e6 : iadd .i64 (k : Int) 1 = ((k + 1 : Nat) : Int) := by rw [iadd_eq _ _ (by omega)]; rfl
  rw [if_pos (by rw [ilt_iff]; unfold ilen; rw [mkN_len]; omega), hx]
  simp only [bind_some', e1, e6]
  rw [if_neg (by simp [ine])]
 ·unfold l_heldIntS_L1
  dsimp only
  rw [if_neg (by rw [ilt_iff]; unfold ilen; rw [mkN_len]; omega)]
theorem szIntS_val (l : List Int) (s : Int) (hl : l.length ≤ maxLen) (hs : 0 ≤ s ∧ s ≤ 1048576) : l_szIntS l s = some (if s < l.length then -1 else s - l.length) := by
 unfold l_szIntS
 have e : isub .i64 s (ilen l) = s - l.length := by rw [isub_eq _ _ (by unfold ilen; unfold maxLen at hl; omega)]; rfl
 rw [e]
 by_cases h : s < l.length
 ·rw [if_pos (by rw [ilt_iff]; omega), if_pos h]
 ·rw [if_neg (by rw [ilt_iff]; omega), if_neg h]

/-! words -/
def isW (x : Int) : Bool := decide (-2147483648 ≤ x) && decide (x ≤ 2147483647)
theorem s_WordValid_val (x : Int) : s_WordValid x = some (isW x) := by
 unfold s_WordValid s_l6In
 simp only [if_and, bind_some', bind_id]
 rfl
theorem i_WordValid_val (x : Int) : i_WordValid x = some (isW x) := by
 unfold i_WordValid
 simp only [if_and, bind_some', bind_id]
 rfl
theorem i_areWords_val (l : List Int) (hl : l.length ≤ maxLen) : i_areWords l = some (l.all isW) := by
 unfold i_areWords
 unfold maxLen at hl
 have := all_loop (step := i_areWords_L1 l) l isW (.inl ()) (.inr false) (fun k hk => ?_) ?_
 ·rw [this]; cases l.all isW <;> rfl
 ·unfold i_areWords_L1
  dsimp only
  rw [if_pos (by rw [ilt_iff]; unfold ilen; omega), idx_at (List.getElem?_eq_getElem hk)]
  simp only [bind_some', i_WordValid_val]
  rw [iadd_eq _ _ (by omega)]
  cases isW l[k] <;> rfl
 ·unfold i_areWords_L1
  dsimp only
  rw [if_neg (by rw [ilt_iff]; unfold ilen; omega)]
theorem s_l4Words_val (l : List Int) (n : Int) (hl : l.length ≤ maxLen) : s_l4Words l n = some (decide ((l.length : Int) = n) && l.all isW) := by
 unfold s_l4Words
 unfold maxLen at hl
 by_cases hn : (l.length : Int) = n
 ·rw [if_neg (by rw [ine_iff]; simpa [ilen] using hn)]
  have := all_loop (step := s_l4Words_L1 l) l isW (.inl ()) (.inr false) (fun k hk => ?_) ?_
  ·rw [this]; simp only [hn, decide_true, Bool.true_and]
   cases l.all isW <;> rfl
  ·unfold s_l4Words_L1
   dsimp only
   rw [if_pos (by rw [ilt_iff]; unfold ilen; omega), idx_at (List.getElem?_eq_getElem hk)]
   simp only [bind_some', s_WordValid_val]
   rw [iadd_eq _ _ (by omega)]
   cases isW l[k] <;> rfl
  ·unfold s_l4Words_L1
   dsimp only
   rw [if_neg (by rw [ilt_iff]; unfold ilen; omega)]
 ·rw [if_pos (by rw [ine_iff]; simpa [ilen] using hn)]
  simp [hn]
theorem appx_nil' (l : List Int) (hl : l.length ≤ 4000000) : appx 8 ([] : List Int) l = some l := by
 rw [appx_ok 8 [] l (by simp; unfold maxLen; omega)]; rfl
theorem clone_id (l : List Int) (hl : l.length ≤ 4000000) : slices_Clone_int_int l = some l := by
 unfold slices_Clone_int_int
 rw [if_neg (by decide), appx_nil' l hl]; rfl
end Go.Abs
