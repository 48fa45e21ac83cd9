/- Lists of numbers: copied, compared, marked, held; loops that look at each element. -/
import Derived.Test.YtlcilhmkbmgkeaaDoorNWordsN
import Derived.Test.YtlcilhmkbmgkeaaDoorNUp
set_option linter.unusedSimpArgs false
set_option linter.unusedVariables false
set_option maxHeartbeats 4000000
namespace Go.Abs
open Go

theorem all_loop {α E : Type} {step : Int → Option (Flow Int E)} (l : List α) (W : α → Bool) (e0 e1 : E) (h : ∀ k (hk : k < l.length), step (k : Int) = some (if W l[k] = true then .next ((k + 1 : Nat) : Int) else .done e1)) (hd : step (l.length : Int) = some (.done e0)) :
    loopM step 0 = some (if l.all W = true then e0 else e1) := by
  have key : ∀ m k, k + m = l.length → loopM step (k : Int) = some (if (l.drop k).all W = true then e0 else e1) := by
    intro m
    induction m with
    | zero =>
      intro k hk
      obtain rfl : k = l.length := by omega
      rw [List.drop_length]
      exact loopM_done hd
    | succ m ih =>
      intro k hk
      have hlt : k < l.length := by omega
      rw [List.drop_eq_getElem_cons hlt, List.all_cons]
      by_cases hw : W l[k] = true
      · rw [loopM_next (by rw [h k hlt, if_pos hw]), ih (k + 1) (by omega), hw, Bool.true_and]
      · rw [loopM_done (by rw [h k hlt, if_neg hw])]
        rw [if_neg (by simp [hw])]
  have := key l.length 0 (by omega)
  simpa using this

/-! words -/
def isW (x : Int) : Bool := decide (-2147483648 ≤ x) && decide (x ≤ 2147483647)
theorem i_WordValid_val (x : Int) : i_WordValid x = some (isW x) := by
  unfold i_WordValid
  simp only [if_and, bind_some', bind_id]
  rfl
theorem i_areWords_val (l : List Int) (hl : l.length ≤ maxLen) : i_areWords l = some (l.all isW) := by
  unfold i_areWords
  unfold maxLen at hl
  have := all_loop (step := i_areWords_L1 l) l isW (.inl ()) (.inr false) (fun k hk => ?_) ?_
  · rw [this]; cases l.all isW <;> rfl
  · unfold i_areWords_L1
    dsimp only
    rw [if_pos (by rw [ilt_iff]; unfold ilen; omega), idx_at (List.getElem?_eq_getElem hk)]
    simp only [bind_some', i_WordValid_val]
    rw [iadd_eq _ _ (by omega)]
    cases isW l[k] <;> rfl
  · unfold i_areWords_L1
    dsimp only
    rw [if_neg (by rw [ilt_iff]; unfold ilen; omega)]
end Go.Abs
