/- Loops that count up; lists that are written from their start. -/
import Derived.Test.YtlcilhmkbmgkeaaDoorNNum
set_option linter.unusedSimpArgs false
set_option linter.unusedVariables false
namespace Go.Abs
open Go

theorem up_loop {S E : Type} {step : S → Option (Flow S E)} {s0 : S} (n : Nat) (s : Nat → S) (e : E) (h0 : s0 = s 0) (h : ∀ k, k < n → step (s k) = some (.next (s (k + 1)))) (hd : step (s n) = some (.done e)) : loopM step s0 = some e := by
  subst h0
  have key : ∀ m k, k + m = n → loopM step (s k) = some e := by
    intro m
    induction m with
    | zero =>
      intro k hk
      obtain rfl : k = n := by omega
      exact loopM_done hd
    | succ m ih => intro k hk; rw [loopM_next (h k (by omega))]; exact ih (k + 1) (by omega)
  exact key n 0 (by omega)

theorem idx_at {α : Type} {l : List α} {k : Nat} {x : α} (h : l[k]? = some x) : idx l (k : Int) = some x := by
  rw [idx_iff]; exact ⟨by omega, by simpa using h⟩
end Go.Abs
