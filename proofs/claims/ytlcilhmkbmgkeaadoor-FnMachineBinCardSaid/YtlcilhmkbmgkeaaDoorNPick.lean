/- The reader of a code: each pick ends, and lies in its range. -/
import Derived.Test.YtlcilhmkbmgkeaaDoorNDM
import Derived.Test.YtlcilhmkbmgkeaaDoorNNum
set_option linter.unusedSimpArgs false
set_option linter.unusedVariables false
namespace Go.Abs
open Go

def Bytes (l : List Int) : Prop := ∀ x ∈ l, 0 ≤ x ∧ x < 256
def Rd (b : List Int) (k : Int) (r : gL6Rd) : Prop := r.b = b ∧ 0 ≤ r.p ∧ r.p ≤ k

theorem pick_ok {b : List Int} (hb : Bytes b) (hl : b.length ≤ 1048576) {k : Int} (hk : k ≤ 1000000) {r : gL6Rd} (hr : Rd b k r) {n : Int} (h1 : 1 ≤ n) (h2 : n ≤ 1000000) :
    ∃ v r', s_l6Rd_pick r n = some (v, r') ∧ Rd b (k + 1) r' ∧ 0 ≤ v ∧ v < n := by
  obtain ⟨rb, p⟩ := r
  obtain ⟨h3, h4, h5⟩ := hr
  simp only at h3 h4 h5
  subst h3
  unfold s_l6Rd_pick
  dsimp only
  have e1 : iadd .i64 p 1 = p + 1 := iadd_eq _ _ (by omega)
  have e2 : isub .i64 (p + 1) 1 = p := by rw [isub_eq _ _ (by omega)]; omega
  rw [e1, e2]
  rw [if_neg (by rw [ilt_iff]; omega), bind_some']
  split
  · exact ⟨_, _, rfl, ⟨rfl, by simp; omega, by simp; omega⟩, by omega, by omega⟩
  rename_i h0
  have h0 : 0 < rb.length := by
    rcases Nat.eq_zero_or_pos rb.length with h | h
    · exact absurd (by simp [ieq, ilen, h]) h0
    · exact h
  split
  · rename_i hlt
    rw [ilt_iff] at hlt
    obtain ⟨v, hv, hm⟩ := idx_ok rb p h4 hlt
    have hq := hb v hm
    rw [hv, bind_some', iconv_eq v (by omega), remx_eq v n (by omega) (by omega), bind_some']
    exact ⟨_, _, rfl, ⟨rfl, by simp; omega, by simp; omega⟩, Int.emod_nonneg _ (by omega), Int.emod_lt_of_pos _ (by omega)⟩
  · have hil : (0 : Int) < ilen rb := by unfold ilen; omega
    have hil' : ilen rb ≤ 1048576 := by unfold ilen; omega
    rw [remx_eq p _ h4 hil, bind_some']
    obtain ⟨v5, hv5, hm5⟩ := idx_ok rb (p % ilen rb) (Int.emod_nonneg _ (by omega)) (Int.emod_lt_of_pos _ hil)
    have q5 := hb v5 hm5
    rw [hv5, bind_some']
    rw [imul_eq p 7 (by omega), iadd_eq (p * 7) 3 (by omega), remx_eq _ _ (by omega) hil, bind_some']
    obtain ⟨v7, hv7, hm7⟩ := idx_ok rb ((p * 7 + 3) % ilen rb) (Int.emod_nonneg _ (by omega)) (Int.emod_lt_of_pos _ hil)
    have q7 := hb v7 hm7
    rw [hv7, bind_some', quox_eq p _ h4 (by omega) hil, bind_some']
    have q8 : 0 ≤ p / ilen rb := Int.ediv_nonneg h4 (by omega)
    have q8' : p / ilen rb ≤ p := Int.ediv_le_self _ h4
    generalize p / ilen rb = v8 at q8 q8'
    rw [iconv_eq v5 (by omega), iconv_eq v7 (by omega), imul_eq v5 131 (by omega), imul_eq v7 1117 (by omega), iadd_eq (v5 * 131) (v7 * 1117) (by omega), imul_eq p 29 (by omega), iadd_eq (v5 * 131 + v7 * 1117) (p * 29) (by omega),
      imul_eq v8 53 (by omega), iadd_eq (v5 * 131 + v7 * 1117 + p * 29) (v8 * 53) (by omega)]
    generalize hx : v5 * 131 + v7 * 1117 + p * 29 + v8 * 53 = x
    have x0 : 0 ≤ x := by omega
    have x1 : x ≤ 1000000000 := by omega
    rw [quox_eq x 64 x0 (by omega) (by omega), bind_some']
    have x2 : 0 ≤ x / 64 := by omega
    rw [ixor_eq x (x / 64) x0 (by omega) x2 (by omega), remx_eq _ n (by omega) (by omega), bind_some']
    exact ⟨_, _, rfl, ⟨rfl, by simp; omega, by simp; omega⟩, Int.emod_nonneg _ (by omega), Int.emod_lt_of_pos _ (by omega)⟩
end Go.Abs
