/- What a walk uses: a function's entry, and the rules by which its regions are run. -/
import Derived.Test.YtoklfbdcghgmlaaNAbs14
set_option linter.unusedSimpArgs false
set_option linter.unusedVariables false
namespace Go.Abs
open Go Go.RowKit

def retQ (T : Types) (R' : AV → AHeap → Prop) (rs : List ResultVar) : Ex → AAct → AHeap → Prop
  | .exit _, _, _ => False
  | _, a, σ => ∃ vs, resA T σ a rs = some vs ∧ R' (tupA vs) σ

def argsA : Nat → List AV → AAct
  | _, [] => []
  | k, v :: l => (k, v) :: argsA (k + 1) l

theorem argsA_eq (l : List AV) : ∀ k, argsA k l = (List.range' k l.length).zip l := by
  induction l with
  | nil => intro k; rfl
  | cons x l ih => intro k; simp [argsA, ih, List.range'_succ]

theorem ACalls_fn {P : Program} {G : Globs} {T : Types} (hT : TOk P T) {f : FuncId} {fn : Func} {c : Code} {args : List AV} {R' : AV → AHeap → Prop} {σ : AHeap} {nt : Nat} {rs : Array ResultVar} (hf : P.funcs[f]? = some fn)
    (hname : (fn.name == "runtime.NumGoroutine") = false) (hb : fn.body = some c) (hn : fn.ntmps = nt) (hr : fn.results = rs) (hargs : Nat.ble args.length nt = true)
    (h : AWP P G nt σ.next c (retQ T R' rs.toList) (argsA 0 args) σ) : ACalls P G f args σ R' := by
  subst hn; subst hr
  refine ACalls_body hT hf hname hb (Nat.le_of_ble_eq_true hargs) ?_
  rw [argsA_eq, ← List.range_eq_range'] at h
  exact h.mono fun x a σ hq => by cases x <;> exact hq

theorem AWP_loopk {P : Program} {G : Globs} {n N : Nat} {Q : Ex → AAct → AHeap → Prop} {a : AAct} {σ : AHeap} {c : Code} (l : List Nat) (I : Nat → AAct → AHeap → Prop) (m : Nat) (h0 : I m (a.keep l) σ)
    (round : ∀ m a σ, I m a σ → AWP P G n N c (thenQ (fun a' σ' => ∃ m', m' < m ∧ I m' (a'.keep l) σ') Q) a σ) : AWP P G n N (.loop c) Q a σ :=
  AWP_loop (fun m a σ => I m (a.keep l) σ) m h0 fun m a σ h => AWP_keep l (round m _ σ h)

/-- a sequence with what holds in between -/
theorem AWP_mid {P : Program} {G : Globs} {n N : Nat} {Q : Ex → AAct → AHeap → Prop} {a : AAct} {σ : AHeap} {x y : Code} (l : List Nat) (I : AAct → AHeap → Prop) (h : AWP P G n N x (thenQ (fun a σ => I (a.keep l) σ) Q) a σ)
    (k : ∀ a σ, I a σ → AWP P G n N y Q a σ) : AWP P G n N (.seq x y) Q a σ :=
  AWP_seq (h.mono fun x a σ hq => by
    cases x with
    | normal => exact AWP_keep l (k _ σ hq)
    | exit id => exact hq
    | ret => exact hq)

end Go.Abs
