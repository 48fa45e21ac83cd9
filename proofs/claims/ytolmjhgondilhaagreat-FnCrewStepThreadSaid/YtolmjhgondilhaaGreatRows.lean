/-
  No cell of these rows narrows 'for every input' (looked for: loops, veiled, ifaces, maps, wideKeys, modest, calm, conditions, laid).
  DERIVED. THE GIVEN ROWS OF THIS SEAT. 9 by the template 'for every input the law returns true; each argument reads behind the call as it read before'; 0 by the template 'total and deterministic' (their statements: YtolmjhgondilhaaGreatTotals.lean).
  GIVEN WITH THE SEED: the statements are not yours to turn. If you find one false, say at which input.
  Laid BY PROGRAM, IN A SANDBOX (cutbox-rows.mjs): the forced cells as the released guide's own fill.sh prints them over the translation 347a65eedb968085… (all of the seat's roots in one cut). By AI agents, Wed Nov 11 2026. No macro, syntax, notation, axiom, sorry.
-/
import Derived.Test.YtolmjhgondilhaaGreatChecked
import GoSem.Claim
import GoSem.ClaimJoined
import GoSem.ClaimMapViews
import Derived.JoinedTies
import Derived.KernelRfl
namespace Go.Proofs.YtolmjhgondilhaaGreat
/- THE CELL 'sum', in the pinned program and in every row, IS THE sha256 OF THE DUMP (.gsa) THAT YtolmjhgondilhaaGreatProg.lean LOADS. Nothing in Lean hashes anything: it is a label: what it is worth is what the hold of that sum in a sandbox is worth. -/
noncomputable def Tryz.pinned : Pinned := { name := "ytolmjhgondilhaagreat", sum := "347a65eedb9680851644ccff66c5b2ae8c3fd9ccda2da1879ef3be9e6033cef5", checked := Tryz.checked }
namespace Rows
def none {H : Type} : Left H := { results := [], args := [] }

/-- 'laws.FnCrewSame': WHATEVER THE INPUT: true; the input reads as it did. -/
def fnCrewSameSpec : ChangeSpec := { name := "fnCrewSame", fn := fun _ => fun
  | [d1, d2] => { results := [.lit (.bool true)], args := [d1, d2] }
  | _ => none }
def fnCrewSameRow : OpenClaim := { program := "ytolmjhgondilhaagreat", sum := "347a65eedb9680851644ccff66c5b2ae8c3fd9ccda2da1879ef3be9e6033cef5", func := "loop.example/cothreads/laws.FnCrewSame", spec := "fnCrewSame", unfollowed := true, recurses := true, apart := false }
def FnCrewSameSaid : Prop := fnCrewSameRow.holds Tryz.pinned (OpenSpec.ofChange fnCrewSameSpec)

/-- ITS FALSE NEIGHBOUR: 'it returns false'. Refute it at one input. -/
def fnCrewSameWrong : ChangeSpec := { name := "fnCrewSame", fn := fun _ => fun
  | [d1, d2] => { results := [.lit (.bool false)], args := [d1, d2] }
  | _ => none }
def FnCrewSameWrongFalsely : Prop := fnCrewSameRow.holds Tryz.pinned (OpenSpec.ofChange fnCrewSameWrong)

/-- 'laws.FnReachRun': WHATEVER THE INPUT: true; the input reads as it did. -/
def fnReachRunSpec : ChangeSpec := { name := "fnReachRun", fn := fun _ => fun
  | [d1, d2] => { results := [.lit (.bool true)], args := [d1, d2] }
  | _ => none }
def fnReachRunRow : OpenClaim := { program := "ytolmjhgondilhaagreat", sum := "347a65eedb9680851644ccff66c5b2ae8c3fd9ccda2da1879ef3be9e6033cef5", func := "loop.example/cothreads/laws.FnReachRun", spec := "fnReachRun", unfollowed := true, recurses := true, apart := false }
def FnReachRunSaid : Prop := fnReachRunRow.holds Tryz.pinned (OpenSpec.ofChange fnReachRunSpec)

/-- ITS FALSE NEIGHBOUR: 'it returns false'. Refute it at one input. -/
def fnReachRunWrong : ChangeSpec := { name := "fnReachRun", fn := fun _ => fun
  | [d1, d2] => { results := [.lit (.bool false)], args := [d1, d2] }
  | _ => none }
def FnReachRunWrongFalsely : Prop := fnReachRunRow.holds Tryz.pinned (OpenSpec.ofChange fnReachRunWrong)

/-- 'laws.FnLiveChange': WHATEVER THE INPUT: true; the input reads as it did. -/
def fnLiveChangeSpec : ChangeSpec := { name := "fnLiveChange", fn := fun _ => fun
  | [d1, d2] => { results := [.lit (.bool true)], args := [d1, d2] }
  | _ => none }
def fnLiveChangeRow : OpenClaim := { program := "ytolmjhgondilhaagreat", sum := "347a65eedb9680851644ccff66c5b2ae8c3fd9ccda2da1879ef3be9e6033cef5", func := "loop.example/cothreads/laws.FnLiveChange", spec := "fnLiveChange", unfollowed := true, recurses := true, apart := false }
def FnLiveChangeSaid : Prop := fnLiveChangeRow.holds Tryz.pinned (OpenSpec.ofChange fnLiveChangeSpec)

/-- ITS FALSE NEIGHBOUR: 'it returns false'. Refute it at one input. -/
def fnLiveChangeWrong : ChangeSpec := { name := "fnLiveChange", fn := fun _ => fun
  | [d1, d2] => { results := [.lit (.bool false)], args := [d1, d2] }
  | _ => none }
def FnLiveChangeWrongFalsely : Prop := fnLiveChangeRow.holds Tryz.pinned (OpenSpec.ofChange fnLiveChangeWrong)

/-- 'laws.FnDeadRun': WHATEVER THE INPUT: true; the input reads as it did. -/
def fnDeadRunSpec : ChangeSpec := { name := "fnDeadRun", fn := fun _ => fun
  | [d1, d2] => { results := [.lit (.bool true)], args := [d1, d2] }
  | _ => none }
def fnDeadRunRow : OpenClaim := { program := "ytolmjhgondilhaagreat", sum := "347a65eedb9680851644ccff66c5b2ae8c3fd9ccda2da1879ef3be9e6033cef5", func := "loop.example/cothreads/laws.FnDeadRun", spec := "fnDeadRun", unfollowed := true, recurses := true, apart := false }
def FnDeadRunSaid : Prop := fnDeadRunRow.holds Tryz.pinned (OpenSpec.ofChange fnDeadRunSpec)

/-- ITS FALSE NEIGHBOUR: 'it returns false'. Refute it at one input. -/
def fnDeadRunWrong : ChangeSpec := { name := "fnDeadRun", fn := fun _ => fun
  | [d1, d2] => { results := [.lit (.bool false)], args := [d1, d2] }
  | _ => none }
def FnDeadRunWrongFalsely : Prop := fnDeadRunRow.holds Tryz.pinned (OpenSpec.ofChange fnDeadRunWrong)

/-- 'laws.FnJumpRun': WHATEVER THE INPUT: true; the input reads as it did. -/
def fnJumpRunSpec : ChangeSpec := { name := "fnJumpRun", fn := fun _ => fun
  | [d] => { results := [.lit (.bool true)], args := [d] }
  | _ => none }
def fnJumpRunRow : OpenClaim := { program := "ytolmjhgondilhaagreat", sum := "347a65eedb9680851644ccff66c5b2ae8c3fd9ccda2da1879ef3be9e6033cef5", func := "loop.example/cothreads/laws.FnJumpRun", spec := "fnJumpRun", unfollowed := true, recurses := true, apart := false }
def FnJumpRunSaid : Prop := fnJumpRunRow.holds Tryz.pinned (OpenSpec.ofChange fnJumpRunSpec)

/-- ITS FALSE NEIGHBOUR: 'it returns false'. Refute it at one input. -/
def fnJumpRunWrong : ChangeSpec := { name := "fnJumpRun", fn := fun _ => fun
  | [d] => { results := [.lit (.bool false)], args := [d] }
  | _ => none }
def FnJumpRunWrongFalsely : Prop := fnJumpRunRow.holds Tryz.pinned (OpenSpec.ofChange fnJumpRunWrong)

/-- 'laws.FnCrewRun': WHATEVER THE INPUT: true; the input reads as it did. -/
def fnCrewRunSpec : ChangeSpec := { name := "fnCrewRun", fn := fun _ => fun
  | [d1, d2] => { results := [.lit (.bool true)], args := [d1, d2] }
  | _ => none }
def fnCrewRunRow : OpenClaim := { program := "ytolmjhgondilhaagreat", sum := "347a65eedb9680851644ccff66c5b2ae8c3fd9ccda2da1879ef3be9e6033cef5", func := "loop.example/cothreads/laws.FnCrewRun", spec := "fnCrewRun", unfollowed := true, recurses := true, apart := false }
def FnCrewRunSaid : Prop := fnCrewRunRow.holds Tryz.pinned (OpenSpec.ofChange fnCrewRunSpec)

/-- ITS FALSE NEIGHBOUR: 'it returns false'. Refute it at one input. -/
def fnCrewRunWrong : ChangeSpec := { name := "fnCrewRun", fn := fun _ => fun
  | [d1, d2] => { results := [.lit (.bool false)], args := [d1, d2] }
  | _ => none }
def FnCrewRunWrongFalsely : Prop := fnCrewRunRow.holds Tryz.pinned (OpenSpec.ofChange fnCrewRunWrong)

/-- 'laws.FnCrewRunOne': WHATEVER THE INPUT: true; the input reads as it did. -/
def fnCrewRunOneSpec : ChangeSpec := { name := "fnCrewRunOne", fn := fun _ => fun
  | [d] => { results := [.lit (.bool true)], args := [d] }
  | _ => none }
def fnCrewRunOneRow : OpenClaim := { program := "ytolmjhgondilhaagreat", sum := "347a65eedb9680851644ccff66c5b2ae8c3fd9ccda2da1879ef3be9e6033cef5", func := "loop.example/cothreads/laws.FnCrewRunOne", spec := "fnCrewRunOne", unfollowed := true, recurses := true, apart := false }
def FnCrewRunOneSaid : Prop := fnCrewRunOneRow.holds Tryz.pinned (OpenSpec.ofChange fnCrewRunOneSpec)

/-- ITS FALSE NEIGHBOUR: 'it returns false'. Refute it at one input. -/
def fnCrewRunOneWrong : ChangeSpec := { name := "fnCrewRunOne", fn := fun _ => fun
  | [d] => { results := [.lit (.bool false)], args := [d] }
  | _ => none }
def FnCrewRunOneWrongFalsely : Prop := fnCrewRunOneRow.holds Tryz.pinned (OpenSpec.ofChange fnCrewRunOneWrong)

/-- 'laws.FnCrewStep': WHATEVER THE INPUT: true; the input reads as it did. -/
def fnCrewStepSpec : ChangeSpec := { name := "fnCrewStep", fn := fun _ => fun
  | [d] => { results := [.lit (.bool true)], args := [d] }
  | _ => none }
def fnCrewStepRow : OpenClaim := { program := "ytolmjhgondilhaagreat", sum := "347a65eedb9680851644ccff66c5b2ae8c3fd9ccda2da1879ef3be9e6033cef5", func := "loop.example/cothreads/laws.FnCrewStep", spec := "fnCrewStep", unfollowed := true, recurses := true, apart := false }
def FnCrewStepSaid : Prop := fnCrewStepRow.holds Tryz.pinned (OpenSpec.ofChange fnCrewStepSpec)

/-- ITS FALSE NEIGHBOUR: 'it returns false'. Refute it at one input. -/
def fnCrewStepWrong : ChangeSpec := { name := "fnCrewStep", fn := fun _ => fun
  | [d] => { results := [.lit (.bool false)], args := [d] }
  | _ => none }
def FnCrewStepWrongFalsely : Prop := fnCrewStepRow.holds Tryz.pinned (OpenSpec.ofChange fnCrewStepWrong)

/-- 'laws.FnCrewStepThread': WHATEVER THE INPUT: true; the input reads as it did. -/
def fnCrewStepThreadSpec : ChangeSpec := { name := "fnCrewStepThread", fn := fun _ => fun
  | [d] => { results := [.lit (.bool true)], args := [d] }
  | _ => none }
def fnCrewStepThreadRow : OpenClaim := { program := "ytolmjhgondilhaagreat", sum := "347a65eedb9680851644ccff66c5b2ae8c3fd9ccda2da1879ef3be9e6033cef5", func := "loop.example/cothreads/laws.FnCrewStepThread", spec := "fnCrewStepThread", unfollowed := true, recurses := true, apart := false }
def FnCrewStepThreadSaid : Prop := fnCrewStepThreadRow.holds Tryz.pinned (OpenSpec.ofChange fnCrewStepThreadSpec)

/-- ITS FALSE NEIGHBOUR: 'it returns false'. Refute it at one input. -/
def fnCrewStepThreadWrong : ChangeSpec := { name := "fnCrewStepThread", fn := fun _ => fun
  | [d] => { results := [.lit (.bool false)], args := [d] }
  | _ => none }
def FnCrewStepThreadWrongFalsely : Prop := fnCrewStepThreadRow.holds Tryz.pinned (OpenSpec.ofChange fnCrewStepThreadWrong)

/- THE SECOND FORM. 'bulk': how many values and letters a reading holds, each counted each time it is reached (what is shared counts as often as it is met; a slice's spare places count too). A statement '..UptoSaid' is the law's where the arguments, and the package variables that the reading takes, are together of bulk at most 1048576: NARROWER than '..Said'. Prove '..Said' where nothing that the law and all that it calls make is longer than what came in: it says more and counts as full. Else prove '..UptoSaid'. A law counts once. -/
mutual
def uptoBulk {H : Type} : DataW H → Nat
  | .lit (.string bytes) => bytes.length + 1
  | .lit _ => 1
  | .nil => 1
  | .ptr d => uptoBulk d + 1
  | .slice elems spare => uptoBulkAll elems + uptoBulkAll spare + 1
  | .agg parts => uptoBulkAll parts + 1
  | .iface _ d => uptoBulk d + 1
  | .map entries => uptoBulkEntries entries + 1
  | .held _ => 1
def uptoBulkAll {H : Type} : List (DataW H) → Nat
  | [] => 0
  | d :: r => uptoBulk d + uptoBulkAll r
def uptoBulkEntries {H : Type} : List (Lit × DataW H) → Nat
  | [] => 0
  | x :: r => uptoBulkEntry x + uptoBulkEntries r
def uptoBulkEntry {H : Type} : Lit × DataW H → Nat
  | (.string bytes, d) => bytes.length + uptoBulk d + 1
  | (_, d) => uptoBulk d + 1
 end
def uptoSmall : (H : Type) → List (DataW H) → Bool := fun _ ds => decide (uptoBulkAll ds ≤ 1048576)
def OpenSpec.upto (s : _root_.Go.ChangeSpec) : _root_.Go.OpenSpec := { _root_.Go.OpenSpec.ofChange s with cond := some uptoSmall }

/-- 'laws.FnCrewSame', WHERE WHAT IT READS IS OF BULK AT MOST 1048576: true; the input reads as it did. -/
def fnCrewSameUptoRow : OpenClaim := { program := "ytolmjhgondilhaagreat", sum := "347a65eedb9680851644ccff66c5b2ae8c3fd9ccda2da1879ef3be9e6033cef5", func := "loop.example/cothreads/laws.FnCrewSame", spec := "fnCrewSame", unfollowed := true, recurses := true, apart := false, narrowed := true }
def FnCrewSameUptoSaid : Prop := fnCrewSameUptoRow.holds Tryz.pinned (OpenSpec.upto fnCrewSameSpec)

/-- 'laws.FnReachRun', WHERE WHAT IT READS IS OF BULK AT MOST 1048576: true; the input reads as it did. -/
def fnReachRunUptoRow : OpenClaim := { program := "ytolmjhgondilhaagreat", sum := "347a65eedb9680851644ccff66c5b2ae8c3fd9ccda2da1879ef3be9e6033cef5", func := "loop.example/cothreads/laws.FnReachRun", spec := "fnReachRun", unfollowed := true, recurses := true, apart := false, narrowed := true }
def FnReachRunUptoSaid : Prop := fnReachRunUptoRow.holds Tryz.pinned (OpenSpec.upto fnReachRunSpec)

/-- 'laws.FnLiveChange', WHERE WHAT IT READS IS OF BULK AT MOST 1048576: true; the input reads as it did. -/
def fnLiveChangeUptoRow : OpenClaim := { program := "ytolmjhgondilhaagreat", sum := "347a65eedb9680851644ccff66c5b2ae8c3fd9ccda2da1879ef3be9e6033cef5", func := "loop.example/cothreads/laws.FnLiveChange", spec := "fnLiveChange", unfollowed := true, recurses := true, apart := false, narrowed := true }
def FnLiveChangeUptoSaid : Prop := fnLiveChangeUptoRow.holds Tryz.pinned (OpenSpec.upto fnLiveChangeSpec)

/-- 'laws.FnDeadRun', WHERE WHAT IT READS IS OF BULK AT MOST 1048576: true; the input reads as it did. -/
def fnDeadRunUptoRow : OpenClaim := { program := "ytolmjhgondilhaagreat", sum := "347a65eedb9680851644ccff66c5b2ae8c3fd9ccda2da1879ef3be9e6033cef5", func := "loop.example/cothreads/laws.FnDeadRun", spec := "fnDeadRun", unfollowed := true, recurses := true, apart := false, narrowed := true }
def FnDeadRunUptoSaid : Prop := fnDeadRunUptoRow.holds Tryz.pinned (OpenSpec.upto fnDeadRunSpec)

/-- 'laws.FnJumpRun', WHERE WHAT IT READS IS OF BULK AT MOST 1048576: true; the input reads as it did. -/
def fnJumpRunUptoRow : OpenClaim := { program := "ytolmjhgondilhaagreat", sum := "347a65eedb9680851644ccff66c5b2ae8c3fd9ccda2da1879ef3be9e6033cef5", func := "loop.example/cothreads/laws.FnJumpRun", spec := "fnJumpRun", unfollowed := true, recurses := true, apart := false, narrowed := true }
def FnJumpRunUptoSaid : Prop := fnJumpRunUptoRow.holds Tryz.pinned (OpenSpec.upto fnJumpRunSpec)

/-- 'laws.FnCrewRun', WHERE WHAT IT READS IS OF BULK AT MOST 1048576: true; the input reads as it did. -/
def fnCrewRunUptoRow : OpenClaim := { program := "ytolmjhgondilhaagreat", sum := "347a65eedb9680851644ccff66c5b2ae8c3fd9ccda2da1879ef3be9e6033cef5", func := "loop.example/cothreads/laws.FnCrewRun", spec := "fnCrewRun", unfollowed := true, recurses := true, apart := false, narrowed := true }
def FnCrewRunUptoSaid : Prop := fnCrewRunUptoRow.holds Tryz.pinned (OpenSpec.upto fnCrewRunSpec)

/-- 'laws.FnCrewRunOne', WHERE WHAT IT READS IS OF BULK AT MOST 1048576: true; the input reads as it did. -/
def fnCrewRunOneUptoRow : OpenClaim := { program := "ytolmjhgondilhaagreat", sum := "347a65eedb9680851644ccff66c5b2ae8c3fd9ccda2da1879ef3be9e6033cef5", func := "loop.example/cothreads/laws.FnCrewRunOne", spec := "fnCrewRunOne", unfollowed := true, recurses := true, apart := false, narrowed := true }
def FnCrewRunOneUptoSaid : Prop := fnCrewRunOneUptoRow.holds Tryz.pinned (OpenSpec.upto fnCrewRunOneSpec)

/-- 'laws.FnCrewStep', WHERE WHAT IT READS IS OF BULK AT MOST 1048576: true; the input reads as it did. -/
def fnCrewStepUptoRow : OpenClaim := { program := "ytolmjhgondilhaagreat", sum := "347a65eedb9680851644ccff66c5b2ae8c3fd9ccda2da1879ef3be9e6033cef5", func := "loop.example/cothreads/laws.FnCrewStep", spec := "fnCrewStep", unfollowed := true, recurses := true, apart := false, narrowed := true }
def FnCrewStepUptoSaid : Prop := fnCrewStepUptoRow.holds Tryz.pinned (OpenSpec.upto fnCrewStepSpec)

/-- 'laws.FnCrewStepThread', WHERE WHAT IT READS IS OF BULK AT MOST 1048576: true; the input reads as it did. -/
def fnCrewStepThreadUptoRow : OpenClaim := { program := "ytolmjhgondilhaagreat", sum := "347a65eedb9680851644ccff66c5b2ae8c3fd9ccda2da1879ef3be9e6033cef5", func := "loop.example/cothreads/laws.FnCrewStepThread", spec := "fnCrewStepThread", unfollowed := true, recurses := true, apart := false, narrowed := true }
def FnCrewStepThreadUptoSaid : Prop := fnCrewStepThreadUptoRow.holds Tryz.pinned (OpenSpec.upto fnCrewStepThreadSpec)

end Rows
end Go.Proofs.YtolmjhgondilhaaGreat
