/-
  No cell of these rows narrows 'for every input' (looked for: loops, veiled, ifaces, maps, wideKeys, modest, calm, conditions, laid).
  DERIVED. THE GIVEN ROWS OF THIS SEAT. 5 by the template 'for every input the law returns true; each argument reads behind the call as it read before'; 0 by the template 'total and deterministic' (their statements: YtoklfbdcghgmlaaTotals.lean).
  GIVEN WITH THE SEED: the statements are not yours to turn. If you find one false, say at which input.
  Laid BY PROGRAM, IN A SANDBOX (cutbox-rows.mjs): the forced cells as the released guide's own fill.sh prints them over the translation c6fad2faee034699… (all of the seat's roots in one cut). By AI agents, Wed Nov 11 2026. No macro, syntax, notation, axiom, sorry.
-/
import Derived.Test.YtoklfbdcghgmlaaChecked
import GoSem.Claim
import GoSem.ClaimJoined
import GoSem.ClaimMapViews
import Derived.JoinedTies
import Derived.KernelRfl
namespace Go.Proofs.Ytoklfbdcghgmlaa
/- THE CELL 'sum', in the pinned program and in every row, IS THE sha256 OF THE DUMP (.gsa) THAT YtoklfbdcghgmlaaProg.lean LOADS. Nothing in Lean hashes anything: it is a label: what it is worth is what the hold of that sum in a sandbox is worth. -/
noncomputable def Try.pinned : Pinned := { name := "ytoklfbdcghgmlaa", sum := "c6fad2faee0346998588db2034e67c3a9623398ebd7c176085405458dff26c79", checked := Try.checked }
namespace Rows
def none {H : Type} : Left H := { results := [], args := [] }

/-- 'laws.FnExactHartCall': WHATEVER THE INPUT: true; the input reads as it did. -/
def fnExactHartCallSpec : ChangeSpec := { name := "fnExactHartCall", fn := fun _ => fun
  | [d1, d2] => { results := [.lit (.bool true)], args := [d1, d2] }
  | _ => none }
def fnExactHartCallRow : OpenClaim := { program := "ytoklfbdcghgmlaa", sum := "c6fad2faee0346998588db2034e67c3a9623398ebd7c176085405458dff26c79", func := "loop.example/cothreads/laws.FnExactHartCall", spec := "fnExactHartCall", apart := false }
def FnExactHartCallSaid : Prop := fnExactHartCallRow.holds Try.pinned (OpenSpec.ofChange fnExactHartCallSpec)

/-- ITS FALSE NEIGHBOUR: 'it returns false'. Refute it at one input. -/
def fnExactHartCallWrong : ChangeSpec := { name := "fnExactHartCall", fn := fun _ => fun
  | [d1, d2] => { results := [.lit (.bool false)], args := [d1, d2] }
  | _ => none }
def FnExactHartCallWrongFalsely : Prop := fnExactHartCallRow.holds Try.pinned (OpenSpec.ofChange fnExactHartCallWrong)

/-- 'laws.FnExactSquadOutcome': WHATEVER THE INPUT: true; the input reads as it did. -/
def fnExactSquadOutcomeSpec : ChangeSpec := { name := "fnExactSquadOutcome", fn := fun _ => fun
  | [d] => { results := [.lit (.bool true)], args := [d] }
  | _ => none }
def fnExactSquadOutcomeRow : OpenClaim := { program := "ytoklfbdcghgmlaa", sum := "c6fad2faee0346998588db2034e67c3a9623398ebd7c176085405458dff26c79", func := "loop.example/cothreads/laws.FnExactSquadOutcome", spec := "fnExactSquadOutcome", unfollowed := true, recurses := true, apart := false }
def FnExactSquadOutcomeSaid : Prop := fnExactSquadOutcomeRow.holds Try.pinned (OpenSpec.ofChange fnExactSquadOutcomeSpec)

/-- ITS FALSE NEIGHBOUR: 'it returns false'. Refute it at one input. -/
def fnExactSquadOutcomeWrong : ChangeSpec := { name := "fnExactSquadOutcome", fn := fun _ => fun
  | [d] => { results := [.lit (.bool false)], args := [d] }
  | _ => none }
def FnExactSquadOutcomeWrongFalsely : Prop := fnExactSquadOutcomeRow.holds Try.pinned (OpenSpec.ofChange fnExactSquadOutcomeWrong)

/-- 'laws.FnHartCall': WHATEVER THE INPUT: true; the input reads as it did. -/
def fnHartCallSpec : ChangeSpec := { name := "fnHartCall", fn := fun _ => fun
  | [d] => { results := [.lit (.bool true)], args := [d] }
  | _ => none }
def fnHartCallRow : OpenClaim := { program := "ytoklfbdcghgmlaa", sum := "c6fad2faee0346998588db2034e67c3a9623398ebd7c176085405458dff26c79", func := "loop.example/cothreads/laws.FnHartCall", spec := "fnHartCall", apart := false }
def FnHartCallSaid : Prop := fnHartCallRow.holds Try.pinned (OpenSpec.ofChange fnHartCallSpec)

/-- ITS FALSE NEIGHBOUR: 'it returns false'. Refute it at one input. -/
def fnHartCallWrong : ChangeSpec := { name := "fnHartCall", fn := fun _ => fun
  | [d] => { results := [.lit (.bool false)], args := [d] }
  | _ => none }
def FnHartCallWrongFalsely : Prop := fnHartCallRow.holds Try.pinned (OpenSpec.ofChange fnHartCallWrong)

/-- 'laws.FnHartCallKinds': WHATEVER THE INPUT: true; the input reads as it did. -/
def fnHartCallKindsSpec : ChangeSpec := { name := "fnHartCallKinds", fn := fun _ => fun
  | [d] => { results := [.lit (.bool true)], args := [d] }
  | _ => none }
def fnHartCallKindsRow : OpenClaim := { program := "ytoklfbdcghgmlaa", sum := "c6fad2faee0346998588db2034e67c3a9623398ebd7c176085405458dff26c79", func := "loop.example/cothreads/laws.FnHartCallKinds", spec := "fnHartCallKinds", apart := false }
def FnHartCallKindsSaid : Prop := fnHartCallKindsRow.holds Try.pinned (OpenSpec.ofChange fnHartCallKindsSpec)

/-- ITS FALSE NEIGHBOUR: 'it returns false'. Refute it at one input. -/
def fnHartCallKindsWrong : ChangeSpec := { name := "fnHartCallKinds", fn := fun _ => fun
  | [d] => { results := [.lit (.bool false)], args := [d] }
  | _ => none }
def FnHartCallKindsWrongFalsely : Prop := fnHartCallKindsRow.holds Try.pinned (OpenSpec.ofChange fnHartCallKindsWrong)

/-- 'laws.FnHartCallTalk': WHATEVER THE INPUT: true; the input reads as it did. -/
def fnHartCallTalkSpec : ChangeSpec := { name := "fnHartCallTalk", fn := fun _ => fun
  | [d] => { results := [.lit (.bool true)], args := [d] }
  | _ => none }
def fnHartCallTalkRow : OpenClaim := { program := "ytoklfbdcghgmlaa", sum := "c6fad2faee0346998588db2034e67c3a9623398ebd7c176085405458dff26c79", func := "loop.example/cothreads/laws.FnHartCallTalk", spec := "fnHartCallTalk", apart := false }
def FnHartCallTalkSaid : Prop := fnHartCallTalkRow.holds Try.pinned (OpenSpec.ofChange fnHartCallTalkSpec)

/-- ITS FALSE NEIGHBOUR: 'it returns false'. Refute it at one input. -/
def fnHartCallTalkWrong : ChangeSpec := { name := "fnHartCallTalk", fn := fun _ => fun
  | [d] => { results := [.lit (.bool false)], args := [d] }
  | _ => none }
def FnHartCallTalkWrongFalsely : Prop := fnHartCallTalkRow.holds Try.pinned (OpenSpec.ofChange fnHartCallTalkWrong)

/- THE SECOND FORM. 'bulk': how many values and letters a reading holds, each counted each time it is reached (what is shared counts as often as it is met; a slice's spare places count too). A statement '..UptoSaid' is the law's where the arguments, and the package variables that the reading takes, are together of bulk at most 1048576: NARROWER than '..Said'. Prove '..Said' where nothing that the law and all that it calls make is longer than what came in: it says more and counts as full. Else prove '..UptoSaid'. A law counts once. -/
mutual
def uptoBulk {H : Type} : DataW H → Nat
  | .lit (.string bytes) => bytes.length + 1
  | .lit _ => 1
  | .nil => 1
  | .ptr d => uptoBulk d + 1
  | .slice elems spare => uptoBulkAll elems + uptoBulkAll spare + 1
  | .agg parts => uptoBulkAll parts + 1
  | .iface _ d => uptoBulk d + 1
  | .map entries => uptoBulkEntries entries + 1
  | .held _ => 1
def uptoBulkAll {H : Type} : List (DataW H) → Nat
  | [] => 0
  | d :: r => uptoBulk d + uptoBulkAll r
def uptoBulkEntries {H : Type} : List (Lit × DataW H) → Nat
  | [] => 0
  | x :: r => uptoBulkEntry x + uptoBulkEntries r
def uptoBulkEntry {H : Type} : Lit × DataW H → Nat
  | (.string bytes, d) => bytes.length + uptoBulk d + 1
  | (_, d) => uptoBulk d + 1
 end
def uptoSmall : (H : Type) → List (DataW H) → Bool := fun _ ds => decide (uptoBulkAll ds ≤ 1048576)
def OpenSpec.upto (s : _root_.Go.ChangeSpec) : _root_.Go.OpenSpec := { _root_.Go.OpenSpec.ofChange s with cond := some uptoSmall }

/-- 'laws.FnExactHartCall', WHERE WHAT IT READS IS OF BULK AT MOST 1048576: true; the input reads as it did. -/
def fnExactHartCallUptoRow : OpenClaim := { program := "ytoklfbdcghgmlaa", sum := "c6fad2faee0346998588db2034e67c3a9623398ebd7c176085405458dff26c79", func := "loop.example/cothreads/laws.FnExactHartCall", spec := "fnExactHartCall", apart := false, narrowed := true }
def FnExactHartCallUptoSaid : Prop := fnExactHartCallUptoRow.holds Try.pinned (OpenSpec.upto fnExactHartCallSpec)

/-- 'laws.FnExactSquadOutcome', WHERE WHAT IT READS IS OF BULK AT MOST 1048576: true; the input reads as it did. -/
def fnExactSquadOutcomeUptoRow : OpenClaim := { program := "ytoklfbdcghgmlaa", sum := "c6fad2faee0346998588db2034e67c3a9623398ebd7c176085405458dff26c79", func := "loop.example/cothreads/laws.FnExactSquadOutcome", spec := "fnExactSquadOutcome", unfollowed := true, recurses := true, apart := false, narrowed := true }
def FnExactSquadOutcomeUptoSaid : Prop := fnExactSquadOutcomeUptoRow.holds Try.pinned (OpenSpec.upto fnExactSquadOutcomeSpec)

/-- 'laws.FnHartCall', WHERE WHAT IT READS IS OF BULK AT MOST 1048576: true; the input reads as it did. -/
def fnHartCallUptoRow : OpenClaim := { program := "ytoklfbdcghgmlaa", sum := "c6fad2faee0346998588db2034e67c3a9623398ebd7c176085405458dff26c79", func := "loop.example/cothreads/laws.FnHartCall", spec := "fnHartCall", apart := false, narrowed := true }
def FnHartCallUptoSaid : Prop := fnHartCallUptoRow.holds Try.pinned (OpenSpec.upto fnHartCallSpec)

/-- 'laws.FnHartCallKinds', WHERE WHAT IT READS IS OF BULK AT MOST 1048576: true; the input reads as it did. -/
def fnHartCallKindsUptoRow : OpenClaim := { program := "ytoklfbdcghgmlaa", sum := "c6fad2faee0346998588db2034e67c3a9623398ebd7c176085405458dff26c79", func := "loop.example/cothreads/laws.FnHartCallKinds", spec := "fnHartCallKinds", apart := false, narrowed := true }
def FnHartCallKindsUptoSaid : Prop := fnHartCallKindsUptoRow.holds Try.pinned (OpenSpec.upto fnHartCallKindsSpec)

/-- 'laws.FnHartCallTalk', WHERE WHAT IT READS IS OF BULK AT MOST 1048576: true; the input reads as it did. -/
def fnHartCallTalkUptoRow : OpenClaim := { program := "ytoklfbdcghgmlaa", sum := "c6fad2faee0346998588db2034e67c3a9623398ebd7c176085405458dff26c79", func := "loop.example/cothreads/laws.FnHartCallTalk", spec := "fnHartCallTalk", apart := false, narrowed := true }
def FnHartCallTalkUptoSaid : Prop := fnHartCallTalkUptoRow.holds Try.pinned (OpenSpec.upto fnHartCallTalkSpec)

end Rows
end Go.Proofs.Ytoklfbdcghgmlaa
