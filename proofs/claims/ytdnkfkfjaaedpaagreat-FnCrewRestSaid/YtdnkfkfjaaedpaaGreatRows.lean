/-
  No cell of these rows narrows 'for every input' (looked for: loops, veiled, ifaces, maps, wideKeys, modest, calm, conditions, laid).
  DERIVED. THE GIVEN ROWS OF THIS SEAT. 20 by the template 'for every input the law returns true; each argument reads behind the call as it read before'; 0 by the template 'total and deterministic' (their statements: YtdnkfkfjaaedpaaGreatTotals.lean).
  GIVEN WITH THE SEED: the statements are not yours to turn. If you find one false, say at which input.
  Laid BY PROGRAM, IN A SANDBOX (cutbox-rows.mjs): the forced cells as the released guide's own fill.sh prints them over the translation 5eaff4d00bd05075… (all of the seat's roots in one cut). By AI agents, Wed Nov 11 2026. No macro, syntax, notation, axiom, sorry.
-/
import Derived.Test.YtdnkfkfjaaedpaaGreatChecked
import GoSem.Claim
import GoSem.ClaimJoined
import GoSem.ClaimMapViews
import Derived.JoinedTies
import Derived.KernelRfl
namespace Go.Proofs.YtdnkfkfjaaedpaaGreat
/- THE CELL 'sum', in the pinned program and in every row, IS THE sha256 OF THE DUMP (.gsa) THAT YtdnkfkfjaaedpaaGreatProg.lean LOADS. Nothing in Lean hashes anything: it is a label: what it is worth is what the hold of that sum in a sandbox is worth. -/
noncomputable def Tryz.pinned : Pinned := { name := "ytdnkfkfjaaedpaagreat", sum := "5eaff4d00bd0507519b13691669baad5721b861062398484183bc87f9c47653d", checked := Tryz.checked }
namespace Rows
def none {H : Type} : Left H := { results := [], args := [] }

/-- 'laws.FnThreadEnd': WHATEVER THE INPUT: true; the input reads as it did. -/
def fnThreadEndSpec : ChangeSpec := { name := "fnThreadEnd", fn := fun _ => fun
  | [d] => { results := [.lit (.bool true)], args := [d] }
  | _ => none }
def fnThreadEndRow : OpenClaim := { program := "ytdnkfkfjaaedpaagreat", sum := "5eaff4d00bd0507519b13691669baad5721b861062398484183bc87f9c47653d", func := "loop.example/cothreads/laws.FnThreadEnd", spec := "fnThreadEnd", recurses := true, apart := false }
def FnThreadEndSaid : Prop := fnThreadEndRow.holds Tryz.pinned (OpenSpec.ofChange fnThreadEndSpec)

/-- ITS FALSE NEIGHBOUR: 'it returns false'. Refute it at one input. -/
def fnThreadEndWrong : ChangeSpec := { name := "fnThreadEnd", fn := fun _ => fun
  | [d] => { results := [.lit (.bool false)], args := [d] }
  | _ => none }
def FnThreadEndWrongFalsely : Prop := fnThreadEndRow.holds Tryz.pinned (OpenSpec.ofChange fnThreadEndWrong)

/-- 'laws.FnThreadJump': WHATEVER THE INPUT: true; the input reads as it did. -/
def fnThreadJumpSpec : ChangeSpec := { name := "fnThreadJump", fn := fun _ => fun
  | [d] => { results := [.lit (.bool true)], args := [d] }
  | _ => none }
def fnThreadJumpRow : OpenClaim := { program := "ytdnkfkfjaaedpaagreat", sum := "5eaff4d00bd0507519b13691669baad5721b861062398484183bc87f9c47653d", func := "loop.example/cothreads/laws.FnThreadJump", spec := "fnThreadJump", recurses := true, apart := false }
def FnThreadJumpSaid : Prop := fnThreadJumpRow.holds Tryz.pinned (OpenSpec.ofChange fnThreadJumpSpec)

/-- ITS FALSE NEIGHBOUR: 'it returns false'. Refute it at one input. -/
def fnThreadJumpWrong : ChangeSpec := { name := "fnThreadJump", fn := fun _ => fun
  | [d] => { results := [.lit (.bool false)], args := [d] }
  | _ => none }
def FnThreadJumpWrongFalsely : Prop := fnThreadJumpRow.holds Tryz.pinned (OpenSpec.ofChange fnThreadJumpWrong)

/-- 'laws.FnThreadMove': WHATEVER THE INPUT: true; the input reads as it did. -/
def fnThreadMoveSpec : ChangeSpec := { name := "fnThreadMove", fn := fun _ => fun
  | [d] => { results := [.lit (.bool true)], args := [d] }
  | _ => none }
def fnThreadMoveRow : OpenClaim := { program := "ytdnkfkfjaaedpaagreat", sum := "5eaff4d00bd0507519b13691669baad5721b861062398484183bc87f9c47653d", func := "loop.example/cothreads/laws.FnThreadMove", spec := "fnThreadMove", recurses := true, apart := false }
def FnThreadMoveSaid : Prop := fnThreadMoveRow.holds Tryz.pinned (OpenSpec.ofChange fnThreadMoveSpec)

/-- ITS FALSE NEIGHBOUR: 'it returns false'. Refute it at one input. -/
def fnThreadMoveWrong : ChangeSpec := { name := "fnThreadMove", fn := fun _ => fun
  | [d] => { results := [.lit (.bool false)], args := [d] }
  | _ => none }
def FnThreadMoveWrongFalsely : Prop := fnThreadMoveRow.holds Tryz.pinned (OpenSpec.ofChange fnThreadMoveWrong)

/-- 'laws.FnThreadSets': WHATEVER THE INPUT: true; the input reads as it did. -/
def fnThreadSetsSpec : ChangeSpec := { name := "fnThreadSets", fn := fun _ => fun
  | [d] => { results := [.lit (.bool true)], args := [d] }
  | _ => none }
def fnThreadSetsRow : OpenClaim := { program := "ytdnkfkfjaaedpaagreat", sum := "5eaff4d00bd0507519b13691669baad5721b861062398484183bc87f9c47653d", func := "loop.example/cothreads/laws.FnThreadSets", spec := "fnThreadSets", recurses := true, apart := false }
def FnThreadSetsSaid : Prop := fnThreadSetsRow.holds Tryz.pinned (OpenSpec.ofChange fnThreadSetsSpec)

/-- ITS FALSE NEIGHBOUR: 'it returns false'. Refute it at one input. -/
def fnThreadSetsWrong : ChangeSpec := { name := "fnThreadSets", fn := fun _ => fun
  | [d] => { results := [.lit (.bool false)], args := [d] }
  | _ => none }
def FnThreadSetsWrongFalsely : Prop := fnThreadSetsRow.holds Tryz.pinned (OpenSpec.ofChange fnThreadSetsWrong)

/-- 'laws.FnThreadStep': WHATEVER THE INPUT: true; the input reads as it did. -/
def fnThreadStepSpec : ChangeSpec := { name := "fnThreadStep", fn := fun _ => fun
  | [d] => { results := [.lit (.bool true)], args := [d] }
  | _ => none }
def fnThreadStepRow : OpenClaim := { program := "ytdnkfkfjaaedpaagreat", sum := "5eaff4d00bd0507519b13691669baad5721b861062398484183bc87f9c47653d", func := "loop.example/cothreads/laws.FnThreadStep", spec := "fnThreadStep", recurses := true, apart := false }
def FnThreadStepSaid : Prop := fnThreadStepRow.holds Tryz.pinned (OpenSpec.ofChange fnThreadStepSpec)

/-- ITS FALSE NEIGHBOUR: 'it returns false'. Refute it at one input. -/
def fnThreadStepWrong : ChangeSpec := { name := "fnThreadStep", fn := fun _ => fun
  | [d] => { results := [.lit (.bool false)], args := [d] }
  | _ => none }
def FnThreadStepWrongFalsely : Prop := fnThreadStepRow.holds Tryz.pinned (OpenSpec.ofChange fnThreadStepWrong)

/-- 'laws.FnThreadStill': WHATEVER THE INPUT: true; the input reads as it did. -/
def fnThreadStillSpec : ChangeSpec := { name := "fnThreadStill", fn := fun _ => fun
  | [d] => { results := [.lit (.bool true)], args := [d] }
  | _ => none }
def fnThreadStillRow : OpenClaim := { program := "ytdnkfkfjaaedpaagreat", sum := "5eaff4d00bd0507519b13691669baad5721b861062398484183bc87f9c47653d", func := "loop.example/cothreads/laws.FnThreadStill", spec := "fnThreadStill", recurses := true, apart := false }
def FnThreadStillSaid : Prop := fnThreadStillRow.holds Tryz.pinned (OpenSpec.ofChange fnThreadStillSpec)

/-- ITS FALSE NEIGHBOUR: 'it returns false'. Refute it at one input. -/
def fnThreadStillWrong : ChangeSpec := { name := "fnThreadStill", fn := fun _ => fun
  | [d] => { results := [.lit (.bool false)], args := [d] }
  | _ => none }
def FnThreadStillWrongFalsely : Prop := fnThreadStillRow.holds Tryz.pinned (OpenSpec.ofChange fnThreadStillWrong)

/-- 'laws.FnThreadBin': WHATEVER THE INPUT: true; the input reads as it did. -/
def fnThreadBinSpec : ChangeSpec := { name := "fnThreadBin", fn := fun _ => fun
  | [d] => { results := [.lit (.bool true)], args := [d] }
  | _ => none }
def fnThreadBinRow : OpenClaim := { program := "ytdnkfkfjaaedpaagreat", sum := "5eaff4d00bd0507519b13691669baad5721b861062398484183bc87f9c47653d", func := "loop.example/cothreads/laws.FnThreadBin", spec := "fnThreadBin", recurses := true, apart := false }
def FnThreadBinSaid : Prop := fnThreadBinRow.holds Tryz.pinned (OpenSpec.ofChange fnThreadBinSpec)

/-- ITS FALSE NEIGHBOUR: 'it returns false'. Refute it at one input. -/
def fnThreadBinWrong : ChangeSpec := { name := "fnThreadBin", fn := fun _ => fun
  | [d] => { results := [.lit (.bool false)], args := [d] }
  | _ => none }
def FnThreadBinWrongFalsely : Prop := fnThreadBinRow.holds Tryz.pinned (OpenSpec.ofChange fnThreadBinWrong)

/-- 'laws.FnThreadTalk': WHATEVER THE INPUT: true; the input reads as it did. -/
def fnThreadTalkSpec : ChangeSpec := { name := "fnThreadTalk", fn := fun _ => fun
  | [d] => { results := [.lit (.bool true)], args := [d] }
  | _ => none }
def fnThreadTalkRow : OpenClaim := { program := "ytdnkfkfjaaedpaagreat", sum := "5eaff4d00bd0507519b13691669baad5721b861062398484183bc87f9c47653d", func := "loop.example/cothreads/laws.FnThreadTalk", spec := "fnThreadTalk", recurses := true, apart := false }
def FnThreadTalkSaid : Prop := fnThreadTalkRow.holds Tryz.pinned (OpenSpec.ofChange fnThreadTalkSpec)

/-- ITS FALSE NEIGHBOUR: 'it returns false'. Refute it at one input. -/
def fnThreadTalkWrong : ChangeSpec := { name := "fnThreadTalk", fn := fun _ => fun
  | [d] => { results := [.lit (.bool false)], args := [d] }
  | _ => none }
def FnThreadTalkWrongFalsely : Prop := fnThreadTalkRow.holds Tryz.pinned (OpenSpec.ofChange fnThreadTalkWrong)

/-- 'laws.FnNextStep': WHATEVER THE INPUT: true; the input reads as it did. -/
def fnNextStepSpec : ChangeSpec := { name := "fnNextStep", fn := fun _ => fun
  | [d] => { results := [.lit (.bool true)], args := [d] }
  | _ => none }
def fnNextStepRow : OpenClaim := { program := "ytdnkfkfjaaedpaagreat", sum := "5eaff4d00bd0507519b13691669baad5721b861062398484183bc87f9c47653d", func := "loop.example/cothreads/laws.FnNextStep", spec := "fnNextStep", recurses := true, apart := false }
def FnNextStepSaid : Prop := fnNextStepRow.holds Tryz.pinned (OpenSpec.ofChange fnNextStepSpec)

/-- ITS FALSE NEIGHBOUR: 'it returns false'. Refute it at one input. -/
def fnNextStepWrong : ChangeSpec := { name := "fnNextStep", fn := fun _ => fun
  | [d] => { results := [.lit (.bool false)], args := [d] }
  | _ => none }
def FnNextStepWrongFalsely : Prop := fnNextStepRow.holds Tryz.pinned (OpenSpec.ofChange fnNextStepWrong)

/-- 'laws.FnUsesStep': WHATEVER THE INPUT: true; the input reads as it did. -/
def fnUsesStepSpec : ChangeSpec := { name := "fnUsesStep", fn := fun _ => fun
  | [d] => { results := [.lit (.bool true)], args := [d] }
  | _ => none }
def fnUsesStepRow : OpenClaim := { program := "ytdnkfkfjaaedpaagreat", sum := "5eaff4d00bd0507519b13691669baad5721b861062398484183bc87f9c47653d", func := "loop.example/cothreads/laws.FnUsesStep", spec := "fnUsesStep", recurses := true, apart := false }
def FnUsesStepSaid : Prop := fnUsesStepRow.holds Tryz.pinned (OpenSpec.ofChange fnUsesStepSpec)

/-- ITS FALSE NEIGHBOUR: 'it returns false'. Refute it at one input. -/
def fnUsesStepWrong : ChangeSpec := { name := "fnUsesStep", fn := fun _ => fun
  | [d] => { results := [.lit (.bool false)], args := [d] }
  | _ => none }
def FnUsesStepWrongFalsely : Prop := fnUsesStepRow.holds Tryz.pinned (OpenSpec.ofChange fnUsesStepWrong)

/-- 'laws.FnCrewSame': WHATEVER THE INPUT: true; the input reads as it did. -/
def fnCrewSameSpec : ChangeSpec := { name := "fnCrewSame", fn := fun _ => fun
  | [d1, d2] => { results := [.lit (.bool true)], args := [d1, d2] }
  | _ => none }
def fnCrewSameRow : OpenClaim := { program := "ytdnkfkfjaaedpaagreat", sum := "5eaff4d00bd0507519b13691669baad5721b861062398484183bc87f9c47653d", func := "loop.example/cothreads/laws.FnCrewSame", spec := "fnCrewSame", unfollowed := true, recurses := true, apart := false }
def FnCrewSameSaid : Prop := fnCrewSameRow.holds Tryz.pinned (OpenSpec.ofChange fnCrewSameSpec)

/-- ITS FALSE NEIGHBOUR: 'it returns false'. Refute it at one input. -/
def fnCrewSameWrong : ChangeSpec := { name := "fnCrewSame", fn := fun _ => fun
  | [d1, d2] => { results := [.lit (.bool false)], args := [d1, d2] }
  | _ => none }
def FnCrewSameWrongFalsely : Prop := fnCrewSameRow.holds Tryz.pinned (OpenSpec.ofChange fnCrewSameWrong)

/-- 'laws.FnCrewRest': WHATEVER THE INPUT: true; the input reads as it did. -/
def fnCrewRestSpec : ChangeSpec := { name := "fnCrewRest", fn := fun _ => fun
  | [d1, d2] => { results := [.lit (.bool true)], args := [d1, d2] }
  | _ => none }
def fnCrewRestRow : OpenClaim := { program := "ytdnkfkfjaaedpaagreat", sum := "5eaff4d00bd0507519b13691669baad5721b861062398484183bc87f9c47653d", func := "loop.example/cothreads/laws.FnCrewRest", spec := "fnCrewRest", unfollowed := true, recurses := true, apart := false }
def FnCrewRestSaid : Prop := fnCrewRestRow.holds Tryz.pinned (OpenSpec.ofChange fnCrewRestSpec)

/-- ITS FALSE NEIGHBOUR: 'it returns false'. Refute it at one input. -/
def fnCrewRestWrong : ChangeSpec := { name := "fnCrewRest", fn := fun _ => fun
  | [d1, d2] => { results := [.lit (.bool false)], args := [d1, d2] }
  | _ => none }
def FnCrewRestWrongFalsely : Prop := fnCrewRestRow.holds Tryz.pinned (OpenSpec.ofChange fnCrewRestWrong)

/-- 'laws.FnReachRun': WHATEVER THE INPUT: true; the input reads as it did. -/
def fnReachRunSpec : ChangeSpec := { name := "fnReachRun", fn := fun _ => fun
  | [d1, d2] => { results := [.lit (.bool true)], args := [d1, d2] }
  | _ => none }
def fnReachRunRow : OpenClaim := { program := "ytdnkfkfjaaedpaagreat", sum := "5eaff4d00bd0507519b13691669baad5721b861062398484183bc87f9c47653d", func := "loop.example/cothreads/laws.FnReachRun", spec := "fnReachRun", unfollowed := true, recurses := true, apart := false }
def FnReachRunSaid : Prop := fnReachRunRow.holds Tryz.pinned (OpenSpec.ofChange fnReachRunSpec)

/-- ITS FALSE NEIGHBOUR: 'it returns false'. Refute it at one input. -/
def fnReachRunWrong : ChangeSpec := { name := "fnReachRun", fn := fun _ => fun
  | [d1, d2] => { results := [.lit (.bool false)], args := [d1, d2] }
  | _ => none }
def FnReachRunWrongFalsely : Prop := fnReachRunRow.holds Tryz.pinned (OpenSpec.ofChange fnReachRunWrong)

/-- 'laws.FnCrewRun': WHATEVER THE INPUT: true; the input reads as it did. -/
def fnCrewRunSpec : ChangeSpec := { name := "fnCrewRun", fn := fun _ => fun
  | [d1, d2] => { results := [.lit (.bool true)], args := [d1, d2] }
  | _ => none }
def fnCrewRunRow : OpenClaim := { program := "ytdnkfkfjaaedpaagreat", sum := "5eaff4d00bd0507519b13691669baad5721b861062398484183bc87f9c47653d", func := "loop.example/cothreads/laws.FnCrewRun", spec := "fnCrewRun", unfollowed := true, recurses := true, apart := false }
def FnCrewRunSaid : Prop := fnCrewRunRow.holds Tryz.pinned (OpenSpec.ofChange fnCrewRunSpec)

/-- ITS FALSE NEIGHBOUR: 'it returns false'. Refute it at one input. -/
def fnCrewRunWrong : ChangeSpec := { name := "fnCrewRun", fn := fun _ => fun
  | [d1, d2] => { results := [.lit (.bool false)], args := [d1, d2] }
  | _ => none }
def FnCrewRunWrongFalsely : Prop := fnCrewRunRow.holds Tryz.pinned (OpenSpec.ofChange fnCrewRunWrong)

/-- 'laws.FnCrewRunOne': WHATEVER THE INPUT: true; the input reads as it did. -/
def fnCrewRunOneSpec : ChangeSpec := { name := "fnCrewRunOne", fn := fun _ => fun
  | [d] => { results := [.lit (.bool true)], args := [d] }
  | _ => none }
def fnCrewRunOneRow : OpenClaim := { program := "ytdnkfkfjaaedpaagreat", sum := "5eaff4d00bd0507519b13691669baad5721b861062398484183bc87f9c47653d", func := "loop.example/cothreads/laws.FnCrewRunOne", spec := "fnCrewRunOne", unfollowed := true, recurses := true, apart := false }
def FnCrewRunOneSaid : Prop := fnCrewRunOneRow.holds Tryz.pinned (OpenSpec.ofChange fnCrewRunOneSpec)

/-- ITS FALSE NEIGHBOUR: 'it returns false'. Refute it at one input. -/
def fnCrewRunOneWrong : ChangeSpec := { name := "fnCrewRunOne", fn := fun _ => fun
  | [d] => { results := [.lit (.bool false)], args := [d] }
  | _ => none }
def FnCrewRunOneWrongFalsely : Prop := fnCrewRunOneRow.holds Tryz.pinned (OpenSpec.ofChange fnCrewRunOneWrong)

/-- 'laws.FnCrewStep': WHATEVER THE INPUT: true; the input reads as it did. -/
def fnCrewStepSpec : ChangeSpec := { name := "fnCrewStep", fn := fun _ => fun
  | [d] => { results := [.lit (.bool true)], args := [d] }
  | _ => none }
def fnCrewStepRow : OpenClaim := { program := "ytdnkfkfjaaedpaagreat", sum := "5eaff4d00bd0507519b13691669baad5721b861062398484183bc87f9c47653d", func := "loop.example/cothreads/laws.FnCrewStep", spec := "fnCrewStep", unfollowed := true, recurses := true, apart := false }
def FnCrewStepSaid : Prop := fnCrewStepRow.holds Tryz.pinned (OpenSpec.ofChange fnCrewStepSpec)

/-- ITS FALSE NEIGHBOUR: 'it returns false'. Refute it at one input. -/
def fnCrewStepWrong : ChangeSpec := { name := "fnCrewStep", fn := fun _ => fun
  | [d] => { results := [.lit (.bool false)], args := [d] }
  | _ => none }
def FnCrewStepWrongFalsely : Prop := fnCrewStepRow.holds Tryz.pinned (OpenSpec.ofChange fnCrewStepWrong)

/-- 'laws.FnCrewStepThread': WHATEVER THE INPUT: true; the input reads as it did. -/
def fnCrewStepThreadSpec : ChangeSpec := { name := "fnCrewStepThread", fn := fun _ => fun
  | [d] => { results := [.lit (.bool true)], args := [d] }
  | _ => none }
def fnCrewStepThreadRow : OpenClaim := { program := "ytdnkfkfjaaedpaagreat", sum := "5eaff4d00bd0507519b13691669baad5721b861062398484183bc87f9c47653d", func := "loop.example/cothreads/laws.FnCrewStepThread", spec := "fnCrewStepThread", unfollowed := true, recurses := true, apart := false }
def FnCrewStepThreadSaid : Prop := fnCrewStepThreadRow.holds Tryz.pinned (OpenSpec.ofChange fnCrewStepThreadSpec)

/-- ITS FALSE NEIGHBOUR: 'it returns false'. Refute it at one input. -/
def fnCrewStepThreadWrong : ChangeSpec := { name := "fnCrewStepThread", fn := fun _ => fun
  | [d] => { results := [.lit (.bool false)], args := [d] }
  | _ => none }
def FnCrewStepThreadWrongFalsely : Prop := fnCrewStepThreadRow.holds Tryz.pinned (OpenSpec.ofChange fnCrewStepThreadWrong)

/-- 'laws.FnLiveChange': WHATEVER THE INPUT: true; the input reads as it did. -/
def fnLiveChangeSpec : ChangeSpec := { name := "fnLiveChange", fn := fun _ => fun
  | [d1, d2] => { results := [.lit (.bool true)], args := [d1, d2] }
  | _ => none }
def fnLiveChangeRow : OpenClaim := { program := "ytdnkfkfjaaedpaagreat", sum := "5eaff4d00bd0507519b13691669baad5721b861062398484183bc87f9c47653d", func := "loop.example/cothreads/laws.FnLiveChange", spec := "fnLiveChange", unfollowed := true, recurses := true, apart := false }
def FnLiveChangeSaid : Prop := fnLiveChangeRow.holds Tryz.pinned (OpenSpec.ofChange fnLiveChangeSpec)

/-- ITS FALSE NEIGHBOUR: 'it returns false'. Refute it at one input. -/
def fnLiveChangeWrong : ChangeSpec := { name := "fnLiveChange", fn := fun _ => fun
  | [d1, d2] => { results := [.lit (.bool false)], args := [d1, d2] }
  | _ => none }
def FnLiveChangeWrongFalsely : Prop := fnLiveChangeRow.holds Tryz.pinned (OpenSpec.ofChange fnLiveChangeWrong)

/-- 'laws.FnJumpRun': WHATEVER THE INPUT: true; the input reads as it did. -/
def fnJumpRunSpec : ChangeSpec := { name := "fnJumpRun", fn := fun _ => fun
  | [d] => { results := [.lit (.bool true)], args := [d] }
  | _ => none }
def fnJumpRunRow : OpenClaim := { program := "ytdnkfkfjaaedpaagreat", sum := "5eaff4d00bd0507519b13691669baad5721b861062398484183bc87f9c47653d", func := "loop.example/cothreads/laws.FnJumpRun", spec := "fnJumpRun", unfollowed := true, recurses := true, apart := false }
def FnJumpRunSaid : Prop := fnJumpRunRow.holds Tryz.pinned (OpenSpec.ofChange fnJumpRunSpec)

/-- ITS FALSE NEIGHBOUR: 'it returns false'. Refute it at one input. -/
def fnJumpRunWrong : ChangeSpec := { name := "fnJumpRun", fn := fun _ => fun
  | [d] => { results := [.lit (.bool false)], args := [d] }
  | _ => none }
def FnJumpRunWrongFalsely : Prop := fnJumpRunRow.holds Tryz.pinned (OpenSpec.ofChange fnJumpRunWrong)

/-- 'laws.FnDeadRun': WHATEVER THE INPUT: true; the input reads as it did. -/
def fnDeadRunSpec : ChangeSpec := { name := "fnDeadRun", fn := fun _ => fun
  | [d1, d2] => { results := [.lit (.bool true)], args := [d1, d2] }
  | _ => none }
def fnDeadRunRow : OpenClaim := { program := "ytdnkfkfjaaedpaagreat", sum := "5eaff4d00bd0507519b13691669baad5721b861062398484183bc87f9c47653d", func := "loop.example/cothreads/laws.FnDeadRun", spec := "fnDeadRun", unfollowed := true, recurses := true, apart := false }
def FnDeadRunSaid : Prop := fnDeadRunRow.holds Tryz.pinned (OpenSpec.ofChange fnDeadRunSpec)

/-- ITS FALSE NEIGHBOUR: 'it returns false'. Refute it at one input. -/
def fnDeadRunWrong : ChangeSpec := { name := "fnDeadRun", fn := fun _ => fun
  | [d1, d2] => { results := [.lit (.bool false)], args := [d1, d2] }
  | _ => none }
def FnDeadRunWrongFalsely : Prop := fnDeadRunRow.holds Tryz.pinned (OpenSpec.ofChange fnDeadRunWrong)

/- THE SECOND FORM. 'bulk': how many values and letters a reading holds, each counted each time it is reached (what is shared counts as often as it is met; a slice's spare places count too). A statement '..UptoSaid' is the law's where the arguments, and the package variables that the reading takes, are together of bulk at most 1048576: NARROWER than '..Said'. Prove '..Said' where nothing that the law and all that it calls make is longer than what came in: it says more and counts as full. Else prove '..UptoSaid'. A law counts once. -/
mutual
def uptoBulk {H : Type} : DataW H → Nat
  | .lit (.string bytes) => bytes.length + 1
  | .lit _ => 1
  | .nil => 1
  | .ptr d => uptoBulk d + 1
  | .slice elems spare => uptoBulkAll elems + uptoBulkAll spare + 1
  | .agg parts => uptoBulkAll parts + 1
  | .iface _ d => uptoBulk d + 1
  | .map entries => uptoBulkEntries entries + 1
  | .held _ => 1
def uptoBulkAll {H : Type} : List (DataW H) → Nat
  | [] => 0
  | d :: r => uptoBulk d + uptoBulkAll r
def uptoBulkEntries {H : Type} : List (Lit × DataW H) → Nat
  | [] => 0
  | x :: r => uptoBulkEntry x + uptoBulkEntries r
def uptoBulkEntry {H : Type} : Lit × DataW H → Nat
  | (.string bytes, d) => bytes.length + uptoBulk d + 1
  | (_, d) => uptoBulk d + 1
 end
def uptoSmall : (H : Type) → List (DataW H) → Bool := fun _ ds => decide (uptoBulkAll ds ≤ 1048576)
def OpenSpec.upto (s : _root_.Go.ChangeSpec) : _root_.Go.OpenSpec := { _root_.Go.OpenSpec.ofChange s with cond := some uptoSmall }

/-- 'laws.FnThreadEnd', WHERE WHAT IT READS IS OF BULK AT MOST 1048576: true; the input reads as it did. -/
def fnThreadEndUptoRow : OpenClaim := { program := "ytdnkfkfjaaedpaagreat", sum := "5eaff4d00bd0507519b13691669baad5721b861062398484183bc87f9c47653d", func := "loop.example/cothreads/laws.FnThreadEnd", spec := "fnThreadEnd", recurses := true, apart := false, narrowed := true }
def FnThreadEndUptoSaid : Prop := fnThreadEndUptoRow.holds Tryz.pinned (OpenSpec.upto fnThreadEndSpec)

/-- 'laws.FnThreadJump', WHERE WHAT IT READS IS OF BULK AT MOST 1048576: true; the input reads as it did. -/
def fnThreadJumpUptoRow : OpenClaim := { program := "ytdnkfkfjaaedpaagreat", sum := "5eaff4d00bd0507519b13691669baad5721b861062398484183bc87f9c47653d", func := "loop.example/cothreads/laws.FnThreadJump", spec := "fnThreadJump", recurses := true, apart := false, narrowed := true }
def FnThreadJumpUptoSaid : Prop := fnThreadJumpUptoRow.holds Tryz.pinned (OpenSpec.upto fnThreadJumpSpec)

/-- 'laws.FnThreadMove', WHERE WHAT IT READS IS OF BULK AT MOST 1048576: true; the input reads as it did. -/
def fnThreadMoveUptoRow : OpenClaim := { program := "ytdnkfkfjaaedpaagreat", sum := "5eaff4d00bd0507519b13691669baad5721b861062398484183bc87f9c47653d", func := "loop.example/cothreads/laws.FnThreadMove", spec := "fnThreadMove", recurses := true, apart := false, narrowed := true }
def FnThreadMoveUptoSaid : Prop := fnThreadMoveUptoRow.holds Tryz.pinned (OpenSpec.upto fnThreadMoveSpec)

/-- 'laws.FnThreadSets', WHERE WHAT IT READS IS OF BULK AT MOST 1048576: true; the input reads as it did. -/
def fnThreadSetsUptoRow : OpenClaim := { program := "ytdnkfkfjaaedpaagreat", sum := "5eaff4d00bd0507519b13691669baad5721b861062398484183bc87f9c47653d", func := "loop.example/cothreads/laws.FnThreadSets", spec := "fnThreadSets", recurses := true, apart := false, narrowed := true }
def FnThreadSetsUptoSaid : Prop := fnThreadSetsUptoRow.holds Tryz.pinned (OpenSpec.upto fnThreadSetsSpec)

/-- 'laws.FnThreadStep', WHERE WHAT IT READS IS OF BULK AT MOST 1048576: true; the input reads as it did. -/
def fnThreadStepUptoRow : OpenClaim := { program := "ytdnkfkfjaaedpaagreat", sum := "5eaff4d00bd0507519b13691669baad5721b861062398484183bc87f9c47653d", func := "loop.example/cothreads/laws.FnThreadStep", spec := "fnThreadStep", recurses := true, apart := false, narrowed := true }
def FnThreadStepUptoSaid : Prop := fnThreadStepUptoRow.holds Tryz.pinned (OpenSpec.upto fnThreadStepSpec)

/-- 'laws.FnThreadStill', WHERE WHAT IT READS IS OF BULK AT MOST 1048576: true; the input reads as it did. -/
def fnThreadStillUptoRow : OpenClaim := { program := "ytdnkfkfjaaedpaagreat", sum := "5eaff4d00bd0507519b13691669baad5721b861062398484183bc87f9c47653d", func := "loop.example/cothreads/laws.FnThreadStill", spec := "fnThreadStill", recurses := true, apart := false, narrowed := true }
def FnThreadStillUptoSaid : Prop := fnThreadStillUptoRow.holds Tryz.pinned (OpenSpec.upto fnThreadStillSpec)

/-- 'laws.FnThreadBin', WHERE WHAT IT READS IS OF BULK AT MOST 1048576: true; the input reads as it did. -/
def fnThreadBinUptoRow : OpenClaim := { program := "ytdnkfkfjaaedpaagreat", sum := "5eaff4d00bd0507519b13691669baad5721b861062398484183bc87f9c47653d", func := "loop.example/cothreads/laws.FnThreadBin", spec := "fnThreadBin", recurses := true, apart := false, narrowed := true }
def FnThreadBinUptoSaid : Prop := fnThreadBinUptoRow.holds Tryz.pinned (OpenSpec.upto fnThreadBinSpec)

/-- 'laws.FnThreadTalk', WHERE WHAT IT READS IS OF BULK AT MOST 1048576: true; the input reads as it did. -/
def fnThreadTalkUptoRow : OpenClaim := { program := "ytdnkfkfjaaedpaagreat", sum := "5eaff4d00bd0507519b13691669baad5721b861062398484183bc87f9c47653d", func := "loop.example/cothreads/laws.FnThreadTalk", spec := "fnThreadTalk", recurses := true, apart := false, narrowed := true }
def FnThreadTalkUptoSaid : Prop := fnThreadTalkUptoRow.holds Tryz.pinned (OpenSpec.upto fnThreadTalkSpec)

/-- 'laws.FnNextStep', WHERE WHAT IT READS IS OF BULK AT MOST 1048576: true; the input reads as it did. -/
def fnNextStepUptoRow : OpenClaim := { program := "ytdnkfkfjaaedpaagreat", sum := "5eaff4d00bd0507519b13691669baad5721b861062398484183bc87f9c47653d", func := "loop.example/cothreads/laws.FnNextStep", spec := "fnNextStep", recurses := true, apart := false, narrowed := true }
def FnNextStepUptoSaid : Prop := fnNextStepUptoRow.holds Tryz.pinned (OpenSpec.upto fnNextStepSpec)

/-- 'laws.FnUsesStep', WHERE WHAT IT READS IS OF BULK AT MOST 1048576: true; the input reads as it did. -/
def fnUsesStepUptoRow : OpenClaim := { program := "ytdnkfkfjaaedpaagreat", sum := "5eaff4d00bd0507519b13691669baad5721b861062398484183bc87f9c47653d", func := "loop.example/cothreads/laws.FnUsesStep", spec := "fnUsesStep", recurses := true, apart := false, narrowed := true }
def FnUsesStepUptoSaid : Prop := fnUsesStepUptoRow.holds Tryz.pinned (OpenSpec.upto fnUsesStepSpec)

/-- 'laws.FnCrewSame', WHERE WHAT IT READS IS OF BULK AT MOST 1048576: true; the input reads as it did. -/
def fnCrewSameUptoRow : OpenClaim := { program := "ytdnkfkfjaaedpaagreat", sum := "5eaff4d00bd0507519b13691669baad5721b861062398484183bc87f9c47653d", func := "loop.example/cothreads/laws.FnCrewSame", spec := "fnCrewSame", unfollowed := true, recurses := true, apart := false, narrowed := true }
def FnCrewSameUptoSaid : Prop := fnCrewSameUptoRow.holds Tryz.pinned (OpenSpec.upto fnCrewSameSpec)

/-- 'laws.FnCrewRest', WHERE WHAT IT READS IS OF BULK AT MOST 1048576: true; the input reads as it did. -/
def fnCrewRestUptoRow : OpenClaim := { program := "ytdnkfkfjaaedpaagreat", sum := "5eaff4d00bd0507519b13691669baad5721b861062398484183bc87f9c47653d", func := "loop.example/cothreads/laws.FnCrewRest", spec := "fnCrewRest", unfollowed := true, recurses := true, apart := false, narrowed := true }
def FnCrewRestUptoSaid : Prop := fnCrewRestUptoRow.holds Tryz.pinned (OpenSpec.upto fnCrewRestSpec)

/-- 'laws.FnReachRun', WHERE WHAT IT READS IS OF BULK AT MOST 1048576: true; the input reads as it did. -/
def fnReachRunUptoRow : OpenClaim := { program := "ytdnkfkfjaaedpaagreat", sum := "5eaff4d00bd0507519b13691669baad5721b861062398484183bc87f9c47653d", func := "loop.example/cothreads/laws.FnReachRun", spec := "fnReachRun", unfollowed := true, recurses := true, apart := false, narrowed := true }
def FnReachRunUptoSaid : Prop := fnReachRunUptoRow.holds Tryz.pinned (OpenSpec.upto fnReachRunSpec)

/-- 'laws.FnCrewRun', WHERE WHAT IT READS IS OF BULK AT MOST 1048576: true; the input reads as it did. -/
def fnCrewRunUptoRow : OpenClaim := { program := "ytdnkfkfjaaedpaagreat", sum := "5eaff4d00bd0507519b13691669baad5721b861062398484183bc87f9c47653d", func := "loop.example/cothreads/laws.FnCrewRun", spec := "fnCrewRun", unfollowed := true, recurses := true, apart := false, narrowed := true }
def FnCrewRunUptoSaid : Prop := fnCrewRunUptoRow.holds Tryz.pinned (OpenSpec.upto fnCrewRunSpec)

/-- 'laws.FnCrewRunOne', WHERE WHAT IT READS IS OF BULK AT MOST 1048576: true; the input reads as it did. -/
def fnCrewRunOneUptoRow : OpenClaim := { program := "ytdnkfkfjaaedpaagreat", sum := "5eaff4d00bd0507519b13691669baad5721b861062398484183bc87f9c47653d", func := "loop.example/cothreads/laws.FnCrewRunOne", spec := "fnCrewRunOne", unfollowed := true, recurses := true, apart := false, narrowed := true }
def FnCrewRunOneUptoSaid : Prop := fnCrewRunOneUptoRow.holds Tryz.pinned (OpenSpec.upto fnCrewRunOneSpec)

/-- 'laws.FnCrewStep', WHERE WHAT IT READS IS OF BULK AT MOST 1048576: true; the input reads as it did. -/
def fnCrewStepUptoRow : OpenClaim := { program := "ytdnkfkfjaaedpaagreat", sum := "5eaff4d00bd0507519b13691669baad5721b861062398484183bc87f9c47653d", func := "loop.example/cothreads/laws.FnCrewStep", spec := "fnCrewStep", unfollowed := true, recurses := true, apart := false, narrowed := true }
def FnCrewStepUptoSaid : Prop := fnCrewStepUptoRow.holds Tryz.pinned (OpenSpec.upto fnCrewStepSpec)

/-- 'laws.FnCrewStepThread', WHERE WHAT IT READS IS OF BULK AT MOST 1048576: true; the input reads as it did. -/
def fnCrewStepThreadUptoRow : OpenClaim := { program := "ytdnkfkfjaaedpaagreat", sum := "5eaff4d00bd0507519b13691669baad5721b861062398484183bc87f9c47653d", func := "loop.example/cothreads/laws.FnCrewStepThread", spec := "fnCrewStepThread", unfollowed := true, recurses := true, apart := false, narrowed := true }
def FnCrewStepThreadUptoSaid : Prop := fnCrewStepThreadUptoRow.holds Tryz.pinned (OpenSpec.upto fnCrewStepThreadSpec)

/-- 'laws.FnLiveChange', WHERE WHAT IT READS IS OF BULK AT MOST 1048576: true; the input reads as it did. -/
def fnLiveChangeUptoRow : OpenClaim := { program := "ytdnkfkfjaaedpaagreat", sum := "5eaff4d00bd0507519b13691669baad5721b861062398484183bc87f9c47653d", func := "loop.example/cothreads/laws.FnLiveChange", spec := "fnLiveChange", unfollowed := true, recurses := true, apart := false, narrowed := true }
def FnLiveChangeUptoSaid : Prop := fnLiveChangeUptoRow.holds Tryz.pinned (OpenSpec.upto fnLiveChangeSpec)

/-- 'laws.FnJumpRun', WHERE WHAT IT READS IS OF BULK AT MOST 1048576: true; the input reads as it did. -/
def fnJumpRunUptoRow : OpenClaim := { program := "ytdnkfkfjaaedpaagreat", sum := "5eaff4d00bd0507519b13691669baad5721b861062398484183bc87f9c47653d", func := "loop.example/cothreads/laws.FnJumpRun", spec := "fnJumpRun", unfollowed := true, recurses := true, apart := false, narrowed := true }
def FnJumpRunUptoSaid : Prop := fnJumpRunUptoRow.holds Tryz.pinned (OpenSpec.upto fnJumpRunSpec)

/-- 'laws.FnDeadRun', WHERE WHAT IT READS IS OF BULK AT MOST 1048576: true; the input reads as it did. -/
def fnDeadRunUptoRow : OpenClaim := { program := "ytdnkfkfjaaedpaagreat", sum := "5eaff4d00bd0507519b13691669baad5721b861062398484183bc87f9c47653d", func := "loop.example/cothreads/laws.FnDeadRun", spec := "fnDeadRun", unfollowed := true, recurses := true, apart := false, narrowed := true }
def FnDeadRunUptoSaid : Prop := fnDeadRunUptoRow.holds Tryz.pinned (OpenSpec.upto fnDeadRunSpec)

end Rows
end Go.Proofs.YtdnkfkfjaaedpaaGreat
