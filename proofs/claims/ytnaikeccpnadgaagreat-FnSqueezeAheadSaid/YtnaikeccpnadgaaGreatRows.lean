/-
  No cell of these rows narrows 'for every input' (looked for: loops, veiled, ifaces, maps, wideKeys, modest, calm, conditions, laid).
  DERIVED. THE GIVEN ROWS OF THIS SEAT. 10 by the template 'for every input the law returns true; each argument reads behind the call as it read before'; 0 by the template 'total and deterministic' (their statements: YtnaikeccpnadgaaGreatTotals.lean).
  GIVEN WITH THE SEED: the statements are not yours to turn. If you find one false, say at which input.
  Laid BY PROGRAM, IN A SANDBOX (cutbox-rows.mjs): the forced cells as the released guide's own fill.sh prints them over the translation e6224c779bcb0267… (all of the seat's roots in one cut). By AI agents, Wed Nov 11 2026. No macro, syntax, notation, axiom, sorry.
-/
import Derived.Test.YtnaikeccpnadgaaGreatChecked
import GoSem.Claim
import GoSem.ClaimJoined
import GoSem.ClaimMapViews
import Derived.JoinedTies
import Derived.KernelRfl
namespace Go.Proofs.YtnaikeccpnadgaaGreat
/- THE CELL 'sum', in the pinned program and in every row, IS THE sha256 OF THE DUMP (.gsa) THAT YtnaikeccpnadgaaGreatProg.lean LOADS. Nothing in Lean hashes anything: it is a label: what it is worth is what the hold of that sum in a sandbox is worth. -/
noncomputable def Tryz.pinned : Pinned := { name := "ytnaikeccpnadgaagreat", sum := "e6224c779bcb026710ec0348004e67c7804a88185ef56a272ee390e18b1d3597", checked := Tryz.checked }
namespace Rows
def none {H : Type} : Left H := { results := [], args := [] }

/-- 'laws.FnDeadRegs': WHATEVER THE INPUT: true; the input reads as it did. -/
def fnDeadRegsSpec : ChangeSpec := { name := "fnDeadRegs", fn := fun _ => fun
  | [d1, d2] => { results := [.lit (.bool true)], args := [d1, d2] }
  | _ => none }
def fnDeadRegsRow : OpenClaim := { program := "ytnaikeccpnadgaagreat", sum := "e6224c779bcb026710ec0348004e67c7804a88185ef56a272ee390e18b1d3597", func := "loop.example/cothreads/laws.FnDeadRegs", spec := "fnDeadRegs", unfollowed := true, recurses := true, apart := false }
def FnDeadRegsSaid : Prop := fnDeadRegsRow.holds Tryz.pinned (OpenSpec.ofChange fnDeadRegsSpec)

/-- ITS FALSE NEIGHBOUR: 'it returns false'. Refute it at one input. -/
def fnDeadRegsWrong : ChangeSpec := { name := "fnDeadRegs", fn := fun _ => fun
  | [d1, d2] => { results := [.lit (.bool false)], args := [d1, d2] }
  | _ => none }
def FnDeadRegsWrongFalsely : Prop := fnDeadRegsRow.holds Tryz.pinned (OpenSpec.ofChange fnDeadRegsWrong)

/-- 'laws.FnFactsTrue': WHATEVER THE INPUT: true; the input reads as it did. -/
def fnFactsTrueSpec : ChangeSpec := { name := "fnFactsTrue", fn := fun _ => fun
  | [d1, d2] => { results := [.lit (.bool true)], args := [d1, d2] }
  | _ => none }
def fnFactsTrueRow : OpenClaim := { program := "ytnaikeccpnadgaagreat", sum := "e6224c779bcb026710ec0348004e67c7804a88185ef56a272ee390e18b1d3597", func := "loop.example/cothreads/laws.FnFactsTrue", spec := "fnFactsTrue", unfollowed := true, recurses := true, apart := false }
def FnFactsTrueSaid : Prop := fnFactsTrueRow.holds Tryz.pinned (OpenSpec.ofChange fnFactsTrueSpec)

/-- ITS FALSE NEIGHBOUR: 'it returns false'. Refute it at one input. -/
def fnFactsTrueWrong : ChangeSpec := { name := "fnFactsTrue", fn := fun _ => fun
  | [d1, d2] => { results := [.lit (.bool false)], args := [d1, d2] }
  | _ => none }
def FnFactsTrueWrongFalsely : Prop := fnFactsTrueRow.holds Tryz.pinned (OpenSpec.ofChange fnFactsTrueWrong)

/-- 'laws.FnCopiesTrue': WHATEVER THE INPUT: true; the input reads as it did. -/
def fnCopiesTrueSpec : ChangeSpec := { name := "fnCopiesTrue", fn := fun _ => fun
  | [d1, d2] => { results := [.lit (.bool true)], args := [d1, d2] }
  | _ => none }
def fnCopiesTrueRow : OpenClaim := { program := "ytnaikeccpnadgaagreat", sum := "e6224c779bcb026710ec0348004e67c7804a88185ef56a272ee390e18b1d3597", func := "loop.example/cothreads/laws.FnCopiesTrue", spec := "fnCopiesTrue", unfollowed := true, recurses := true, apart := false }
def FnCopiesTrueSaid : Prop := fnCopiesTrueRow.holds Tryz.pinned (OpenSpec.ofChange fnCopiesTrueSpec)

/-- ITS FALSE NEIGHBOUR: 'it returns false'. Refute it at one input. -/
def fnCopiesTrueWrong : ChangeSpec := { name := "fnCopiesTrue", fn := fun _ => fun
  | [d1, d2] => { results := [.lit (.bool false)], args := [d1, d2] }
  | _ => none }
def FnCopiesTrueWrongFalsely : Prop := fnCopiesTrueRow.holds Tryz.pinned (OpenSpec.ofChange fnCopiesTrueWrong)

/-- 'laws.FnCopyRun': WHATEVER THE INPUT: true; the input reads as it did. -/
def fnCopyRunSpec : ChangeSpec := { name := "fnCopyRun", fn := fun _ => fun
  | [d1, d2] => { results := [.lit (.bool true)], args := [d1, d2] }
  | _ => none }
def fnCopyRunRow : OpenClaim := { program := "ytnaikeccpnadgaagreat", sum := "e6224c779bcb026710ec0348004e67c7804a88185ef56a272ee390e18b1d3597", func := "loop.example/cothreads/laws.FnCopyRun", spec := "fnCopyRun", unfollowed := true, recurses := true, apart := false }
def FnCopyRunSaid : Prop := fnCopyRunRow.holds Tryz.pinned (OpenSpec.ofChange fnCopyRunSpec)

/-- ITS FALSE NEIGHBOUR: 'it returns false'. Refute it at one input. -/
def fnCopyRunWrong : ChangeSpec := { name := "fnCopyRun", fn := fun _ => fun
  | [d1, d2] => { results := [.lit (.bool false)], args := [d1, d2] }
  | _ => none }
def FnCopyRunWrongFalsely : Prop := fnCopyRunRow.holds Tryz.pinned (OpenSpec.ofChange fnCopyRunWrong)

/-- 'laws.FnFoldRun': WHATEVER THE INPUT: true; the input reads as it did. -/
def fnFoldRunSpec : ChangeSpec := { name := "fnFoldRun", fn := fun _ => fun
  | [d1, d2] => { results := [.lit (.bool true)], args := [d1, d2] }
  | _ => none }
def fnFoldRunRow : OpenClaim := { program := "ytnaikeccpnadgaagreat", sum := "e6224c779bcb026710ec0348004e67c7804a88185ef56a272ee390e18b1d3597", func := "loop.example/cothreads/laws.FnFoldRun", spec := "fnFoldRun", unfollowed := true, recurses := true, apart := false }
def FnFoldRunSaid : Prop := fnFoldRunRow.holds Tryz.pinned (OpenSpec.ofChange fnFoldRunSpec)

/-- ITS FALSE NEIGHBOUR: 'it returns false'. Refute it at one input. -/
def fnFoldRunWrong : ChangeSpec := { name := "fnFoldRun", fn := fun _ => fun
  | [d1, d2] => { results := [.lit (.bool false)], args := [d1, d2] }
  | _ => none }
def FnFoldRunWrongFalsely : Prop := fnFoldRunRow.holds Tryz.pinned (OpenSpec.ofChange fnFoldRunWrong)

/-- 'laws.FnCopyFold': WHATEVER THE INPUT: true; the input reads as it did. -/
def fnCopyFoldSpec : ChangeSpec := { name := "fnCopyFold", fn := fun _ => fun
  | [d1, d2] => { results := [.lit (.bool true)], args := [d1, d2] }
  | _ => none }
def fnCopyFoldRow : OpenClaim := { program := "ytnaikeccpnadgaagreat", sum := "e6224c779bcb026710ec0348004e67c7804a88185ef56a272ee390e18b1d3597", func := "loop.example/cothreads/laws.FnCopyFold", spec := "fnCopyFold", unfollowed := true, recurses := true, apart := false }
def FnCopyFoldSaid : Prop := fnCopyFoldRow.holds Tryz.pinned (OpenSpec.ofChange fnCopyFoldSpec)

/-- ITS FALSE NEIGHBOUR: 'it returns false'. Refute it at one input. -/
def fnCopyFoldWrong : ChangeSpec := { name := "fnCopyFold", fn := fun _ => fun
  | [d1, d2] => { results := [.lit (.bool false)], args := [d1, d2] }
  | _ => none }
def FnCopyFoldWrongFalsely : Prop := fnCopyFoldRow.holds Tryz.pinned (OpenSpec.ofChange fnCopyFoldWrong)

/-- 'laws.FnSqueezeRun': WHATEVER THE INPUT: true; the input reads as it did. -/
def fnSqueezeRunSpec : ChangeSpec := { name := "fnSqueezeRun", fn := fun _ => fun
  | [d] => { results := [.lit (.bool true)], args := [d] }
  | _ => none }
def fnSqueezeRunRow : OpenClaim := { program := "ytnaikeccpnadgaagreat", sum := "e6224c779bcb026710ec0348004e67c7804a88185ef56a272ee390e18b1d3597", func := "loop.example/cothreads/laws.FnSqueezeRun", spec := "fnSqueezeRun", unfollowed := true, recurses := true, apart := false }
def FnSqueezeRunSaid : Prop := fnSqueezeRunRow.holds Tryz.pinned (OpenSpec.ofChange fnSqueezeRunSpec)

/-- ITS FALSE NEIGHBOUR: 'it returns false'. Refute it at one input. -/
def fnSqueezeRunWrong : ChangeSpec := { name := "fnSqueezeRun", fn := fun _ => fun
  | [d] => { results := [.lit (.bool false)], args := [d] }
  | _ => none }
def FnSqueezeRunWrongFalsely : Prop := fnSqueezeRunRow.holds Tryz.pinned (OpenSpec.ofChange fnSqueezeRunWrong)

/-- 'laws.FnSqueezeAhead': WHATEVER THE INPUT: true; the input reads as it did. -/
def fnSqueezeAheadSpec : ChangeSpec := { name := "fnSqueezeAhead", fn := fun _ => fun
  | [d1, d2] => { results := [.lit (.bool true)], args := [d1, d2] }
  | _ => none }
def fnSqueezeAheadRow : OpenClaim := { program := "ytnaikeccpnadgaagreat", sum := "e6224c779bcb026710ec0348004e67c7804a88185ef56a272ee390e18b1d3597", func := "loop.example/cothreads/laws.FnSqueezeAhead", spec := "fnSqueezeAhead", unfollowed := true, recurses := true, apart := false }
def FnSqueezeAheadSaid : Prop := fnSqueezeAheadRow.holds Tryz.pinned (OpenSpec.ofChange fnSqueezeAheadSpec)

/-- ITS FALSE NEIGHBOUR: 'it returns false'. Refute it at one input. -/
def fnSqueezeAheadWrong : ChangeSpec := { name := "fnSqueezeAhead", fn := fun _ => fun
  | [d1, d2] => { results := [.lit (.bool false)], args := [d1, d2] }
  | _ => none }
def FnSqueezeAheadWrongFalsely : Prop := fnSqueezeAheadRow.holds Tryz.pinned (OpenSpec.ofChange fnSqueezeAheadWrong)

/-- 'laws.FnPlaceRun': WHATEVER THE INPUT: true; the input reads as it did. -/
def fnPlaceRunSpec : ChangeSpec := { name := "fnPlaceRun", fn := fun _ => fun
  | [d1, d2] => { results := [.lit (.bool true)], args := [d1, d2] }
  | _ => none }
def fnPlaceRunRow : OpenClaim := { program := "ytnaikeccpnadgaagreat", sum := "e6224c779bcb026710ec0348004e67c7804a88185ef56a272ee390e18b1d3597", func := "loop.example/cothreads/laws.FnPlaceRun", spec := "fnPlaceRun", unfollowed := true, recurses := true, apart := false }
def FnPlaceRunSaid : Prop := fnPlaceRunRow.holds Tryz.pinned (OpenSpec.ofChange fnPlaceRunSpec)

/-- ITS FALSE NEIGHBOUR: 'it returns false'. Refute it at one input. -/
def fnPlaceRunWrong : ChangeSpec := { name := "fnPlaceRun", fn := fun _ => fun
  | [d1, d2] => { results := [.lit (.bool false)], args := [d1, d2] }
  | _ => none }
def FnPlaceRunWrongFalsely : Prop := fnPlaceRunRow.holds Tryz.pinned (OpenSpec.ofChange fnPlaceRunWrong)

/-- 'laws.FnPlaceRegs': WHATEVER THE INPUT: true; the input reads as it did. -/
def fnPlaceRegsSpec : ChangeSpec := { name := "fnPlaceRegs", fn := fun _ => fun
  | [d1, d2] => { results := [.lit (.bool true)], args := [d1, d2] }
  | _ => none }
def fnPlaceRegsRow : OpenClaim := { program := "ytnaikeccpnadgaagreat", sum := "e6224c779bcb026710ec0348004e67c7804a88185ef56a272ee390e18b1d3597", func := "loop.example/cothreads/laws.FnPlaceRegs", spec := "fnPlaceRegs", unfollowed := true, recurses := true, apart := false }
def FnPlaceRegsSaid : Prop := fnPlaceRegsRow.holds Tryz.pinned (OpenSpec.ofChange fnPlaceRegsSpec)

/-- ITS FALSE NEIGHBOUR: 'it returns false'. Refute it at one input. -/
def fnPlaceRegsWrong : ChangeSpec := { name := "fnPlaceRegs", fn := fun _ => fun
  | [d1, d2] => { results := [.lit (.bool false)], args := [d1, d2] }
  | _ => none }
def FnPlaceRegsWrongFalsely : Prop := fnPlaceRegsRow.holds Tryz.pinned (OpenSpec.ofChange fnPlaceRegsWrong)

/- THE SECOND FORM. 'bulk': how many values and letters a reading holds, each counted each time it is reached (what is shared counts as often as it is met; a slice's spare places count too). A statement '..UptoSaid' is the law's where the arguments, and the package variables that the reading takes, are together of bulk at most 1048576: NARROWER than '..Said'. Prove '..Said' where nothing that the law and all that it calls make is longer than what came in: it says more and counts as full. Else prove '..UptoSaid'. A law counts once. -/
mutual
def uptoBulk {H : Type} : DataW H → Nat
  | .lit (.string bytes) => bytes.length + 1
  | .lit _ => 1
  | .nil => 1
  | .ptr d => uptoBulk d + 1
  | .slice elems spare => uptoBulkAll elems + uptoBulkAll spare + 1
  | .agg parts => uptoBulkAll parts + 1
  | .iface _ d => uptoBulk d + 1
  | .map entries => uptoBulkEntries entries + 1
  | .held _ => 1
def uptoBulkAll {H : Type} : List (DataW H) → Nat
  | [] => 0
  | d :: r => uptoBulk d + uptoBulkAll r
def uptoBulkEntries {H : Type} : List (Lit × DataW H) → Nat
  | [] => 0
  | x :: r => uptoBulkEntry x + uptoBulkEntries r
def uptoBulkEntry {H : Type} : Lit × DataW H → Nat
  | (.string bytes, d) => bytes.length + uptoBulk d + 1
  | (_, d) => uptoBulk d + 1
 end
def uptoSmall : (H : Type) → List (DataW H) → Bool := fun _ ds => decide (uptoBulkAll ds ≤ 1048576)
def OpenSpec.upto (s : _root_.Go.ChangeSpec) : _root_.Go.OpenSpec := { _root_.Go.OpenSpec.ofChange s with cond := some uptoSmall }

/-- 'laws.FnDeadRegs', WHERE WHAT IT READS IS OF BULK AT MOST 1048576: true; the input reads as it did. -/
def fnDeadRegsUptoRow : OpenClaim := { program := "ytnaikeccpnadgaagreat", sum := "e6224c779bcb026710ec0348004e67c7804a88185ef56a272ee390e18b1d3597", func := "loop.example/cothreads/laws.FnDeadRegs", spec := "fnDeadRegs", unfollowed := true, recurses := true, apart := false, narrowed := true }
def FnDeadRegsUptoSaid : Prop := fnDeadRegsUptoRow.holds Tryz.pinned (OpenSpec.upto fnDeadRegsSpec)

/-- 'laws.FnFactsTrue', WHERE WHAT IT READS IS OF BULK AT MOST 1048576: true; the input reads as it did. -/
def fnFactsTrueUptoRow : OpenClaim := { program := "ytnaikeccpnadgaagreat", sum := "e6224c779bcb026710ec0348004e67c7804a88185ef56a272ee390e18b1d3597", func := "loop.example/cothreads/laws.FnFactsTrue", spec := "fnFactsTrue", unfollowed := true, recurses := true, apart := false, narrowed := true }
def FnFactsTrueUptoSaid : Prop := fnFactsTrueUptoRow.holds Tryz.pinned (OpenSpec.upto fnFactsTrueSpec)

/-- 'laws.FnCopiesTrue', WHERE WHAT IT READS IS OF BULK AT MOST 1048576: true; the input reads as it did. -/
def fnCopiesTrueUptoRow : OpenClaim := { program := "ytnaikeccpnadgaagreat", sum := "e6224c779bcb026710ec0348004e67c7804a88185ef56a272ee390e18b1d3597", func := "loop.example/cothreads/laws.FnCopiesTrue", spec := "fnCopiesTrue", unfollowed := true, recurses := true, apart := false, narrowed := true }
def FnCopiesTrueUptoSaid : Prop := fnCopiesTrueUptoRow.holds Tryz.pinned (OpenSpec.upto fnCopiesTrueSpec)

/-- 'laws.FnCopyRun', WHERE WHAT IT READS IS OF BULK AT MOST 1048576: true; the input reads as it did. -/
def fnCopyRunUptoRow : OpenClaim := { program := "ytnaikeccpnadgaagreat", sum := "e6224c779bcb026710ec0348004e67c7804a88185ef56a272ee390e18b1d3597", func := "loop.example/cothreads/laws.FnCopyRun", spec := "fnCopyRun", unfollowed := true, recurses := true, apart := false, narrowed := true }
def FnCopyRunUptoSaid : Prop := fnCopyRunUptoRow.holds Tryz.pinned (OpenSpec.upto fnCopyRunSpec)

/-- 'laws.FnFoldRun', WHERE WHAT IT READS IS OF BULK AT MOST 1048576: true; the input reads as it did. -/
def fnFoldRunUptoRow : OpenClaim := { program := "ytnaikeccpnadgaagreat", sum := "e6224c779bcb026710ec0348004e67c7804a88185ef56a272ee390e18b1d3597", func := "loop.example/cothreads/laws.FnFoldRun", spec := "fnFoldRun", unfollowed := true, recurses := true, apart := false, narrowed := true }
def FnFoldRunUptoSaid : Prop := fnFoldRunUptoRow.holds Tryz.pinned (OpenSpec.upto fnFoldRunSpec)

/-- 'laws.FnCopyFold', WHERE WHAT IT READS IS OF BULK AT MOST 1048576: true; the input reads as it did. -/
def fnCopyFoldUptoRow : OpenClaim := { program := "ytnaikeccpnadgaagreat", sum := "e6224c779bcb026710ec0348004e67c7804a88185ef56a272ee390e18b1d3597", func := "loop.example/cothreads/laws.FnCopyFold", spec := "fnCopyFold", unfollowed := true, recurses := true, apart := false, narrowed := true }
def FnCopyFoldUptoSaid : Prop := fnCopyFoldUptoRow.holds Tryz.pinned (OpenSpec.upto fnCopyFoldSpec)

/-- 'laws.FnSqueezeRun', WHERE WHAT IT READS IS OF BULK AT MOST 1048576: true; the input reads as it did. -/
def fnSqueezeRunUptoRow : OpenClaim := { program := "ytnaikeccpnadgaagreat", sum := "e6224c779bcb026710ec0348004e67c7804a88185ef56a272ee390e18b1d3597", func := "loop.example/cothreads/laws.FnSqueezeRun", spec := "fnSqueezeRun", unfollowed := true, recurses := true, apart := false, narrowed := true }
def FnSqueezeRunUptoSaid : Prop := fnSqueezeRunUptoRow.holds Tryz.pinned (OpenSpec.upto fnSqueezeRunSpec)

/-- 'laws.FnSqueezeAhead', WHERE WHAT IT READS IS OF BULK AT MOST 1048576: true; the input reads as it did. -/
def fnSqueezeAheadUptoRow : OpenClaim := { program := "ytnaikeccpnadgaagreat", sum := "e6224c779bcb026710ec0348004e67c7804a88185ef56a272ee390e18b1d3597", func := "loop.example/cothreads/laws.FnSqueezeAhead", spec := "fnSqueezeAhead", unfollowed := true, recurses := true, apart := false, narrowed := true }
def FnSqueezeAheadUptoSaid : Prop := fnSqueezeAheadUptoRow.holds Tryz.pinned (OpenSpec.upto fnSqueezeAheadSpec)

/-- 'laws.FnPlaceRun', WHERE WHAT IT READS IS OF BULK AT MOST 1048576: true; the input reads as it did. -/
def fnPlaceRunUptoRow : OpenClaim := { program := "ytnaikeccpnadgaagreat", sum := "e6224c779bcb026710ec0348004e67c7804a88185ef56a272ee390e18b1d3597", func := "loop.example/cothreads/laws.FnPlaceRun", spec := "fnPlaceRun", unfollowed := true, recurses := true, apart := false, narrowed := true }
def FnPlaceRunUptoSaid : Prop := fnPlaceRunUptoRow.holds Tryz.pinned (OpenSpec.upto fnPlaceRunSpec)

/-- 'laws.FnPlaceRegs', WHERE WHAT IT READS IS OF BULK AT MOST 1048576: true; the input reads as it did. -/
def fnPlaceRegsUptoRow : OpenClaim := { program := "ytnaikeccpnadgaagreat", sum := "e6224c779bcb026710ec0348004e67c7804a88185ef56a272ee390e18b1d3597", func := "loop.example/cothreads/laws.FnPlaceRegs", spec := "fnPlaceRegs", unfollowed := true, recurses := true, apart := false, narrowed := true }
def FnPlaceRegsUptoSaid : Prop := fnPlaceRegsUptoRow.holds Tryz.pinned (OpenSpec.upto fnPlaceRegsSpec)

end Rows
end Go.Proofs.YtnaikeccpnadgaaGreat
