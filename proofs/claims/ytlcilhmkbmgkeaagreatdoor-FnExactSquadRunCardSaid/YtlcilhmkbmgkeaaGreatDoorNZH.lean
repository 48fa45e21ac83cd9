/- Words of the proof: ZH. No conditions. -/
import Derived.Test.YtlcilhmkbmgkeaaGreatDoorNZR0
import Derived.Test.YtlcilhmkbmgkeaaGreatDoorProg
import Derived.KernelRfl
set_option linter.unusedSimpArgs false
set_option linter.unusedVariables false
set_option maxRecDepth 20000
namespace Go.Proofs.YtlcilhmkbmgkeaaGreatDoor
open Go Go.Abs Go.RowKit

def T : Types := fun t =>
 match t with
 | 3 => some ⟨1, 8, [.int .i64 0], .int .i64⟩ -- int
 | 4 => some ⟨1, 1, [.bool false], .bool⟩ -- bool
 | 5 => some ⟨1, 1, [.int .u8 0], .int .u8⟩ -- uint8
 | 9 => some ⟨1, 16, [.str emptyS], .str⟩ -- string
 | 21 => some ⟨1, 4, [.int .i32 0], .int .i32⟩ -- int32
 | 22 => some ⟨1, 24, [.nilsl], .slice 80⟩ -- []laws.Machine
 | 23 => some ⟨1, 24, [.nilsl], .slice 83⟩ -- []laws.Box
 | 24 => some ⟨1, 24, [.nilsl], .slice 3⟩ -- []int
 | 26 => some ⟨5, 88, [.nilsl, .nilsl, .int .i64 0, .int .i64 0, .nilsl], .struct [(0, 22), (1, 23), (2, 3), (3, 3), (4, 24)]⟩ -- laws.Squad
 | 28 => some ⟨1, 24, [.nilsl], .slice 63⟩ -- []impl.Machine
 | 29 => some ⟨1, 24, [.nilsl], .slice 93⟩ -- []impl.Box
 | 31 => some ⟨5, 88, [.nilsl, .nilsl, .int .i64 0, .int .i64 0, .nilsl], .struct [(0, 28), (1, 29), (2, 3), (3, 3), (4, 24)]⟩ -- impl.Squad
 | 57 => some ⟨1, 8, [.nilp], .ptr⟩ -- *impl.Squad
 | 63 => some ⟨3, 56, [.nilsl, .int .i64 0, .nilsl], .struct [(0, 24), (1, 3), (2, 24)]⟩ -- impl.Machine
 | 67 => some ⟨1, 8, [.nilp], .ptr⟩ -- *impl.Machine
 | 69 => some ⟨1, 8, [.nilp], .ptr⟩ -- *[]int
 | 80 => some ⟨3, 56, [.nilsl, .int .i64 0, .nilsl], .struct [(0, 24), (1, 3), (2, 24)]⟩ -- laws.Machine
 | 83 => some ⟨2, 32, [.int .i64 0, .nilsl], .struct [(0, 3), (1, 24)]⟩ -- laws.Box
 | 93 => some ⟨2, 32, [.int .i64 0, .nilsl], .struct [(0, 3), (1, 24)]⟩ -- impl.Box
 | 100 => some ⟨1, 8, [.nilp], .ptr⟩ -- *int
 | 103 => some ⟨5, 40, [.int .i64 0, .int .i64 0, .int .i64 0, .int .i64 0, .int .i64 0], .struct [(0, 3), (1, 3), (2, 3), (3, 3), (4, 3)]⟩ -- impl.Instr
 | 109 => some ⟨11, 88, [.int .i64 0, .int .i64 0, .int .i64 0, .int .i64 0, .int .i64 0, .int .i64 0, .int .i64 0, .int .i64 0, .int .i64 0, .int .i64 0, .int .i64 0], .array 11 3⟩ -- [11]int
 | 131 => some ⟨1, 8, [.nilp], .ptr⟩ -- *impl.Box
 | 133 => some ⟨4, 40, [.str emptyS, .int .i64 0, .int .i64 0, .int .i64 0], .struct [(0, 9), (1, 3), (2, 3), (3, 3)]⟩ -- impl.instrRow
 | 134 => some ⟨84, 840, [.str emptyS, .int .i64 0, .int .i64 0, .int .i64 0, .str emptyS, .int .i64 0, .int .i64 0, .int .i64 0, .str emptyS, .int .i64 0, .int .i64 0, .int .i64 0, .str emptyS, .int .i64 0, .int .i64 0, .int .i64 0, .str emptyS, .int .i64 0, .int .i64 0, .int .i64 0, .str emptyS, .int .i64 0, .int .i64 0, .int .i64 0, .str emptyS, .int .i64 0, .int .i64 0, .int .i64 0, .str emptyS, .int .i64 0, .int .i64 0, .int .i64 0, .str emptyS, .int .i64 0, .int .i64 0, .int .i64 0, .str emptyS, .int .i64 0, .int .i64 0, .int .i64 0, .str emptyS, .int .i64 0, .int .i64 0, .int .i64 0, .str emptyS, .int .i64 0, .int .i64 0, .int .i64 0, .str emptyS, .int .i64 0, .int .i64 0, .int .i64 0, .str emptyS, .int .i64 0, .int .i64 0, .int .i64 0, .str emptyS, .int .i64 0, .int .i64 0, .int .i64 0, .str emptyS, .int .i64 0, .int .i64 0, .int .i64 0, .str emptyS, .int .i64 0, .int .i64 0, .int .i64 0, .str emptyS, .int .i64 0, .int .i64 0, .int .i64 0, .str emptyS, .int .i64 0, .int .i64 0, .int .i64 0, .str emptyS, .int .i64 0, .int .i64 0, .int .i64 0, .str emptyS, .int .i64 0, .int .i64 0, .int .i64 0], .array 21 133⟩ -- [21]impl.instrRow
 | 138 => some ⟨1, 4, [.int .u32 0], .int .u32⟩ -- uint32
 | _ => none

@[simp] theorem T_3 : T 3 = some ⟨1, 8, [.int .i64 0], .int .i64⟩ := rfl
@[simp] theorem T_4 : T 4 = some ⟨1, 1, [.bool false], .bool⟩ := rfl
@[simp] theorem T_5 : T 5 = some ⟨1, 1, [.int .u8 0], .int .u8⟩ := rfl
@[simp] theorem T_9 : T 9 = some ⟨1, 16, [.str emptyS], .str⟩ := rfl
@[simp] theorem T_21 : T 21 = some ⟨1, 4, [.int .i32 0], .int .i32⟩ := rfl
@[simp] theorem T_22 : T 22 = some ⟨1, 24, [.nilsl], .slice 80⟩ := rfl
@[simp] theorem T_23 : T 23 = some ⟨1, 24, [.nilsl], .slice 83⟩ := rfl
@[simp] theorem T_24 : T 24 = some ⟨1, 24, [.nilsl], .slice 3⟩ := rfl
@[simp] theorem T_26 : T 26 = some ⟨5, 88, [.nilsl, .nilsl, .int .i64 0, .int .i64 0, .nilsl], .struct [(0, 22), (1, 23), (2, 3), (3, 3), (4, 24)]⟩ := rfl
@[simp] theorem T_28 : T 28 = some ⟨1, 24, [.nilsl], .slice 63⟩ := rfl
@[simp] theorem T_29 : T 29 = some ⟨1, 24, [.nilsl], .slice 93⟩ := rfl
@[simp] theorem T_31 : T 31 = some ⟨5, 88, [.nilsl, .nilsl, .int .i64 0, .int .i64 0, .nilsl], .struct [(0, 28), (1, 29), (2, 3), (3, 3), (4, 24)]⟩ := rfl
@[simp] theorem T_57 : T 57 = some ⟨1, 8, [.nilp], .ptr⟩ := rfl
@[simp] theorem T_63 : T 63 = some ⟨3, 56, [.nilsl, .int .i64 0, .nilsl], .struct [(0, 24), (1, 3), (2, 24)]⟩ := rfl
@[simp] theorem T_67 : T 67 = some ⟨1, 8, [.nilp], .ptr⟩ := rfl
@[simp] theorem T_69 : T 69 = some ⟨1, 8, [.nilp], .ptr⟩ := rfl
@[simp] theorem T_80 : T 80 = some ⟨3, 56, [.nilsl, .int .i64 0, .nilsl], .struct [(0, 24), (1, 3), (2, 24)]⟩ := rfl
@[simp] theorem T_83 : T 83 = some ⟨2, 32, [.int .i64 0, .nilsl], .struct [(0, 3), (1, 24)]⟩ := rfl
@[simp] theorem T_93 : T 93 = some ⟨2, 32, [.int .i64 0, .nilsl], .struct [(0, 3), (1, 24)]⟩ := rfl
@[simp] theorem T_100 : T 100 = some ⟨1, 8, [.nilp], .ptr⟩ := rfl
@[simp] theorem T_103 : T 103 = some ⟨5, 40, [.int .i64 0, .int .i64 0, .int .i64 0, .int .i64 0, .int .i64 0], .struct [(0, 3), (1, 3), (2, 3), (3, 3), (4, 3)]⟩ := rfl
@[simp] theorem T_109 : T 109 = some ⟨11, 88, [.int .i64 0, .int .i64 0, .int .i64 0, .int .i64 0, .int .i64 0, .int .i64 0, .int .i64 0, .int .i64 0, .int .i64 0, .int .i64 0, .int .i64 0], .array 11 3⟩ := rfl
@[simp] theorem T_131 : T 131 = some ⟨1, 8, [.nilp], .ptr⟩ := rfl
@[simp] theorem T_133 : T 133 = some ⟨4, 40, [.str emptyS, .int .i64 0, .int .i64 0, .int .i64 0], .struct [(0, 9), (1, 3), (2, 3), (3, 3)]⟩ := rfl
@[simp] theorem T_134 : T 134 = some ⟨84, 840, [.str emptyS, .int .i64 0, .int .i64 0, .int .i64 0, .str emptyS, .int .i64 0, .int .i64 0, .int .i64 0, .str emptyS, .int .i64 0, .int .i64 0, .int .i64 0, .str emptyS, .int .i64 0, .int .i64 0, .int .i64 0, .str emptyS, .int .i64 0, .int .i64 0, .int .i64 0, .str emptyS, .int .i64 0, .int .i64 0, .int .i64 0, .str emptyS, .int .i64 0, .int .i64 0, .int .i64 0, .str emptyS, .int .i64 0, .int .i64 0, .int .i64 0, .str emptyS, .int .i64 0, .int .i64 0, .int .i64 0, .str emptyS, .int .i64 0, .int .i64 0, .int .i64 0, .str emptyS, .int .i64 0, .int .i64 0, .int .i64 0, .str emptyS, .int .i64 0, .int .i64 0, .int .i64 0, .str emptyS, .int .i64 0, .int .i64 0, .int .i64 0, .str emptyS, .int .i64 0, .int .i64 0, .int .i64 0, .str emptyS, .int .i64 0, .int .i64 0, .int .i64 0, .str emptyS, .int .i64 0, .int .i64 0, .int .i64 0, .str emptyS, .int .i64 0, .int .i64 0, .int .i64 0, .str emptyS, .int .i64 0, .int .i64 0, .int .i64 0, .str emptyS, .int .i64 0, .int .i64 0, .int .i64 0, .str emptyS, .int .i64 0, .int .i64 0, .int .i64 0, .str emptyS, .int .i64 0, .int .i64 0, .int .i64 0], .array 21 133⟩ := rfl
@[simp] theorem T_138 : T 138 = some ⟨1, 4, [.int .u32 0], .int .u32⟩ := rfl
theorem tok : TOk Tryz.prog T := by
 intro t i h
 unfold T at h
 split at h <;> first | (cases h; done) | skip
 all_goals (cases h; refine ⟨by kernel_rfl, by kernel_rfl, by kernel_rfl, by kernel_rfl, by kernel_rfl⟩)
theorem tokM : Tryz.prog.follows .mixedOrders = true := by kernel_rfl
def G : Globs := fun g => match g with
 | 0 => some (gI [8, 9, 10, 11, 12, 3, 1, 2, 6, 7, 5])
 | 2 => some (gR rInstrRow instrTab)
 | _ => none
@[simp] theorem G_0 : G 0 = some (gI [8, 9, 10, 11, 12, 3, 1, 2, 6, 7, 5]) := rfl
@[simp] theorem G_2 : G 2 = some (gR rInstrRow instrTab) := rfl
@[simp] theorem bin_ii (op : BinOp) (t : TypeId) (k : IntKind) (a b : Int) : bin T op t (.int k a) (.int k b) = ibin op k a b := by simp [bin]
@[simp] theorem bin_shl (t : TypeId) (k k' : IntKind) (a b : Int) : bin T .shl t (.int k a) (.int k' b) = ibin .shl k a b := by simp [bin]
@[simp] theorem bin_shr (t : TypeId) (k k' : IntKind) (a b : Int) : bin T .shr t (.int k a) (.int k' b) = ibin .shr k a b := by simp [bin]
@[simp ↓] theorem sueq_103 (xOp xRd xRs xRt xImm yOp yRd yRs yRt yImm : Int) : bin T .eql 103 (.agg [.int .i64 xOp, .int .i64 xRd, .int .i64 xRs, .int .i64 xRt, .int .i64 xImm]) (.agg [.int .i64 yOp, .int .i64 yRd, .int .i64 yRs, .int .i64 yRt, .int .i64 yImm]) = some (.bool (eqD (⟨xOp, xRd, xRs, xRt, xImm⟩ : gInstr) (⟨yOp, yRd, yRs, yRt, yImm⟩ : gInstr))) := by
 have h : eqAgg T 103 [.int .i64 xOp, .int .i64 xRd, .int .i64 xRs, .int .i64 xRt, .int .i64 xImm] [.int .i64 yOp, .int .i64 yRd, .int .i64 yRs, .int .i64 yRt, .int .i64 yImm] = some (decide ((⟨xOp, xRd, xRs, xRt, xImm⟩ : gInstr) = (⟨yOp, yRd, yRs, yRt, yImm⟩ : gInstr))) := by
  simp [eqAgg, flatT, eqCells, gInstr.mk.injEq, Bool.decide_and, decide_eq_true_eq]
  try rfl
 simp only [bin, h, Option.map_some, bnot, eqD]
@[simp ↓] theorem sune_103 (xOp xRd xRs xRt xImm yOp yRd yRs yRt yImm : Int) : bin T .neq 103 (.agg [.int .i64 xOp, .int .i64 xRd, .int .i64 xRs, .int .i64 xRt, .int .i64 xImm]) (.agg [.int .i64 yOp, .int .i64 yRd, .int .i64 yRs, .int .i64 yRt, .int .i64 yImm]) = some (.bool (bnot (eqD (⟨xOp, xRd, xRs, xRt, xImm⟩ : gInstr) (⟨yOp, yRd, yRs, yRt, yImm⟩ : gInstr)))) := by
 have h : eqAgg T 103 [.int .i64 xOp, .int .i64 xRd, .int .i64 xRs, .int .i64 xRt, .int .i64 xImm] [.int .i64 yOp, .int .i64 yRd, .int .i64 yRs, .int .i64 yRt, .int .i64 yImm] = some (decide ((⟨xOp, xRd, xRs, xRt, xImm⟩ : gInstr) = (⟨yOp, yRd, yRs, yRt, yImm⟩ : gInstr))) := by
  simp [eqAgg, flatT, eqCells, gInstr.mk.injEq, Bool.decide_and, decide_eq_true_eq]
  try rfl
 simp only [bin, h, Option.map_some, bnot, eqD]
@[simp] theorem bineq_4 (a b : Bool) : bin T .eql 4 (.bool a) (.bool b) = some (.bool (beqb a b)) := rfl
@[simp] theorem binne_4 (a b : Bool) : bin T .neq 4 (.bool a) (.bool b) = some (.bool (bneb a b)) := rfl
@[simp] theorem conv_3_5 (k : IntKind) (n : Int) : convA T 3 5 (.int k n) = some (.int .u8 (iconv .u8 n)) := rfl
@[simp] theorem conv_3_138 (k : IntKind) (n : Int) : convA T 3 138 (.int k n) = some (.int .u32 (iconv .u32 n)) := rfl
@[simp] theorem conv_3_21 (k : IntKind) (n : Int) : convA T 3 21 (.int k n) = some (.int .i32 (iconv .i32 n)) := rfl
@[simp] theorem conv_5_3 (k : IntKind) (n : Int) : convA T 5 3 (.int k n) = some (.int .i64 (iconv .i64 n)) := rfl
@[simp] theorem conv_5_138 (k : IntKind) (n : Int) : convA T 5 138 (.int k n) = some (.int .u32 (iconv .u32 n)) := rfl
@[simp] theorem conv_5_21 (k : IntKind) (n : Int) : convA T 5 21 (.int k n) = some (.int .i32 (iconv .i32 n)) := rfl
@[simp] theorem conv_138_3 (k : IntKind) (n : Int) : convA T 138 3 (.int k n) = some (.int .i64 (iconv .i64 n)) := rfl
@[simp] theorem conv_138_5 (k : IntKind) (n : Int) : convA T 138 5 (.int k n) = some (.int .u8 (iconv .u8 n)) := rfl
@[simp] theorem conv_138_21 (k : IntKind) (n : Int) : convA T 138 21 (.int k n) = some (.int .i32 (iconv .i32 n)) := rfl
@[simp] theorem conv_21_3 (k : IntKind) (n : Int) : convA T 21 3 (.int k n) = some (.int .i64 (iconv .i64 n)) := rfl
@[simp] theorem conv_21_5 (k : IntKind) (n : Int) : convA T 21 5 (.int k n) = some (.int .u8 (iconv .u8 n)) := rfl
@[simp] theorem conv_21_138 (k : IntKind) (n : Int) : convA T 21 138 (.int k n) = some (.int .u32 (iconv .u32 n)) := rfl
@[simp] theorem len22 (l : List gMachine) : lenA T 22 (.fsl (encL rMachine l)) = some (.int .i64 (ilen l)) := lenA_fsl (e := 80) rfl rMachine l
@[simp] theorem leno22 (o r : Nat) (l : List gMachine) : lenA T 22 (.sl o r l.length) = some (.int .i64 (ilen l)) := lenA_sl (e := 80) rfl o r l
@[simp] theorem lenn22 : lenA T 22 .nilsl = some (.int .i64 0) := rfl
@[simp] theorem lene22 : lenA T 22 .esl = some (.int .i64 0) := rfl
@[simp] theorem src22 (σ : AHeap) (l : List gMachine) (z : List AV) (k : TK) : srcA ⟨3, 56, z, k⟩ σ (.fsl (encL rMachine l)) = some (encL rMachine l) := srcA_fsl (f := rMachine) (fun _ => rfl) σ l
@[simp] theorem srco22 {σ : AHeap} {o : Nat} {l : List gMachine} (z : List AV) (k : TK) (h : σ.objs o = some ⟨80, 3, encL rMachine l⟩) : srcA ⟨3, 56, z, k⟩ σ (.sl o 0 l.length) = some (encL rMachine l) := srcA_sl (ti := ⟨3, 56, z, k⟩) (fun _ => rfl) h
theorem ix22 {l : List gMachine} {i : Int} {v : gMachine} (h : idx l i = some v) (σ : AHeap) (k : IntKind) : indexAddrA T σ 22 (.fsl (encL rMachine l)) (.int k i) = some (.fptr (rMachine v) 0) := ixA_fsl (e := 80) rfl rfl (fun _ => rfl) h σ k
@[simp] theorem len23 (l : List gBox) : lenA T 23 (.fsl (encL rBox l)) = some (.int .i64 (ilen l)) := lenA_fsl (e := 83) rfl rBox l
@[simp] theorem leno23 (o r : Nat) (l : List gBox) : lenA T 23 (.sl o r l.length) = some (.int .i64 (ilen l)) := lenA_sl (e := 83) rfl o r l
@[simp] theorem lenn23 : lenA T 23 .nilsl = some (.int .i64 0) := rfl
@[simp] theorem lene23 : lenA T 23 .esl = some (.int .i64 0) := rfl
@[simp] theorem src23 (σ : AHeap) (l : List gBox) (z : List AV) (k : TK) : srcA ⟨2, 32, z, k⟩ σ (.fsl (encL rBox l)) = some (encL rBox l) := srcA_fsl (f := rBox) (fun _ => rfl) σ l
@[simp] theorem srco23 {σ : AHeap} {o : Nat} {l : List gBox} (z : List AV) (k : TK) (h : σ.objs o = some ⟨83, 2, encL rBox l⟩) : srcA ⟨2, 32, z, k⟩ σ (.sl o 0 l.length) = some (encL rBox l) := srcA_sl (ti := ⟨2, 32, z, k⟩) (fun _ => rfl) h
theorem ix23 {l : List gBox} {i : Int} {v : gBox} (h : idx l i = some v) (σ : AHeap) (k : IntKind) : indexAddrA T σ 23 (.fsl (encL rBox l)) (.int k i) = some (.fptr (rBox v) 0) := ixA_fsl (e := 83) rfl rfl (fun _ => rfl) h σ k
@[simp] theorem len24 (l : List Int) : lenA T 24 (.fsl (encL rI l)) = some (.int .i64 (ilen l)) := lenA_fsl (e := 3) rfl rI l
@[simp] theorem leno24 (o r : Nat) (l : List Int) : lenA T 24 (.sl o r l.length) = some (.int .i64 (ilen l)) := lenA_sl (e := 3) rfl o r l
@[simp] theorem lenn24 : lenA T 24 .nilsl = some (.int .i64 0) := rfl
@[simp] theorem lene24 : lenA T 24 .esl = some (.int .i64 0) := rfl
@[simp] theorem src24 (σ : AHeap) (l : List Int) (z : List AV) (k : TK) : srcA ⟨1, 8, z, k⟩ σ (.fsl (encL rI l)) = some (encL rI l) := srcA_fsl (f := rI) (fun _ => rfl) σ l
@[simp] theorem srco24 {σ : AHeap} {o : Nat} {l : List Int} (z : List AV) (k : TK) (h : σ.objs o = some ⟨3, 1, encL rI l⟩) : srcA ⟨1, 8, z, k⟩ σ (.sl o 0 l.length) = some (encL rI l) := srcA_sl (ti := ⟨1, 8, z, k⟩) (fun _ => rfl) h
theorem ix24 {l : List Int} {i : Int} {v : Int} (h : idx l i = some v) (σ : AHeap) (k : IntKind) : indexAddrA T σ 24 (.fsl (encL rI l)) (.int k i) = some (.fptr (rI v) 0) := ixA_fsl (e := 3) rfl rfl (fun _ => rfl) h σ k
theorem ixo24 {l : List Int} {i : Int} {v : Int} (h : idx l i = some v) {σ : AHeap} {o : Nat} (hs : (σ.objs o).map AObj.sz = some 1) (k : IntKind) : indexAddrA T σ 24 (.sl o 0 l.length) (.int k i) = some (.ptr o i.toNat 0) := ixA_sl (e := 3) rfl rfl h hs k
theorem app24 {l m r : List Int} (h : appx 8 l m = some r) {σ : AHeap} {o : Nat} {x : AV} (id : Nat) (ho : σ.objs o = some ⟨3, 1, encL rI l⟩) (hx : srcA ⟨1, 8, [.int .i64 0], .int .i64⟩ σ x = some (encL rI m)) :
  appendA T 24 id (.sl o 0 l.length) x σ = some (.sl id 0 r.length, (σ.kill o).put id ⟨3, 1, encL rI r⟩) := appA_sl (e := 3) rfl rfl (by decide) h id ho hx
theorem appe24 {m r : List Int} (h : appx 8 [] m = some r) {σ : AHeap} {x : AV} (id : Nat) (hx : srcA ⟨1, 8, [.int .i64 0], .int .i64⟩ σ x = some (encL rI m)) :
  appendA T 24 id .esl x σ = some (.sl id 0 r.length, σ.put id ⟨3, 1, encL rI r⟩) := appA_esl (e := 3) rfl rfl (by decide) h id hx
theorem appf24 {m r : List Int} (h : appx 8 [] m = some r) {σ : AHeap} {s x : AV} (hs : s.noRoom = true) (hx : srcA ⟨1, 8, [.int .i64 0], .int .i64⟩ σ x = some (encL rI m)) :
  appendF T 24 s x σ = some (.fsl (encL rI r), σ) := appF_nil (e := 3) (ti := ⟨1, 8, [.int .i64 0], .int .i64⟩) rfl rfl (by decide) h hs hx
theorem mak24 {n : Int} {r : List Int} (h : makex 8 n (0 : Int) = some r) (σ : AHeap) (id : Nat) (k k' : IntKind) : makeA T 24 false id (.int k n) (.int k' n) σ = some (.sl id 0 r.length, σ.put id ⟨3, 1, encL rI r⟩) := makA_sl (e := 3) (ti := ⟨1, 8, [.int .i64 0], .int .i64⟩) rfl rfl (by decide) (z := (0 : Int)) rfl h σ id k k'
theorem cutl_24 {l r : List Int} {a : Int} (h : cutx l a (ilen l) = some r) (σ : AHeap) {ka : IntKind} : cutA T σ 24 (.fsl (encL rI l)) (some (.int ka a)) none = some (.fsl (encL rI r)) := cutA_fsl (e := 3) rfl rfl (fun _ => rfl) rfl rfl h σ
@[simp] theorem len28 (l : List gMachine) : lenA T 28 (.fsl (encL rMachine l)) = some (.int .i64 (ilen l)) := lenA_fsl (e := 63) rfl rMachine l
@[simp] theorem leno28 (o r : Nat) (l : List gMachine) : lenA T 28 (.sl o r l.length) = some (.int .i64 (ilen l)) := lenA_sl (e := 63) rfl o r l
@[simp] theorem lenn28 : lenA T 28 .nilsl = some (.int .i64 0) := rfl
@[simp] theorem lene28 : lenA T 28 .esl = some (.int .i64 0) := rfl
@[simp] theorem src28 (σ : AHeap) (l : List gMachine) (z : List AV) (k : TK) : srcA ⟨3, 56, z, k⟩ σ (.fsl (encL rMachine l)) = some (encL rMachine l) := srcA_fsl (f := rMachine) (fun _ => rfl) σ l
@[simp] theorem srco28 {σ : AHeap} {o : Nat} {l : List gMachine} (z : List AV) (k : TK) (h : σ.objs o = some ⟨63, 3, encL rMachine l⟩) : srcA ⟨3, 56, z, k⟩ σ (.sl o 0 l.length) = some (encL rMachine l) := srcA_sl (ti := ⟨3, 56, z, k⟩) (fun _ => rfl) h
theorem ix28 {l : List gMachine} {i : Int} {v : gMachine} (h : idx l i = some v) (σ : AHeap) (k : IntKind) : indexAddrA T σ 28 (.fsl (encL rMachine l)) (.int k i) = some (.fptr (rMachine v) 0) := ixA_fsl (e := 63) rfl rfl (fun _ => rfl) h σ k
theorem ixo28 {l : List gMachine} {i : Int} {v : gMachine} (h : idx l i = some v) {σ : AHeap} {o : Nat} (hs : (σ.objs o).map AObj.sz = some 3) (k : IntKind) : indexAddrA T σ 28 (.sl o 0 l.length) (.int k i) = some (.ptr o i.toNat 0) := ixA_sl (e := 63) rfl rfl h hs k
theorem makr28 {n : Int} {r : List gMachine} (h : makex 56 n (⟨([] : List Int), 0, ([] : List Int)⟩ : gMachine) = some r) (σ : AHeap) (id : Nat) (k k' : IntKind) : makeA T 28 false id (.int k n) (.int k' n) σ = some (.sl id 0 r.length, σ.put id ⟨63, 3, List.replicate n.toNat [.nilsl, .int .i64 0, .nilsl]⟩) := makA_rep (e := 63) (ti := ⟨3, 56, [.nilsl, .int .i64 0, .nilsl], .struct [(0, 24), (1, 3), (2, 24)]⟩) rfl rfl (by decide) h σ id k k'
@[simp] theorem len29 (l : List gBox) : lenA T 29 (.fsl (encL rBox l)) = some (.int .i64 (ilen l)) := lenA_fsl (e := 93) rfl rBox l
@[simp] theorem leno29 (o r : Nat) (l : List gBox) : lenA T 29 (.sl o r l.length) = some (.int .i64 (ilen l)) := lenA_sl (e := 93) rfl o r l
@[simp] theorem lenn29 : lenA T 29 .nilsl = some (.int .i64 0) := rfl
@[simp] theorem lene29 : lenA T 29 .esl = some (.int .i64 0) := rfl
@[simp] theorem src29 (σ : AHeap) (l : List gBox) (z : List AV) (k : TK) : srcA ⟨2, 32, z, k⟩ σ (.fsl (encL rBox l)) = some (encL rBox l) := srcA_fsl (f := rBox) (fun _ => rfl) σ l
@[simp] theorem srco29 {σ : AHeap} {o : Nat} {l : List gBox} (z : List AV) (k : TK) (h : σ.objs o = some ⟨93, 2, encL rBox l⟩) : srcA ⟨2, 32, z, k⟩ σ (.sl o 0 l.length) = some (encL rBox l) := srcA_sl (ti := ⟨2, 32, z, k⟩) (fun _ => rfl) h
theorem ix29 {l : List gBox} {i : Int} {v : gBox} (h : idx l i = some v) (σ : AHeap) (k : IntKind) : indexAddrA T σ 29 (.fsl (encL rBox l)) (.int k i) = some (.fptr (rBox v) 0) := ixA_fsl (e := 93) rfl rfl (fun _ => rfl) h σ k
theorem ixo29 {l : List gBox} {i : Int} {v : gBox} (h : idx l i = some v) {σ : AHeap} {o : Nat} (hs : (σ.objs o).map AObj.sz = some 2) (k : IntKind) : indexAddrA T σ 29 (.sl o 0 l.length) (.int k i) = some (.ptr o i.toNat 0) := ixA_sl (e := 93) rfl rfl h hs k
theorem app29 {l m r : List gBox} (h : appx 32 l m = some r) {σ : AHeap} {o : Nat} {x : AV} (id : Nat) (ho : σ.objs o = some ⟨93, 2, encL rBox l⟩) (hx : srcA ⟨2, 32, [.int .i64 0, .nilsl], .struct [(0, 3), (1, 24)]⟩ σ x = some (encL rBox m)) :
  appendA T 29 id (.sl o 0 l.length) x σ = some (.sl id 0 r.length, (σ.kill o).put id ⟨93, 2, encL rBox r⟩) := appA_sl (e := 93) rfl rfl (by decide) h id ho hx
theorem makr29 {n : Int} {r : List gBox} (h : makex 32 n (⟨0, ([] : List Int)⟩ : gBox) = some r) (σ : AHeap) (id : Nat) (k k' : IntKind) : makeA T 29 false id (.int k n) (.int k' n) σ = some (.sl id 0 r.length, σ.put id ⟨93, 2, List.replicate n.toNat [.int .i64 0, .nilsl]⟩) := makA_rep (e := 93) (ti := ⟨2, 32, [.int .i64 0, .nilsl], .struct [(0, 3), (1, 24)]⟩) rfl rfl (by decide) h σ id k k'
theorem gx109 {l : List Int} {i : Int} {v : Int} (h : idx l i = some v) (σ : AHeap) (k : IntKind) (hn : l.length = 11 := by rfl) : indexAddrA T σ 109 (.fptr (gI l) 0) (.int k i) = some (.fptr (rI v) 0) := by rw [gI_eq]; exact gixR (e := 3) rfl rfl (fun _ => rfl) hn h σ k
theorem gx134 {l : List gInstrRow} {i : Int} {v : gInstrRow} (h : idx l i = some v) (σ : AHeap) (k : IntKind) (hn : l.length = 21 := by rfl) : indexAddrA T σ 134 (.fptr (gR rInstrRow l) 0) (.int k i) = some (.fptr (rInstrRow v) 0) := gixR (e := 133) rfl rfl (fun _ => rfl) hn h σ k
theorem cutoh_24 {l r : List Int} {b : Int} (h : cutx l 0 b = some r) {σ : AHeap} {o : Nat} {kb : IntKind} (hs : (σ.objs o).map AObj.sz = some 1) : cutA T σ 24 (.sl o 0 l.length) none (some (.int kb b)) = some (.sl o 0 r.length) := cutA_sl (e := 3) rfl rfl rfl rfl h hs
theorem cutol_24 {l r : List Int} {a : Int} (h : cutx l a (ilen l) = some r) {σ : AHeap} {o : Nat} {ka : IntKind} (hs : (σ.objs o).map AObj.sz = some 1) : cutA T σ 24 (.sl o 0 l.length) (some (.int ka a)) none = some (.sl o a.toNat r.length) := cutA_sl (e := 3) rfl rfl rfl rfl h hs
theorem appv24 {l l' m r : List Int} {b : Int} (hc : cutx l 0 b = some l') (h : appx 8 l' m = some r) {σ : AHeap} {o : Nat} {x : AV} (id : Nat) (ho : σ.objs o = some ⟨3, 1, encL rI l⟩) (hx : srcA ⟨1, 8, [.int .i64 0], .int .i64⟩ σ x = some (encL rI m)) :
  appendA T 24 id (.sl o 0 l'.length) x σ = some (.sl id 0 r.length, (σ.kill o).put id ⟨3, 1, encL rI r⟩) := appA_slv (e := 3) (ti := ⟨1, 8, [.int .i64 0], .int .i64⟩) rfl rfl (by decide) hc h id ho hx
theorem srcv24 {l r : List Int} {a b : Int} (hv : cutx l a b = some r) {σ : AHeap} {o : Nat} (z : List AV) (k : TK) (h : σ.objs o = some ⟨3, 1, encL rI l⟩) : srcA ⟨1, 8, z, k⟩ σ (.sl o a.toNat r.length) = some (encL rI r) := srcA_slv (ti := ⟨1, 8, z, k⟩) (fun _ => rfl) hv h
theorem srcvn24 {l r : List Int} {a b : Int} (n : Nat) (hv : cutx l a b = some r) (hn : a.toNat = n) {σ : AHeap} {o : Nat} (z : List AV) (k : TK) (h : σ.objs o = some ⟨3, 1, encL rI l⟩) : srcA ⟨1, 8, z, k⟩ σ (.sl o n r.length) = some (encL rI r) := hn ▸ srcv24 hv z k h
theorem apr28 (f : gMachine → List AV) {l r : List gMachine} {v : gMachine} (h : appx 56 l [v] = some r) {σ : AHeap} {o : Nat} (x0 x1 x2 : AV) (id : Nat) (ho : σ.objs o = some ⟨63, 3, encL f l⟩) :
  appendA T 28 id (.sl o 0 l.length) (.fsl [[x0, x1, x2]]) σ = some (.sl id 0 r.length, (σ.kill o).put id ⟨63, 3, encL f l ++ [[x0, x1, x2]]⟩) := aprA_sl (e := 63) (ti := ⟨3, 56, [.nilsl, .int .i64 0, .nilsl], .struct [(0, 24), (1, 3), (2, 24)]⟩) rfl rfl (by decide) h id ho (srcA_raw rfl σ)
theorem apr29 (f : gBox → List AV) {l r : List gBox} {v : gBox} (h : appx 32 l [v] = some r) {σ : AHeap} {o : Nat} (x0 x1 : AV) (id : Nat) (ho : σ.objs o = some ⟨93, 2, encL f l⟩) :
  appendA T 29 id (.sl o 0 l.length) (.fsl [[x0, x1]]) σ = some (.sl id 0 r.length, (σ.kill o).put id ⟨93, 2, encL f l ++ [[x0, x1]]⟩) := aprA_sl (e := 93) (ti := ⟨2, 32, [.int .i64 0, .nilsl], .struct [(0, 3), (1, 24)]⟩) rfl rfl (by decide) h id ho (srcA_raw rfl σ)
theorem nf_rI (n : Nat) (x : Int) : ((rI x).all (AV.nf (n + 1))) = true := by simp [AV.nf, AV.simp1]
def rBox_o (x : gBox) : List AV := [.int .i64 x.Room, .osl 3 1 (encL rI x.Items)]
@[simp] theorem rBox_o_eq (x : gBox) : rBox_o x = [.int .i64 x.Room, .osl 3 1 (encL rI x.Items)] := rfl
theorem nf_rBox_o (n : Nat) (x : gBox) : ((rBox_o x).all (AV.nf (n + 2))) = true := by
 simp only [rBox_o_eq, List.all_cons, List.all_nil, Bool.and_true, Bool.and_eq_true]
 exact ⟨rfl, encL_nf (fun x => nf_rI (n + 0) x) _⟩
@[simp] theorem thawm_rBox_o {D : Nat → Bool} {σ : AHeap} {d : Nat} (l : List gBox) : (encL rBox_o l).map (fun e => e.map (thawA D σ (d + 1))) = encL rBox l := by
 simp only [encL, List.map_map]
 refine List.map_congr_left fun x _ => ?_
 simp [thawA]
theorem set_rBox_o (l : List gBox) (k : Nat) (xRoom : Int) (xItems : (List Int)) : (encL rBox_o l).set k [.int .i64 xRoom, .osl 3 1 (encL rI xItems)] = encL rBox_o (l.set k (⟨xRoom, xItems⟩ : gBox)) := encL_set rBox_o l k (⟨xRoom, xItems⟩ : gBox)
@[simp] theorem len_rBox_o (x : gBox) : (rBox_o x).length = 2 := rfl
def rMachine_of (x : gMachine) : List AV := [.osl 3 1 (encL rI x.Regs), .int .i64 x.Pc, .fsl (encL rI x.Mem)]
@[simp] theorem rMachine_of_eq (x : gMachine) : rMachine_of x = [.osl 3 1 (encL rI x.Regs), .int .i64 x.Pc, .fsl (encL rI x.Mem)] := rfl
@[simp] theorem len_rMachine_of (x : gMachine) : (rMachine_of x).length = 3 := rfl
def rMachine_oo (x : gMachine) : List AV := [.osl 3 1 (encL rI x.Regs), .int .i64 x.Pc, .osl 3 1 (encL rI x.Mem)]
@[simp] theorem rMachine_oo_eq (x : gMachine) : rMachine_oo x = [.osl 3 1 (encL rI x.Regs), .int .i64 x.Pc, .osl 3 1 (encL rI x.Mem)] := rfl
theorem nf_rMachine_oo (n : Nat) (x : gMachine) : ((rMachine_oo x).all (AV.nf (n + 2))) = true := by
 simp only [rMachine_oo_eq, List.all_cons, List.all_nil, Bool.and_true, Bool.and_eq_true]
 exact ⟨encL_nf (fun x => nf_rI (n + 0) x) _, rfl, encL_nf (fun x => nf_rI (n + 0) x) _⟩
@[simp] theorem thawm_rMachine_oo {D : Nat → Bool} {σ : AHeap} {d : Nat} (l : List gMachine) : (encL rMachine_oo l).map (fun e => e.map (thawA D σ (d + 1))) = encL rMachine l := by
 simp only [encL, List.map_map]
 refine List.map_congr_left fun x _ => ?_
 simp [thawA]
theorem set_rMachine_oo (l : List gMachine) (k : Nat) (xRegs : (List Int)) (xPc : Int) (xMem : (List Int)) : (encL rMachine_oo l).set k [.osl 3 1 (encL rI xRegs), .int .i64 xPc, .osl 3 1 (encL rI xMem)] = encL rMachine_oo (l.set k (⟨xRegs, xPc, xMem⟩ : gMachine)) := encL_set rMachine_oo l k (⟨xRegs, xPc, xMem⟩ : gMachine)
@[simp] theorem len_rMachine_oo (x : gMachine) : (rMachine_oo x).length = 3 := rfl
end Go.Proofs.YtlcilhmkbmgkeaaGreatDoor
