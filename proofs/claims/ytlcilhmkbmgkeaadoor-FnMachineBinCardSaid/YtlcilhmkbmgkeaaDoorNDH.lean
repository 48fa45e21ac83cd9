/- Words of the proof: DH. No conditions. -/
import Derived.Test.YtlcilhmkbmgkeaaDoorNDR0
import Derived.Test.YtlcilhmkbmgkeaaDoorProg
import Derived.KernelRfl
set_option linter.unusedSimpArgs false
set_option linter.unusedVariables false
set_option maxRecDepth 20000
namespace Go.Proofs.YtlcilhmkbmgkeaaDoor
open Go Go.Abs Go.RowKit

def T : Types := fun t =>
 match t with
 | 3 => some ⟨1, 8, [.int .i64 0], .int .i64⟩ -- int
 | 4 => some ⟨1, 1, [.bool false], .bool⟩ -- bool
 | 5 => some ⟨1, 1, [.int .u8 0], .int .u8⟩ -- uint8
 | 9 => some ⟨1, 16, [.str emptyS], .str⟩ -- string
 | 21 => some ⟨1, 4, [.int .i32 0], .int .i32⟩ -- int32
 | 22 => some ⟨1, 24, [.nilsl], .slice 3⟩ -- []int
 | 41 => some ⟨1, 24, [.nilsl], .slice 5⟩ -- []uint8
 | 43 => some ⟨5, 40, [.int .i64 0, .int .i64 0, .int .i64 0, .int .i64 0, .int .i64 0], .struct [(0, 3), (1, 3), (2, 3), (3, 3), (4, 3)]⟩ -- impl.Quad
 | 46 => some ⟨1, 24, [.nilsl], .slice 78⟩ -- []impl.Instr
 | 53 => some ⟨3, 56, [.nilsl, .int .i64 0, .nilsl], .struct [(0, 22), (1, 3), (2, 22)]⟩ -- impl.Machine
 | 72 => some ⟨1, 8, [.nilp], .ptr⟩ -- *spec.l6Rd
 | 78 => some ⟨5, 40, [.int .i64 0, .int .i64 0, .int .i64 0, .int .i64 0, .int .i64 0], .struct [(0, 3), (1, 3), (2, 3), (3, 3), (4, 3)]⟩ -- impl.Instr
 | 96 => some ⟨2, 32, [.nilsl, .int .i64 0], .struct [(0, 41), (1, 3)]⟩ -- spec.l6Rd
 | 98 => some ⟨1, 8, [.nilp], .ptr⟩ -- *impl.emitter
 | 100 => some ⟨2, 32, [.int .i64 0, .nilsl], .struct [(0, 3), (1, 46)]⟩ -- impl.emitter
 | 106 => some ⟨12, 96, [.int .i64 0, .int .i64 0, .int .i64 0, .int .i64 0, .int .i64 0, .int .i64 0, .int .i64 0, .int .i64 0, .int .i64 0, .int .i64 0, .int .i64 0, .int .i64 0], .array 12 3⟩ -- [12]int
 | 118 => some ⟨4, 40, [.str emptyS, .int .i64 0, .int .i64 0, .int .i64 0], .struct [(0, 9), (1, 3), (2, 3), (3, 3)]⟩ -- impl.instrRow
 | 119 => some ⟨84, 840, [.str emptyS, .int .i64 0, .int .i64 0, .int .i64 0, .str emptyS, .int .i64 0, .int .i64 0, .int .i64 0, .str emptyS, .int .i64 0, .int .i64 0, .int .i64 0, .str emptyS, .int .i64 0, .int .i64 0, .int .i64 0, .str emptyS, .int .i64 0, .int .i64 0, .int .i64 0, .str emptyS, .int .i64 0, .int .i64 0, .int .i64 0, .str emptyS, .int .i64 0, .int .i64 0, .int .i64 0, .str emptyS, .int .i64 0, .int .i64 0, .int .i64 0, .str emptyS, .int .i64 0, .int .i64 0, .int .i64 0, .str emptyS, .int .i64 0, .int .i64 0, .int .i64 0, .str emptyS, .int .i64 0, .int .i64 0, .int .i64 0, .str emptyS, .int .i64 0, .int .i64 0, .int .i64 0, .str emptyS, .int .i64 0, .int .i64 0, .int .i64 0, .str emptyS, .int .i64 0, .int .i64 0, .int .i64 0, .str emptyS, .int .i64 0, .int .i64 0, .int .i64 0, .str emptyS, .int .i64 0, .int .i64 0, .int .i64 0, .str emptyS, .int .i64 0, .int .i64 0, .int .i64 0, .str emptyS, .int .i64 0, .int .i64 0, .int .i64 0, .str emptyS, .int .i64 0, .int .i64 0, .int .i64 0, .str emptyS, .int .i64 0, .int .i64 0, .int .i64 0, .str emptyS, .int .i64 0, .int .i64 0, .int .i64 0], .array 21 118⟩ -- [21]impl.instrRow
 | 122 => some ⟨1, 8, [.nilp], .ptr⟩ -- *impl.Machine
 | 123 => some ⟨1, 8, [.nilp], .ptr⟩ -- *int
 | 129 => some ⟨11, 88, [.int .i64 0, .int .i64 0, .int .i64 0, .int .i64 0, .int .i64 0, .int .i64 0, .int .i64 0, .int .i64 0, .int .i64 0, .int .i64 0, .int .i64 0], .array 11 3⟩ -- [11]int
 | 131 => some ⟨8, 64, [.int .i64 0, .int .i64 0, .int .i64 0, .int .i64 0, .int .i64 0, .int .i64 0, .int .i64 0, .int .i64 0], .array 8 3⟩ -- [8]int
 | 133 => some ⟨1, 4, [.int .u32 0], .int .u32⟩ -- uint32
 | _ => none

@[simp] theorem T_3 : T 3 = some ⟨1, 8, [.int .i64 0], .int .i64⟩ := rfl
@[simp] theorem T_4 : T 4 = some ⟨1, 1, [.bool false], .bool⟩ := rfl
@[simp] theorem T_5 : T 5 = some ⟨1, 1, [.int .u8 0], .int .u8⟩ := rfl
@[simp] theorem T_9 : T 9 = some ⟨1, 16, [.str emptyS], .str⟩ := rfl
@[simp] theorem T_21 : T 21 = some ⟨1, 4, [.int .i32 0], .int .i32⟩ := rfl
@[simp] theorem T_22 : T 22 = some ⟨1, 24, [.nilsl], .slice 3⟩ := rfl
@[simp] theorem T_41 : T 41 = some ⟨1, 24, [.nilsl], .slice 5⟩ := rfl
@[simp] theorem T_43 : T 43 = some ⟨5, 40, [.int .i64 0, .int .i64 0, .int .i64 0, .int .i64 0, .int .i64 0], .struct [(0, 3), (1, 3), (2, 3), (3, 3), (4, 3)]⟩ := rfl
@[simp] theorem T_46 : T 46 = some ⟨1, 24, [.nilsl], .slice 78⟩ := rfl
@[simp] theorem T_53 : T 53 = some ⟨3, 56, [.nilsl, .int .i64 0, .nilsl], .struct [(0, 22), (1, 3), (2, 22)]⟩ := rfl
@[simp] theorem T_72 : T 72 = some ⟨1, 8, [.nilp], .ptr⟩ := rfl
@[simp] theorem T_78 : T 78 = some ⟨5, 40, [.int .i64 0, .int .i64 0, .int .i64 0, .int .i64 0, .int .i64 0], .struct [(0, 3), (1, 3), (2, 3), (3, 3), (4, 3)]⟩ := rfl
@[simp] theorem T_96 : T 96 = some ⟨2, 32, [.nilsl, .int .i64 0], .struct [(0, 41), (1, 3)]⟩ := rfl
@[simp] theorem T_98 : T 98 = some ⟨1, 8, [.nilp], .ptr⟩ := rfl
@[simp] theorem T_100 : T 100 = some ⟨2, 32, [.int .i64 0, .nilsl], .struct [(0, 3), (1, 46)]⟩ := rfl
@[simp] theorem T_106 : T 106 = some ⟨12, 96, [.int .i64 0, .int .i64 0, .int .i64 0, .int .i64 0, .int .i64 0, .int .i64 0, .int .i64 0, .int .i64 0, .int .i64 0, .int .i64 0, .int .i64 0, .int .i64 0], .array 12 3⟩ := rfl
@[simp] theorem T_118 : T 118 = some ⟨4, 40, [.str emptyS, .int .i64 0, .int .i64 0, .int .i64 0], .struct [(0, 9), (1, 3), (2, 3), (3, 3)]⟩ := rfl
@[simp] theorem T_119 : T 119 = some ⟨84, 840, [.str emptyS, .int .i64 0, .int .i64 0, .int .i64 0, .str emptyS, .int .i64 0, .int .i64 0, .int .i64 0, .str emptyS, .int .i64 0, .int .i64 0, .int .i64 0, .str emptyS, .int .i64 0, .int .i64 0, .int .i64 0, .str emptyS, .int .i64 0, .int .i64 0, .int .i64 0, .str emptyS, .int .i64 0, .int .i64 0, .int .i64 0, .str emptyS, .int .i64 0, .int .i64 0, .int .i64 0, .str emptyS, .int .i64 0, .int .i64 0, .int .i64 0, .str emptyS, .int .i64 0, .int .i64 0, .int .i64 0, .str emptyS, .int .i64 0, .int .i64 0, .int .i64 0, .str emptyS, .int .i64 0, .int .i64 0, .int .i64 0, .str emptyS, .int .i64 0, .int .i64 0, .int .i64 0, .str emptyS, .int .i64 0, .int .i64 0, .int .i64 0, .str emptyS, .int .i64 0, .int .i64 0, .int .i64 0, .str emptyS, .int .i64 0, .int .i64 0, .int .i64 0, .str emptyS, .int .i64 0, .int .i64 0, .int .i64 0, .str emptyS, .int .i64 0, .int .i64 0, .int .i64 0, .str emptyS, .int .i64 0, .int .i64 0, .int .i64 0, .str emptyS, .int .i64 0, .int .i64 0, .int .i64 0, .str emptyS, .int .i64 0, .int .i64 0, .int .i64 0, .str emptyS, .int .i64 0, .int .i64 0, .int .i64 0], .array 21 118⟩ := rfl
@[simp] theorem T_122 : T 122 = some ⟨1, 8, [.nilp], .ptr⟩ := rfl
@[simp] theorem T_123 : T 123 = some ⟨1, 8, [.nilp], .ptr⟩ := rfl
@[simp] theorem T_129 : T 129 = some ⟨11, 88, [.int .i64 0, .int .i64 0, .int .i64 0, .int .i64 0, .int .i64 0, .int .i64 0, .int .i64 0, .int .i64 0, .int .i64 0, .int .i64 0, .int .i64 0], .array 11 3⟩ := rfl
@[simp] theorem T_131 : T 131 = some ⟨8, 64, [.int .i64 0, .int .i64 0, .int .i64 0, .int .i64 0, .int .i64 0, .int .i64 0, .int .i64 0, .int .i64 0], .array 8 3⟩ := rfl
@[simp] theorem T_133 : T 133 = some ⟨1, 4, [.int .u32 0], .int .u32⟩ := rfl
theorem tok : TOk Tryd.prog T := by
 intro t i h
 unfold T at h
 split at h <;> first | (cases h; done) | skip
 all_goals (cases h; refine ⟨by kernel_rfl, by kernel_rfl, by kernel_rfl, by kernel_rfl, by kernel_rfl⟩)
theorem tokM : Tryd.prog.follows .mixedOrders = true := by kernel_rfl
def G : Globs := fun g => match g with
 | 0 => some (gI [7, 8, 6, 8, 11, 9, 10, 1, 2, 3, 4, 5])
 | 1 => some (gR rInstrRow instrTab)
 | 2 => some (gI [8, 9, 10, 11, 12, 3, 1, 2, 6, 7, 5])
 | 3 => some (gI [8, 9, 18, 19, 20, 21, 22, 23])
 | _ => none
@[simp] theorem G_0 : G 0 = some (gI [7, 8, 6, 8, 11, 9, 10, 1, 2, 3, 4, 5]) := rfl
@[simp] theorem G_1 : G 1 = some (gR rInstrRow instrTab) := rfl
@[simp] theorem G_2 : G 2 = some (gI [8, 9, 10, 11, 12, 3, 1, 2, 6, 7, 5]) := rfl
@[simp] theorem G_3 : G 3 = some (gI [8, 9, 18, 19, 20, 21, 22, 23]) := rfl
@[simp] theorem bin_ii (op : BinOp) (t : TypeId) (k : IntKind) (a b : Int) : bin T op t (.int k a) (.int k b) = ibin op k a b := by simp [bin]
@[simp] theorem bin_shl (t : TypeId) (k k' : IntKind) (a b : Int) : bin T .shl t (.int k a) (.int k' b) = ibin .shl k a b := by simp [bin]
@[simp] theorem bin_shr (t : TypeId) (k k' : IntKind) (a b : Int) : bin T .shr t (.int k a) (.int k' b) = ibin .shr k a b := by simp [bin]
@[simp ↓] theorem sueq_43 (xOp xDst xA xB xN yOp yDst yA yB yN : Int) : bin T .eql 43 (.agg [.int .i64 xOp, .int .i64 xDst, .int .i64 xA, .int .i64 xB, .int .i64 xN]) (.agg [.int .i64 yOp, .int .i64 yDst, .int .i64 yA, .int .i64 yB, .int .i64 yN]) = some (.bool (eqD (⟨xOp, xDst, xA, xB, xN⟩ : gQuad) (⟨yOp, yDst, yA, yB, yN⟩ : gQuad))) := by
 have h : eqAgg T 43 [.int .i64 xOp, .int .i64 xDst, .int .i64 xA, .int .i64 xB, .int .i64 xN] [.int .i64 yOp, .int .i64 yDst, .int .i64 yA, .int .i64 yB, .int .i64 yN] = some (decide ((⟨xOp, xDst, xA, xB, xN⟩ : gQuad) = (⟨yOp, yDst, yA, yB, yN⟩ : gQuad))) := by
  simp [eqAgg, flatT, eqCells, gQuad.mk.injEq, Bool.decide_and, decide_eq_true_eq]
  try rfl
 simp only [bin, h, Option.map_some, bnot, eqD]
@[simp ↓] theorem sune_43 (xOp xDst xA xB xN yOp yDst yA yB yN : Int) : bin T .neq 43 (.agg [.int .i64 xOp, .int .i64 xDst, .int .i64 xA, .int .i64 xB, .int .i64 xN]) (.agg [.int .i64 yOp, .int .i64 yDst, .int .i64 yA, .int .i64 yB, .int .i64 yN]) = some (.bool (bnot (eqD (⟨xOp, xDst, xA, xB, xN⟩ : gQuad) (⟨yOp, yDst, yA, yB, yN⟩ : gQuad)))) := by
 have h : eqAgg T 43 [.int .i64 xOp, .int .i64 xDst, .int .i64 xA, .int .i64 xB, .int .i64 xN] [.int .i64 yOp, .int .i64 yDst, .int .i64 yA, .int .i64 yB, .int .i64 yN] = some (decide ((⟨xOp, xDst, xA, xB, xN⟩ : gQuad) = (⟨yOp, yDst, yA, yB, yN⟩ : gQuad))) := by
  simp [eqAgg, flatT, eqCells, gQuad.mk.injEq, Bool.decide_and, decide_eq_true_eq]
  try rfl
 simp only [bin, h, Option.map_some, bnot, eqD]
@[simp ↓] theorem sueq_78 (xOp xRd xRs xRt xImm yOp yRd yRs yRt yImm : Int) : bin T .eql 78 (.agg [.int .i64 xOp, .int .i64 xRd, .int .i64 xRs, .int .i64 xRt, .int .i64 xImm]) (.agg [.int .i64 yOp, .int .i64 yRd, .int .i64 yRs, .int .i64 yRt, .int .i64 yImm]) = some (.bool (eqD (⟨xOp, xRd, xRs, xRt, xImm⟩ : gInstr) (⟨yOp, yRd, yRs, yRt, yImm⟩ : gInstr))) := by
 have h : eqAgg T 78 [.int .i64 xOp, .int .i64 xRd, .int .i64 xRs, .int .i64 xRt, .int .i64 xImm] [.int .i64 yOp, .int .i64 yRd, .int .i64 yRs, .int .i64 yRt, .int .i64 yImm] = some (decide ((⟨xOp, xRd, xRs, xRt, xImm⟩ : gInstr) = (⟨yOp, yRd, yRs, yRt, yImm⟩ : gInstr))) := by
  simp [eqAgg, flatT, eqCells, gInstr.mk.injEq, Bool.decide_and, decide_eq_true_eq]
  try rfl
 simp only [bin, h, Option.map_some, bnot, eqD]
@[simp ↓] theorem sune_78 (xOp xRd xRs xRt xImm yOp yRd yRs yRt yImm : Int) : bin T .neq 78 (.agg [.int .i64 xOp, .int .i64 xRd, .int .i64 xRs, .int .i64 xRt, .int .i64 xImm]) (.agg [.int .i64 yOp, .int .i64 yRd, .int .i64 yRs, .int .i64 yRt, .int .i64 yImm]) = some (.bool (bnot (eqD (⟨xOp, xRd, xRs, xRt, xImm⟩ : gInstr) (⟨yOp, yRd, yRs, yRt, yImm⟩ : gInstr)))) := by
 have h : eqAgg T 78 [.int .i64 xOp, .int .i64 xRd, .int .i64 xRs, .int .i64 xRt, .int .i64 xImm] [.int .i64 yOp, .int .i64 yRd, .int .i64 yRs, .int .i64 yRt, .int .i64 yImm] = some (decide ((⟨xOp, xRd, xRs, xRt, xImm⟩ : gInstr) = (⟨yOp, yRd, yRs, yRt, yImm⟩ : gInstr))) := by
  simp [eqAgg, flatT, eqCells, gInstr.mk.injEq, Bool.decide_and, decide_eq_true_eq]
  try rfl
 simp only [bin, h, Option.map_some, bnot, eqD]
@[simp] theorem bineq_4 (a b : Bool) : bin T .eql 4 (.bool a) (.bool b) = some (.bool (beqb a b)) := rfl
@[simp] theorem binne_4 (a b : Bool) : bin T .neq 4 (.bool a) (.bool b) = some (.bool (bneb a b)) := rfl
@[simp] theorem conv_3_5 (k : IntKind) (n : Int) : convA T 3 5 (.int k n) = some (.int .u8 (iconv .u8 n)) := rfl
@[simp] theorem conv_3_133 (k : IntKind) (n : Int) : convA T 3 133 (.int k n) = some (.int .u32 (iconv .u32 n)) := rfl
@[simp] theorem conv_3_21 (k : IntKind) (n : Int) : convA T 3 21 (.int k n) = some (.int .i32 (iconv .i32 n)) := rfl
@[simp] theorem conv_5_3 (k : IntKind) (n : Int) : convA T 5 3 (.int k n) = some (.int .i64 (iconv .i64 n)) := rfl
@[simp] theorem conv_5_133 (k : IntKind) (n : Int) : convA T 5 133 (.int k n) = some (.int .u32 (iconv .u32 n)) := rfl
@[simp] theorem conv_5_21 (k : IntKind) (n : Int) : convA T 5 21 (.int k n) = some (.int .i32 (iconv .i32 n)) := rfl
@[simp] theorem conv_133_3 (k : IntKind) (n : Int) : convA T 133 3 (.int k n) = some (.int .i64 (iconv .i64 n)) := rfl
@[simp] theorem conv_133_5 (k : IntKind) (n : Int) : convA T 133 5 (.int k n) = some (.int .u8 (iconv .u8 n)) := rfl
@[simp] theorem conv_133_21 (k : IntKind) (n : Int) : convA T 133 21 (.int k n) = some (.int .i32 (iconv .i32 n)) := rfl
@[simp] theorem conv_21_3 (k : IntKind) (n : Int) : convA T 21 3 (.int k n) = some (.int .i64 (iconv .i64 n)) := rfl
@[simp] theorem conv_21_5 (k : IntKind) (n : Int) : convA T 21 5 (.int k n) = some (.int .u8 (iconv .u8 n)) := rfl
@[simp] theorem conv_21_133 (k : IntKind) (n : Int) : convA T 21 133 (.int k n) = some (.int .u32 (iconv .u32 n)) := rfl
@[simp] theorem len22 (l : List Int) : lenA T 22 (.fsl (encL rI l)) = some (.int .i64 (ilen l)) := lenA_fsl (e := 3) rfl rI l
@[simp] theorem leno22 (o r : Nat) (l : List Int) : lenA T 22 (.sl o r l.length) = some (.int .i64 (ilen l)) := lenA_sl (e := 3) rfl o r l
@[simp] theorem lenn22 : lenA T 22 .nilsl = some (.int .i64 0) := rfl
@[simp] theorem lene22 : lenA T 22 .esl = some (.int .i64 0) := rfl
@[simp] theorem src22 (σ : AHeap) (l : List Int) (z : List AV) (k : TK) : srcA ⟨1, 8, z, k⟩ σ (.fsl (encL rI l)) = some (encL rI l) := srcA_fsl (f := rI) (fun _ => rfl) σ l
@[simp] theorem srco22 {σ : AHeap} {o : Nat} {l : List Int} (z : List AV) (k : TK) (h : σ.objs o = some ⟨3, 1, encL rI l⟩) : srcA ⟨1, 8, z, k⟩ σ (.sl o 0 l.length) = some (encL rI l) := srcA_sl (ti := ⟨1, 8, z, k⟩) (fun _ => rfl) h
theorem ix22 {l : List Int} {i : Int} {v : Int} (h : idx l i = some v) (σ : AHeap) (k : IntKind) : indexAddrA T σ 22 (.fsl (encL rI l)) (.int k i) = some (.fptr (rI v) 0) := ixA_fsl (e := 3) rfl rfl (fun _ => rfl) h σ k
theorem ixo22 {l : List Int} {i : Int} {v : Int} (h : idx l i = some v) {σ : AHeap} {o : Nat} (hs : (σ.objs o).map AObj.sz = some 1) (k : IntKind) : indexAddrA T σ 22 (.sl o 0 l.length) (.int k i) = some (.ptr o i.toNat 0) := ixA_sl (e := 3) rfl rfl h hs k
theorem app22 {l m r : List Int} (h : appx 8 l m = some r) {σ : AHeap} {o : Nat} {x : AV} (id : Nat) (ho : σ.objs o = some ⟨3, 1, encL rI l⟩) (hx : srcA ⟨1, 8, [.int .i64 0], .int .i64⟩ σ x = some (encL rI m)) :
  appendA T 22 id (.sl o 0 l.length) x σ = some (.sl id 0 r.length, (σ.kill o).put id ⟨3, 1, encL rI r⟩) := appA_sl (e := 3) rfl rfl (by decide) h id ho hx
theorem appe22 {m r : List Int} (h : appx 8 [] m = some r) {σ : AHeap} {x : AV} (id : Nat) (hx : srcA ⟨1, 8, [.int .i64 0], .int .i64⟩ σ x = some (encL rI m)) :
  appendA T 22 id .esl x σ = some (.sl id 0 r.length, σ.put id ⟨3, 1, encL rI r⟩) := appA_esl (e := 3) rfl rfl (by decide) h id hx
theorem mak22 {n : Int} {r : List Int} (h : makex 8 n (0 : Int) = some r) (σ : AHeap) (id : Nat) (k k' : IntKind) : makeA T 22 false id (.int k n) (.int k' n) σ = some (.sl id 0 r.length, σ.put id ⟨3, 1, encL rI r⟩) := makA_sl (e := 3) (ti := ⟨1, 8, [.int .i64 0], .int .i64⟩) rfl rfl (by decide) (z := (0 : Int)) rfl h σ id k k'
@[simp] theorem len41 (l : List Int) : lenA T 41 (.fsl (encL rI_u8 l)) = some (.int .i64 (ilen l)) := lenA_fsl (e := 5) rfl rI_u8 l
@[simp] theorem leno41 (o r : Nat) (l : List Int) : lenA T 41 (.sl o r l.length) = some (.int .i64 (ilen l)) := lenA_sl (e := 5) rfl o r l
@[simp] theorem lenn41 : lenA T 41 .nilsl = some (.int .i64 0) := rfl
@[simp] theorem lene41 : lenA T 41 .esl = some (.int .i64 0) := rfl
@[simp] theorem src41 (σ : AHeap) (l : List Int) (z : List AV) (k : TK) : srcA ⟨1, 1, z, k⟩ σ (.fsl (encL rI_u8 l)) = some (encL rI_u8 l) := srcA_fsl (f := rI_u8) (fun _ => rfl) σ l
@[simp] theorem srco41 {σ : AHeap} {o : Nat} {l : List Int} (z : List AV) (k : TK) (h : σ.objs o = some ⟨5, 1, encL rI_u8 l⟩) : srcA ⟨1, 1, z, k⟩ σ (.sl o 0 l.length) = some (encL rI_u8 l) := srcA_sl (ti := ⟨1, 1, z, k⟩) (fun _ => rfl) h
theorem ix41 {l : List Int} {i : Int} {v : Int} (h : idx l i = some v) (σ : AHeap) (k : IntKind) : indexAddrA T σ 41 (.fsl (encL rI_u8 l)) (.int k i) = some (.fptr (rI_u8 v) 0) := ixA_fsl (e := 5) rfl rfl (fun _ => rfl) h σ k
theorem cuth_41 {l r : List Int} {b : Int} (h : cutx l 0 b = some r) (σ : AHeap) {kb : IntKind} : cutA T σ 41 (.fsl (encL rI_u8 l)) none (some (.int kb b)) = some (.fsl (encL rI_u8 r)) := cutA_fsl (e := 5) rfl rfl (fun _ => rfl) rfl rfl h σ
@[simp] theorem len46 (l : List gInstr) : lenA T 46 (.fsl (encL rInstr l)) = some (.int .i64 (ilen l)) := lenA_fsl (e := 78) rfl rInstr l
@[simp] theorem leno46 (o r : Nat) (l : List gInstr) : lenA T 46 (.sl o r l.length) = some (.int .i64 (ilen l)) := lenA_sl (e := 78) rfl o r l
@[simp] theorem lenn46 : lenA T 46 .nilsl = some (.int .i64 0) := rfl
@[simp] theorem lene46 : lenA T 46 .esl = some (.int .i64 0) := rfl
@[simp] theorem src46 (σ : AHeap) (l : List gInstr) (z : List AV) (k : TK) : srcA ⟨5, 40, z, k⟩ σ (.fsl (encL rInstr l)) = some (encL rInstr l) := srcA_fsl (f := rInstr) (fun _ => rfl) σ l
@[simp] theorem srco46 {σ : AHeap} {o : Nat} {l : List gInstr} (z : List AV) (k : TK) (h : σ.objs o = some ⟨78, 5, encL rInstr l⟩) : srcA ⟨5, 40, z, k⟩ σ (.sl o 0 l.length) = some (encL rInstr l) := srcA_sl (ti := ⟨5, 40, z, k⟩) (fun _ => rfl) h
theorem ix46 {l : List gInstr} {i : Int} {v : gInstr} (h : idx l i = some v) (σ : AHeap) (k : IntKind) : indexAddrA T σ 46 (.fsl (encL rInstr l)) (.int k i) = some (.fptr (rInstr v) 0) := ixA_fsl (e := 78) rfl rfl (fun _ => rfl) h σ k
theorem app46 {l m r : List gInstr} (h : appx 40 l m = some r) {σ : AHeap} {o : Nat} {x : AV} (id : Nat) (ho : σ.objs o = some ⟨78, 5, encL rInstr l⟩) (hx : srcA ⟨5, 40, [.int .i64 0, .int .i64 0, .int .i64 0, .int .i64 0, .int .i64 0], .struct [(0, 3), (1, 3), (2, 3), (3, 3), (4, 3)]⟩ σ x = some (encL rInstr m)) :
  appendA T 46 id (.sl o 0 l.length) x σ = some (.sl id 0 r.length, (σ.kill o).put id ⟨78, 5, encL rInstr r⟩) := appA_sl (e := 78) rfl rfl (by decide) h id ho hx
theorem gx106 {l : List Int} {i : Int} {v : Int} (h : idx l i = some v) (σ : AHeap) (k : IntKind) (hn : l.length = 12 := by rfl) : indexAddrA T σ 106 (.fptr (gI l) 0) (.int k i) = some (.fptr (rI v) 0) := by rw [gI_eq]; exact gixR (e := 3) rfl rfl (fun _ => rfl) hn h σ k
theorem gx119 {l : List gInstrRow} {i : Int} {v : gInstrRow} (h : idx l i = some v) (σ : AHeap) (k : IntKind) (hn : l.length = 21 := by rfl) : indexAddrA T σ 119 (.fptr (gR rInstrRow l) 0) (.int k i) = some (.fptr (rInstrRow v) 0) := gixR (e := 118) rfl rfl (fun _ => rfl) hn h σ k
theorem gx129 {l : List Int} {i : Int} {v : Int} (h : idx l i = some v) (σ : AHeap) (k : IntKind) (hn : l.length = 11 := by rfl) : indexAddrA T σ 129 (.fptr (gI l) 0) (.int k i) = some (.fptr (rI v) 0) := by rw [gI_eq]; exact gixR (e := 3) rfl rfl (fun _ => rfl) hn h σ k
theorem gx131 {l : List Int} {i : Int} {v : Int} (h : idx l i = some v) (σ : AHeap) (k : IntKind) (hn : l.length = 8 := by rfl) : indexAddrA T σ 131 (.fptr (gI l) 0) (.int k i) = some (.fptr (rI v) 0) := by rw [gI_eq]; exact gixR (e := 3) rfl rfl (fun _ => rfl) hn h σ k
theorem appz22_3 {l r : List Int} {n : Int} (h : appzx 8 l n 0 = some r) {σ : AHeap} {o : Nat} {kx : IntKind} (id : Nat) (ho : σ.objs o = some ⟨3, 1, encL rI l⟩) : appendZ T 22 3 id (.sl o 0 l.length) (.int kx n) σ = some (.sl id 0 r.length, (σ.kill o).put id ⟨3, 1, encL rI r⟩) := appZ_sl (e := 3) (f := rI) (z := 0) (ti := ⟨1, 8, [.int .i64 0], .int .i64⟩) rfl rfl rfl rfl (by decide) h id ho
theorem nf_rI (n : Nat) (x : Int) : ((rI x).all (AV.nf (n + 1))) = true := by simp [AV.nf, AV.simp1]
end Go.Proofs.YtlcilhmkbmgkeaaDoor
