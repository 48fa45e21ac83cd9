/- Words of the proof: DH. No conditions. -/
import Derived.Test.YtoklfbdcghgmlaaDoorNDR0
import Derived.Test.YtoklfbdcghgmlaaDoorProg
import Derived.KernelRfl
set_option linter.unusedSimpArgs false
set_option linter.unusedVariables false
set_option maxRecDepth 20000
namespace Go.Proofs.YtoklfbdcghgmlaaDoor
open Go Go.Abs Go.RowKit

def T : Types := fun t =>
  match t with
  | 3 => some ⟨1, 8, [.int .i64 0], .int .i64⟩ -- int
  | 4 => some ⟨1, 1, [.bool false], .bool⟩ -- bool
  | 5 => some ⟨1, 1, [.int .u8 0], .int .u8⟩ -- uint8
  | 21 => some ⟨1, 4, [.int .i32 0], .int .i32⟩ -- int32
  | 22 => some ⟨1, 24, [.nilsl], .slice 92⟩ -- []laws.Instr
  | 24 => some ⟨1, 24, [.nilsl], .slice 3⟩ -- []int
  | 26 => some ⟨3, 56, [.nilsl, .int .i64 0, .nilsl], .struct [(0, 24), (1, 3), (2, 24)]⟩ -- impl.Machine
  | 29 => some ⟨1, 24, [.nilsl], .slice 47⟩ -- []impl.Instr
  | 37 => some ⟨5, 40, [.int .i64 0, .int .i64 0, .int .i64 0, .int .i64 0, .int .i64 0], .struct [(0, 3), (1, 3), (2, 3), (3, 3), (4, 3)]⟩ -- laws.Quad
  | 40 => some ⟨5, 40, [.int .i64 0, .int .i64 0, .int .i64 0, .int .i64 0, .int .i64 0], .struct [(0, 3), (1, 3), (2, 3), (3, 3), (4, 3)]⟩ -- impl.Quad
  | 43 => some ⟨1, 24, [.nilsl], .slice 5⟩ -- []uint8
  | 47 => some ⟨5, 40, [.int .i64 0, .int .i64 0, .int .i64 0, .int .i64 0, .int .i64 0], .struct [(0, 3), (1, 3), (2, 3), (3, 3), (4, 3)]⟩ -- impl.Instr
  | 56 => some ⟨1, 24, [.nilsl], .slice 37⟩ -- []laws.Quad
  | 59 => some ⟨1, 24, [.nilsl], .slice 40⟩ -- []impl.Quad
  | 69 => some ⟨1, 24, [.nilsl], .slice 22⟩ -- [][]laws.Instr
  | 71 => some ⟨1, 24, [.nilsl], .slice 26⟩ -- []impl.Machine
  | 72 => some ⟨1, 24, [.nilsl], .slice 153⟩ -- []impl.Box
  | 74 => some ⟨5, 88, [.nilsl, .nilsl, .int .i64 0, .int .i64 0, .nilsl], .struct [(0, 71), (1, 72), (2, 3), (3, 3), (4, 24)]⟩ -- impl.Squad
  | 78 => some ⟨1, 24, [.nilsl], .slice 29⟩ -- [][]impl.Instr
  | 92 => some ⟨5, 40, [.int .i64 0, .int .i64 0, .int .i64 0, .int .i64 0, .int .i64 0], .struct [(0, 3), (1, 3), (2, 3), (3, 3), (4, 3)]⟩ -- laws.Instr
  | 98 => some ⟨1, 8, [.nilp], .ptr⟩ -- *spec.l6Rd
  | 127 => some ⟨1, 8, [.nilp], .ptr⟩ -- *impl.emitter
  | 129 => some ⟨2, 32, [.int .i64 0, .nilsl], .struct [(0, 3), (1, 29)]⟩ -- impl.emitter
  | 134 => some ⟨12, 96, [.int .i64 0, .int .i64 0, .int .i64 0, .int .i64 0, .int .i64 0, .int .i64 0, .int .i64 0, .int .i64 0, .int .i64 0, .int .i64 0, .int .i64 0, .int .i64 0], .array 12 3⟩ -- [12]int
  | 138 => some ⟨2, 32, [.nilsl, .int .i64 0], .struct [(0, 43), (1, 3)]⟩ -- spec.l6Rd
  | 144 => some ⟨1, 8, [.nilp], .ptr⟩ -- *impl.Machine
  | 145 => some ⟨1, 8, [.nilp], .ptr⟩ -- *int
  | 151 => some ⟨11, 88, [.int .i64 0, .int .i64 0, .int .i64 0, .int .i64 0, .int .i64 0, .int .i64 0, .int .i64 0, .int .i64 0, .int .i64 0, .int .i64 0, .int .i64 0], .array 11 3⟩ -- [11]int
  | 153 => some ⟨2, 32, [.int .i64 0, .nilsl], .struct [(0, 3), (1, 24)]⟩ -- impl.Box
  | 157 => some ⟨8, 64, [.int .i64 0, .int .i64 0, .int .i64 0, .int .i64 0, .int .i64 0, .int .i64 0, .int .i64 0, .int .i64 0], .array 8 3⟩ -- [8]int
  | 158 => some ⟨1, 4, [.int .u32 0], .int .u32⟩ -- uint32
  | _ => none

@[simp] theorem T_3 : T 3 = some ⟨1, 8, [.int .i64 0], .int .i64⟩ := rfl
@[simp] theorem T_4 : T 4 = some ⟨1, 1, [.bool false], .bool⟩ := rfl
@[simp] theorem T_5 : T 5 = some ⟨1, 1, [.int .u8 0], .int .u8⟩ := rfl
@[simp] theorem T_21 : T 21 = some ⟨1, 4, [.int .i32 0], .int .i32⟩ := rfl
@[simp] theorem T_22 : T 22 = some ⟨1, 24, [.nilsl], .slice 92⟩ := rfl
@[simp] theorem T_24 : T 24 = some ⟨1, 24, [.nilsl], .slice 3⟩ := rfl
@[simp] theorem T_26 : T 26 = some ⟨3, 56, [.nilsl, .int .i64 0, .nilsl], .struct [(0, 24), (1, 3), (2, 24)]⟩ := rfl
@[simp] theorem T_29 : T 29 = some ⟨1, 24, [.nilsl], .slice 47⟩ := rfl
@[simp] theorem T_37 : T 37 = some ⟨5, 40, [.int .i64 0, .int .i64 0, .int .i64 0, .int .i64 0, .int .i64 0], .struct [(0, 3), (1, 3), (2, 3), (3, 3), (4, 3)]⟩ := rfl
@[simp] theorem T_40 : T 40 = some ⟨5, 40, [.int .i64 0, .int .i64 0, .int .i64 0, .int .i64 0, .int .i64 0], .struct [(0, 3), (1, 3), (2, 3), (3, 3), (4, 3)]⟩ := rfl
@[simp] theorem T_43 : T 43 = some ⟨1, 24, [.nilsl], .slice 5⟩ := rfl
@[simp] theorem T_47 : T 47 = some ⟨5, 40, [.int .i64 0, .int .i64 0, .int .i64 0, .int .i64 0, .int .i64 0], .struct [(0, 3), (1, 3), (2, 3), (3, 3), (4, 3)]⟩ := rfl
@[simp] theorem T_56 : T 56 = some ⟨1, 24, [.nilsl], .slice 37⟩ := rfl
@[simp] theorem T_59 : T 59 = some ⟨1, 24, [.nilsl], .slice 40⟩ := rfl
@[simp] theorem T_69 : T 69 = some ⟨1, 24, [.nilsl], .slice 22⟩ := rfl
@[simp] theorem T_71 : T 71 = some ⟨1, 24, [.nilsl], .slice 26⟩ := rfl
@[simp] theorem T_72 : T 72 = some ⟨1, 24, [.nilsl], .slice 153⟩ := rfl
@[simp] theorem T_74 : T 74 = some ⟨5, 88, [.nilsl, .nilsl, .int .i64 0, .int .i64 0, .nilsl], .struct [(0, 71), (1, 72), (2, 3), (3, 3), (4, 24)]⟩ := rfl
@[simp] theorem T_78 : T 78 = some ⟨1, 24, [.nilsl], .slice 29⟩ := rfl
@[simp] theorem T_92 : T 92 = some ⟨5, 40, [.int .i64 0, .int .i64 0, .int .i64 0, .int .i64 0, .int .i64 0], .struct [(0, 3), (1, 3), (2, 3), (3, 3), (4, 3)]⟩ := rfl
@[simp] theorem T_98 : T 98 = some ⟨1, 8, [.nilp], .ptr⟩ := rfl
@[simp] theorem T_127 : T 127 = some ⟨1, 8, [.nilp], .ptr⟩ := rfl
@[simp] theorem T_129 : T 129 = some ⟨2, 32, [.int .i64 0, .nilsl], .struct [(0, 3), (1, 29)]⟩ := rfl
@[simp] theorem T_134 : T 134 = some ⟨12, 96, [.int .i64 0, .int .i64 0, .int .i64 0, .int .i64 0, .int .i64 0, .int .i64 0, .int .i64 0, .int .i64 0, .int .i64 0, .int .i64 0, .int .i64 0, .int .i64 0], .array 12 3⟩ := rfl
@[simp] theorem T_138 : T 138 = some ⟨2, 32, [.nilsl, .int .i64 0], .struct [(0, 43), (1, 3)]⟩ := rfl
@[simp] theorem T_144 : T 144 = some ⟨1, 8, [.nilp], .ptr⟩ := rfl
@[simp] theorem T_145 : T 145 = some ⟨1, 8, [.nilp], .ptr⟩ := rfl
@[simp] theorem T_151 : T 151 = some ⟨11, 88, [.int .i64 0, .int .i64 0, .int .i64 0, .int .i64 0, .int .i64 0, .int .i64 0, .int .i64 0, .int .i64 0, .int .i64 0, .int .i64 0, .int .i64 0], .array 11 3⟩ := rfl
@[simp] theorem T_153 : T 153 = some ⟨2, 32, [.int .i64 0, .nilsl], .struct [(0, 3), (1, 24)]⟩ := rfl
@[simp] theorem T_157 : T 157 = some ⟨8, 64, [.int .i64 0, .int .i64 0, .int .i64 0, .int .i64 0, .int .i64 0, .int .i64 0, .int .i64 0, .int .i64 0], .array 8 3⟩ := rfl
@[simp] theorem T_158 : T 158 = some ⟨1, 4, [.int .u32 0], .int .u32⟩ := rfl
theorem tok : TOk Tryd.prog T := by
  intro t i h
  unfold T at h
  split at h <;> first | (cases h; done) | skip
  all_goals (cases h; refine ⟨by kernel_rfl, by kernel_rfl, by kernel_rfl, by kernel_rfl, by kernel_rfl⟩)
theorem tokM : Tryd.prog.follows .mixedOrders = true := by kernel_rfl
def G : Globs := fun g => match g with
  | 0 => some (gI [7, 8, 6, 8, 11, 9, 10, 1, 2, 3, 4, 5])
  | 3 => some (gI [8, 9, 18, 19, 20, 21, 22, 23])
  | _ => none
@[simp] theorem G_0 : G 0 = some (gI [7, 8, 6, 8, 11, 9, 10, 1, 2, 3, 4, 5]) := rfl
@[simp] theorem G_3 : G 3 = some (gI [8, 9, 18, 19, 20, 21, 22, 23]) := rfl
@[simp] theorem bin_ii (op : BinOp) (t : TypeId) (k : IntKind) (a b : Int) : bin T op t (.int k a) (.int k b) = ibin op k a b := by simp [bin]
@[simp] theorem bin_shl (t : TypeId) (k k' : IntKind) (a b : Int) : bin T .shl t (.int k a) (.int k' b) = ibin .shl k a b := by simp [bin]
@[simp] theorem bin_shr (t : TypeId) (k k' : IntKind) (a b : Int) : bin T .shr t (.int k a) (.int k' b) = ibin .shr k a b := by simp [bin]
@[simp ↓] theorem sueq_37 (xOp xDst xA xB xN yOp yDst yA yB yN : Int) : bin T .eql 37 (.agg [.int .i64 xOp, .int .i64 xDst, .int .i64 xA, .int .i64 xB, .int .i64 xN]) (.agg [.int .i64 yOp, .int .i64 yDst, .int .i64 yA, .int .i64 yB, .int .i64 yN]) = some (.bool (eqD (⟨xOp, xDst, xA, xB, xN⟩ : gQuad) (⟨yOp, yDst, yA, yB, yN⟩ : gQuad))) := by
  have h : eqAgg T 37 [.int .i64 xOp, .int .i64 xDst, .int .i64 xA, .int .i64 xB, .int .i64 xN] [.int .i64 yOp, .int .i64 yDst, .int .i64 yA, .int .i64 yB, .int .i64 yN] = some (decide ((⟨xOp, xDst, xA, xB, xN⟩ : gQuad) = (⟨yOp, yDst, yA, yB, yN⟩ : gQuad))) := by
    simp [eqAgg, flatT, eqCells, gQuad.mk.injEq, Bool.decide_and, decide_eq_true_eq]
    try rfl
  simp only [bin, h, Option.map_some, bnot, eqD]
@[simp ↓] theorem sune_37 (xOp xDst xA xB xN yOp yDst yA yB yN : Int) : bin T .neq 37 (.agg [.int .i64 xOp, .int .i64 xDst, .int .i64 xA, .int .i64 xB, .int .i64 xN]) (.agg [.int .i64 yOp, .int .i64 yDst, .int .i64 yA, .int .i64 yB, .int .i64 yN]) = some (.bool (bnot (eqD (⟨xOp, xDst, xA, xB, xN⟩ : gQuad) (⟨yOp, yDst, yA, yB, yN⟩ : gQuad)))) := by
  have h : eqAgg T 37 [.int .i64 xOp, .int .i64 xDst, .int .i64 xA, .int .i64 xB, .int .i64 xN] [.int .i64 yOp, .int .i64 yDst, .int .i64 yA, .int .i64 yB, .int .i64 yN] = some (decide ((⟨xOp, xDst, xA, xB, xN⟩ : gQuad) = (⟨yOp, yDst, yA, yB, yN⟩ : gQuad))) := by
    simp [eqAgg, flatT, eqCells, gQuad.mk.injEq, Bool.decide_and, decide_eq_true_eq]
    try rfl
  simp only [bin, h, Option.map_some, bnot, eqD]
@[simp ↓] theorem sueq_40 (xOp xDst xA xB xN yOp yDst yA yB yN : Int) : bin T .eql 40 (.agg [.int .i64 xOp, .int .i64 xDst, .int .i64 xA, .int .i64 xB, .int .i64 xN]) (.agg [.int .i64 yOp, .int .i64 yDst, .int .i64 yA, .int .i64 yB, .int .i64 yN]) = some (.bool (eqD (⟨xOp, xDst, xA, xB, xN⟩ : gQuad) (⟨yOp, yDst, yA, yB, yN⟩ : gQuad))) := by
  have h : eqAgg T 40 [.int .i64 xOp, .int .i64 xDst, .int .i64 xA, .int .i64 xB, .int .i64 xN] [.int .i64 yOp, .int .i64 yDst, .int .i64 yA, .int .i64 yB, .int .i64 yN] = some (decide ((⟨xOp, xDst, xA, xB, xN⟩ : gQuad) = (⟨yOp, yDst, yA, yB, yN⟩ : gQuad))) := by
    simp [eqAgg, flatT, eqCells, gQuad.mk.injEq, Bool.decide_and, decide_eq_true_eq]
    try rfl
  simp only [bin, h, Option.map_some, bnot, eqD]
@[simp ↓] theorem sune_40 (xOp xDst xA xB xN yOp yDst yA yB yN : Int) : bin T .neq 40 (.agg [.int .i64 xOp, .int .i64 xDst, .int .i64 xA, .int .i64 xB, .int .i64 xN]) (.agg [.int .i64 yOp, .int .i64 yDst, .int .i64 yA, .int .i64 yB, .int .i64 yN]) = some (.bool (bnot (eqD (⟨xOp, xDst, xA, xB, xN⟩ : gQuad) (⟨yOp, yDst, yA, yB, yN⟩ : gQuad)))) := by
  have h : eqAgg T 40 [.int .i64 xOp, .int .i64 xDst, .int .i64 xA, .int .i64 xB, .int .i64 xN] [.int .i64 yOp, .int .i64 yDst, .int .i64 yA, .int .i64 yB, .int .i64 yN] = some (decide ((⟨xOp, xDst, xA, xB, xN⟩ : gQuad) = (⟨yOp, yDst, yA, yB, yN⟩ : gQuad))) := by
    simp [eqAgg, flatT, eqCells, gQuad.mk.injEq, Bool.decide_and, decide_eq_true_eq]
    try rfl
  simp only [bin, h, Option.map_some, bnot, eqD]
@[simp ↓] theorem sueq_47 (xOp xRd xRs xRt xImm yOp yRd yRs yRt yImm : Int) : bin T .eql 47 (.agg [.int .i64 xOp, .int .i64 xRd, .int .i64 xRs, .int .i64 xRt, .int .i64 xImm]) (.agg [.int .i64 yOp, .int .i64 yRd, .int .i64 yRs, .int .i64 yRt, .int .i64 yImm]) = some (.bool (eqD (⟨xOp, xRd, xRs, xRt, xImm⟩ : gInstr) (⟨yOp, yRd, yRs, yRt, yImm⟩ : gInstr))) := by
  have h : eqAgg T 47 [.int .i64 xOp, .int .i64 xRd, .int .i64 xRs, .int .i64 xRt, .int .i64 xImm] [.int .i64 yOp, .int .i64 yRd, .int .i64 yRs, .int .i64 yRt, .int .i64 yImm] = some (decide ((⟨xOp, xRd, xRs, xRt, xImm⟩ : gInstr) = (⟨yOp, yRd, yRs, yRt, yImm⟩ : gInstr))) := by
    simp [eqAgg, flatT, eqCells, gInstr.mk.injEq, Bool.decide_and, decide_eq_true_eq]
    try rfl
  simp only [bin, h, Option.map_some, bnot, eqD]
@[simp ↓] theorem sune_47 (xOp xRd xRs xRt xImm yOp yRd yRs yRt yImm : Int) : bin T .neq 47 (.agg [.int .i64 xOp, .int .i64 xRd, .int .i64 xRs, .int .i64 xRt, .int .i64 xImm]) (.agg [.int .i64 yOp, .int .i64 yRd, .int .i64 yRs, .int .i64 yRt, .int .i64 yImm]) = some (.bool (bnot (eqD (⟨xOp, xRd, xRs, xRt, xImm⟩ : gInstr) (⟨yOp, yRd, yRs, yRt, yImm⟩ : gInstr)))) := by
  have h : eqAgg T 47 [.int .i64 xOp, .int .i64 xRd, .int .i64 xRs, .int .i64 xRt, .int .i64 xImm] [.int .i64 yOp, .int .i64 yRd, .int .i64 yRs, .int .i64 yRt, .int .i64 yImm] = some (decide ((⟨xOp, xRd, xRs, xRt, xImm⟩ : gInstr) = (⟨yOp, yRd, yRs, yRt, yImm⟩ : gInstr))) := by
    simp [eqAgg, flatT, eqCells, gInstr.mk.injEq, Bool.decide_and, decide_eq_true_eq]
    try rfl
  simp only [bin, h, Option.map_some, bnot, eqD]
@[simp ↓] theorem sueq_92 (xOp xRd xRs xRt xImm yOp yRd yRs yRt yImm : Int) : bin T .eql 92 (.agg [.int .i64 xOp, .int .i64 xRd, .int .i64 xRs, .int .i64 xRt, .int .i64 xImm]) (.agg [.int .i64 yOp, .int .i64 yRd, .int .i64 yRs, .int .i64 yRt, .int .i64 yImm]) = some (.bool (eqD (⟨xOp, xRd, xRs, xRt, xImm⟩ : gInstr) (⟨yOp, yRd, yRs, yRt, yImm⟩ : gInstr))) := by
  have h : eqAgg T 92 [.int .i64 xOp, .int .i64 xRd, .int .i64 xRs, .int .i64 xRt, .int .i64 xImm] [.int .i64 yOp, .int .i64 yRd, .int .i64 yRs, .int .i64 yRt, .int .i64 yImm] = some (decide ((⟨xOp, xRd, xRs, xRt, xImm⟩ : gInstr) = (⟨yOp, yRd, yRs, yRt, yImm⟩ : gInstr))) := by
    simp [eqAgg, flatT, eqCells, gInstr.mk.injEq, Bool.decide_and, decide_eq_true_eq]
    try rfl
  simp only [bin, h, Option.map_some, bnot, eqD]
@[simp ↓] theorem sune_92 (xOp xRd xRs xRt xImm yOp yRd yRs yRt yImm : Int) : bin T .neq 92 (.agg [.int .i64 xOp, .int .i64 xRd, .int .i64 xRs, .int .i64 xRt, .int .i64 xImm]) (.agg [.int .i64 yOp, .int .i64 yRd, .int .i64 yRs, .int .i64 yRt, .int .i64 yImm]) = some (.bool (bnot (eqD (⟨xOp, xRd, xRs, xRt, xImm⟩ : gInstr) (⟨yOp, yRd, yRs, yRt, yImm⟩ : gInstr)))) := by
  have h : eqAgg T 92 [.int .i64 xOp, .int .i64 xRd, .int .i64 xRs, .int .i64 xRt, .int .i64 xImm] [.int .i64 yOp, .int .i64 yRd, .int .i64 yRs, .int .i64 yRt, .int .i64 yImm] = some (decide ((⟨xOp, xRd, xRs, xRt, xImm⟩ : gInstr) = (⟨yOp, yRd, yRs, yRt, yImm⟩ : gInstr))) := by
    simp [eqAgg, flatT, eqCells, gInstr.mk.injEq, Bool.decide_and, decide_eq_true_eq]
    try rfl
  simp only [bin, h, Option.map_some, bnot, eqD]
@[simp] theorem bineq_4 (a b : Bool) : bin T .eql 4 (.bool a) (.bool b) = some (.bool (beqb a b)) := rfl
@[simp] theorem binne_4 (a b : Bool) : bin T .neq 4 (.bool a) (.bool b) = some (.bool (bneb a b)) := rfl
@[simp] theorem conv_3_5 (k : IntKind) (n : Int) : convA T 3 5 (.int k n) = some (.int .u8 (iconv .u8 n)) := rfl
@[simp] theorem conv_3_21 (k : IntKind) (n : Int) : convA T 3 21 (.int k n) = some (.int .i32 (iconv .i32 n)) := rfl
@[simp] theorem conv_3_158 (k : IntKind) (n : Int) : convA T 3 158 (.int k n) = some (.int .u32 (iconv .u32 n)) := rfl
@[simp] theorem conv_5_3 (k : IntKind) (n : Int) : convA T 5 3 (.int k n) = some (.int .i64 (iconv .i64 n)) := rfl
@[simp] theorem conv_5_21 (k : IntKind) (n : Int) : convA T 5 21 (.int k n) = some (.int .i32 (iconv .i32 n)) := rfl
@[simp] theorem conv_5_158 (k : IntKind) (n : Int) : convA T 5 158 (.int k n) = some (.int .u32 (iconv .u32 n)) := rfl
@[simp] theorem conv_21_3 (k : IntKind) (n : Int) : convA T 21 3 (.int k n) = some (.int .i64 (iconv .i64 n)) := rfl
@[simp] theorem conv_21_5 (k : IntKind) (n : Int) : convA T 21 5 (.int k n) = some (.int .u8 (iconv .u8 n)) := rfl
@[simp] theorem conv_21_158 (k : IntKind) (n : Int) : convA T 21 158 (.int k n) = some (.int .u32 (iconv .u32 n)) := rfl
@[simp] theorem conv_158_3 (k : IntKind) (n : Int) : convA T 158 3 (.int k n) = some (.int .i64 (iconv .i64 n)) := rfl
@[simp] theorem conv_158_5 (k : IntKind) (n : Int) : convA T 158 5 (.int k n) = some (.int .u8 (iconv .u8 n)) := rfl
@[simp] theorem conv_158_21 (k : IntKind) (n : Int) : convA T 158 21 (.int k n) = some (.int .i32 (iconv .i32 n)) := rfl
@[simp] theorem len22 (l : List gInstr) : lenA T 22 (.fsl (encL rInstr l)) = some (.int .i64 (ilen l)) := lenA_fsl (e := 92) rfl rInstr l
@[simp] theorem leno22 (o r : Nat) (l : List gInstr) : lenA T 22 (.sl o r l.length) = some (.int .i64 (ilen l)) := lenA_sl (e := 92) rfl o r l
@[simp] theorem lenn22 : lenA T 22 .nilsl = some (.int .i64 0) := rfl
@[simp] theorem lene22 : lenA T 22 .esl = some (.int .i64 0) := rfl
@[simp] theorem src22 (σ : AHeap) (l : List gInstr) (z : List AV) (k : TK) : srcA ⟨5, 40, z, k⟩ σ (.fsl (encL rInstr l)) = some (encL rInstr l) := srcA_fsl (f := rInstr) (fun _ => rfl) σ l
@[simp] theorem srco22 {σ : AHeap} {o : Nat} {l : List gInstr} (z : List AV) (k : TK) (h : σ.objs o = some ⟨92, 5, encL rInstr l⟩) : srcA ⟨5, 40, z, k⟩ σ (.sl o 0 l.length) = some (encL rInstr l) := srcA_sl (ti := ⟨5, 40, z, k⟩) (fun _ => rfl) h
theorem ix22 {l : List gInstr} {i : Int} {v : gInstr} (h : idx l i = some v) (σ : AHeap) (k : IntKind) : indexAddrA T σ 22 (.fsl (encL rInstr l)) (.int k i) = some (.fptr (rInstr v) 0) := ixA_fsl (e := 92) rfl rfl (fun _ => rfl) h σ k
theorem ixo22 {l : List gInstr} {i : Int} {v : gInstr} (h : idx l i = some v) {σ : AHeap} {o : Nat} (hs : (σ.objs o).map AObj.sz = some 5) (k : IntKind) : indexAddrA T σ 22 (.sl o 0 l.length) (.int k i) = some (.ptr o i.toNat 0) := ixA_sl (e := 92) rfl rfl h hs k
theorem app22 {l m r : List gInstr} (h : appx 40 l m = some r) {σ : AHeap} {o : Nat} {x : AV} (id : Nat) (ho : σ.objs o = some ⟨92, 5, encL rInstr l⟩) (hx : srcA ⟨5, 40, [.int .i64 0, .int .i64 0, .int .i64 0, .int .i64 0, .int .i64 0], .struct [(0, 3), (1, 3), (2, 3), (3, 3), (4, 3)]⟩ σ x = some (encL rInstr m)) :
    appendA T 22 id (.sl o 0 l.length) x σ = some (.sl id 0 r.length, (σ.kill o).put id ⟨92, 5, encL rInstr r⟩) := appA_sl (e := 92) rfl rfl (by decide) h id ho hx
theorem appn22 {m r : List gInstr} (h : appx 40 [] m = some r) {σ : AHeap} {x : AV} (id : Nat) (hx : srcA ⟨5, 40, [.int .i64 0, .int .i64 0, .int .i64 0, .int .i64 0, .int .i64 0], .struct [(0, 3), (1, 3), (2, 3), (3, 3), (4, 3)]⟩ σ x = some (encL rInstr m)) :
    appendA T 22 id .nilsl x σ = some (.sl id 0 r.length, σ.put id ⟨92, 5, encL rInstr r⟩) := appA_nil (e := 92) rfl rfl (by decide) h id hx
theorem appe22 {m r : List gInstr} (h : appx 40 [] m = some r) {σ : AHeap} {x : AV} (id : Nat) (hx : srcA ⟨5, 40, [.int .i64 0, .int .i64 0, .int .i64 0, .int .i64 0, .int .i64 0], .struct [(0, 3), (1, 3), (2, 3), (3, 3), (4, 3)]⟩ σ x = some (encL rInstr m)) :
    appendA T 22 id .esl x σ = some (.sl id 0 r.length, σ.put id ⟨92, 5, encL rInstr r⟩) := appA_esl (e := 92) rfl rfl (by decide) h id hx
theorem appf22 {m r : List gInstr} (h : appx 40 [] m = some r) {σ : AHeap} {s x : AV} (hs : s.noRoom = true) (hx : srcA ⟨5, 40, [.int .i64 0, .int .i64 0, .int .i64 0, .int .i64 0, .int .i64 0], .struct [(0, 3), (1, 3), (2, 3), (3, 3), (4, 3)]⟩ σ x = some (encL rInstr m)) :
    appendF T 22 s x σ = some (.fsl (encL rInstr r), σ) := appF_nil (e := 92) (ti := ⟨5, 40, [.int .i64 0, .int .i64 0, .int .i64 0, .int .i64 0, .int .i64 0], .struct [(0, 3), (1, 3), (2, 3), (3, 3), (4, 3)]⟩) rfl rfl (by decide) h hs hx
theorem mak22 {n : Int} {r : List gInstr} (h : makex 40 n (⟨0, 0, 0, 0, 0⟩ : gInstr) = some r) (σ : AHeap) (id : Nat) (k k' : IntKind) : makeA T 22 false id (.int k n) (.int k' n) σ = some (.sl id 0 r.length, σ.put id ⟨92, 5, encL rInstr r⟩) := makA_sl (e := 92) (ti := ⟨5, 40, [.int .i64 0, .int .i64 0, .int .i64 0, .int .i64 0, .int .i64 0], .struct [(0, 3), (1, 3), (2, 3), (3, 3), (4, 3)]⟩) rfl rfl (by decide) (z := (⟨0, 0, 0, 0, 0⟩ : gInstr)) rfl h σ id k k'
theorem makf22 {n : Int} {r : List gInstr} (h : makex 40 n (⟨0, 0, 0, 0, 0⟩ : gInstr) = some r) (σ : AHeap) (id : Nat) (k k' : IntKind) : makeA T 22 true id (.int k n) (.int k' n) σ = some (.fsl (encL rInstr r), σ) := makA_fsl (e := 92) (ti := ⟨5, 40, [.int .i64 0, .int .i64 0, .int .i64 0, .int .i64 0, .int .i64 0], .struct [(0, 3), (1, 3), (2, 3), (3, 3), (4, 3)]⟩) rfl rfl (by decide) (z := (⟨0, 0, 0, 0, 0⟩ : gInstr)) rfl h σ id k k'
theorem cut_22 {l r : List gInstr} (h : cutx l 0 (ilen l) = some r) (σ : AHeap) : cutA T σ 22 (.fsl (encL rInstr l)) none none = some (.fsl (encL rInstr r)) := cutA_fsl (e := 92) rfl rfl (fun _ => rfl) rfl rfl h σ
theorem cuth_22 {l r : List gInstr} {b : Int} (h : cutx l 0 b = some r) (σ : AHeap) {kb : IntKind} : cutA T σ 22 (.fsl (encL rInstr l)) none (some (.int kb b)) = some (.fsl (encL rInstr r)) := cutA_fsl (e := 92) rfl rfl (fun _ => rfl) rfl rfl h σ
theorem cutl_22 {l r : List gInstr} {a : Int} (h : cutx l a (ilen l) = some r) (σ : AHeap) {ka : IntKind} : cutA T σ 22 (.fsl (encL rInstr l)) (some (.int ka a)) none = some (.fsl (encL rInstr r)) := cutA_fsl (e := 92) rfl rfl (fun _ => rfl) rfl rfl h σ
theorem cutlh_22 {l r : List gInstr} {a : Int} {b : Int} (h : cutx l a b = some r) (σ : AHeap) {ka : IntKind} {kb : IntKind} : cutA T σ 22 (.fsl (encL rInstr l)) (some (.int ka a)) (some (.int kb b)) = some (.fsl (encL rInstr r)) := cutA_fsl (e := 92) rfl rfl (fun _ => rfl) rfl rfl h σ
@[simp] theorem len24 (l : List Int) : lenA T 24 (.fsl (encL rI l)) = some (.int .i64 (ilen l)) := lenA_fsl (e := 3) rfl rI l
@[simp] theorem leno24 (o r : Nat) (l : List Int) : lenA T 24 (.sl o r l.length) = some (.int .i64 (ilen l)) := lenA_sl (e := 3) rfl o r l
@[simp] theorem lenn24 : lenA T 24 .nilsl = some (.int .i64 0) := rfl
@[simp] theorem lene24 : lenA T 24 .esl = some (.int .i64 0) := rfl
@[simp] theorem src24 (σ : AHeap) (l : List Int) (z : List AV) (k : TK) : srcA ⟨1, 8, z, k⟩ σ (.fsl (encL rI l)) = some (encL rI l) := srcA_fsl (f := rI) (fun _ => rfl) σ l
@[simp] theorem srco24 {σ : AHeap} {o : Nat} {l : List Int} (z : List AV) (k : TK) (h : σ.objs o = some ⟨3, 1, encL rI l⟩) : srcA ⟨1, 8, z, k⟩ σ (.sl o 0 l.length) = some (encL rI l) := srcA_sl (ti := ⟨1, 8, z, k⟩) (fun _ => rfl) h
theorem ix24 {l : List Int} {i : Int} {v : Int} (h : idx l i = some v) (σ : AHeap) (k : IntKind) : indexAddrA T σ 24 (.fsl (encL rI l)) (.int k i) = some (.fptr (rI v) 0) := ixA_fsl (e := 3) rfl rfl (fun _ => rfl) h σ k
theorem ixo24 {l : List Int} {i : Int} {v : Int} (h : idx l i = some v) {σ : AHeap} {o : Nat} (hs : (σ.objs o).map AObj.sz = some 1) (k : IntKind) : indexAddrA T σ 24 (.sl o 0 l.length) (.int k i) = some (.ptr o i.toNat 0) := ixA_sl (e := 3) rfl rfl h hs k
theorem app24 {l m r : List Int} (h : appx 8 l m = some r) {σ : AHeap} {o : Nat} {x : AV} (id : Nat) (ho : σ.objs o = some ⟨3, 1, encL rI l⟩) (hx : srcA ⟨1, 8, [.int .i64 0], .int .i64⟩ σ x = some (encL rI m)) :
    appendA T 24 id (.sl o 0 l.length) x σ = some (.sl id 0 r.length, (σ.kill o).put id ⟨3, 1, encL rI r⟩) := appA_sl (e := 3) rfl rfl (by decide) h id ho hx
theorem appn24 {m r : List Int} (h : appx 8 [] m = some r) {σ : AHeap} {x : AV} (id : Nat) (hx : srcA ⟨1, 8, [.int .i64 0], .int .i64⟩ σ x = some (encL rI m)) :
    appendA T 24 id .nilsl x σ = some (.sl id 0 r.length, σ.put id ⟨3, 1, encL rI r⟩) := appA_nil (e := 3) rfl rfl (by decide) h id hx
theorem appe24 {m r : List Int} (h : appx 8 [] m = some r) {σ : AHeap} {x : AV} (id : Nat) (hx : srcA ⟨1, 8, [.int .i64 0], .int .i64⟩ σ x = some (encL rI m)) :
    appendA T 24 id .esl x σ = some (.sl id 0 r.length, σ.put id ⟨3, 1, encL rI r⟩) := appA_esl (e := 3) rfl rfl (by decide) h id hx
theorem appf24 {m r : List Int} (h : appx 8 [] m = some r) {σ : AHeap} {s x : AV} (hs : s.noRoom = true) (hx : srcA ⟨1, 8, [.int .i64 0], .int .i64⟩ σ x = some (encL rI m)) :
    appendF T 24 s x σ = some (.fsl (encL rI r), σ) := appF_nil (e := 3) (ti := ⟨1, 8, [.int .i64 0], .int .i64⟩) rfl rfl (by decide) h hs hx
theorem mak24 {n : Int} {r : List Int} (h : makex 8 n (0 : Int) = some r) (σ : AHeap) (id : Nat) (k k' : IntKind) : makeA T 24 false id (.int k n) (.int k' n) σ = some (.sl id 0 r.length, σ.put id ⟨3, 1, encL rI r⟩) := makA_sl (e := 3) (ti := ⟨1, 8, [.int .i64 0], .int .i64⟩) rfl rfl (by decide) (z := (0 : Int)) rfl h σ id k k'
theorem makf24 {n : Int} {r : List Int} (h : makex 8 n (0 : Int) = some r) (σ : AHeap) (id : Nat) (k k' : IntKind) : makeA T 24 true id (.int k n) (.int k' n) σ = some (.fsl (encL rI r), σ) := makA_fsl (e := 3) (ti := ⟨1, 8, [.int .i64 0], .int .i64⟩) rfl rfl (by decide) (z := (0 : Int)) rfl h σ id k k'
theorem cut_24 {l r : List Int} (h : cutx l 0 (ilen l) = some r) (σ : AHeap) : cutA T σ 24 (.fsl (encL rI l)) none none = some (.fsl (encL rI r)) := cutA_fsl (e := 3) rfl rfl (fun _ => rfl) rfl rfl h σ
theorem cuth_24 {l r : List Int} {b : Int} (h : cutx l 0 b = some r) (σ : AHeap) {kb : IntKind} : cutA T σ 24 (.fsl (encL rI l)) none (some (.int kb b)) = some (.fsl (encL rI r)) := cutA_fsl (e := 3) rfl rfl (fun _ => rfl) rfl rfl h σ
theorem cutl_24 {l r : List Int} {a : Int} (h : cutx l a (ilen l) = some r) (σ : AHeap) {ka : IntKind} : cutA T σ 24 (.fsl (encL rI l)) (some (.int ka a)) none = some (.fsl (encL rI r)) := cutA_fsl (e := 3) rfl rfl (fun _ => rfl) rfl rfl h σ
theorem cutlh_24 {l r : List Int} {a : Int} {b : Int} (h : cutx l a b = some r) (σ : AHeap) {ka : IntKind} {kb : IntKind} : cutA T σ 24 (.fsl (encL rI l)) (some (.int ka a)) (some (.int kb b)) = some (.fsl (encL rI r)) := cutA_fsl (e := 3) rfl rfl (fun _ => rfl) rfl rfl h σ
@[simp] theorem len29 (l : List gInstr) : lenA T 29 (.fsl (encL rInstr l)) = some (.int .i64 (ilen l)) := lenA_fsl (e := 47) rfl rInstr l
@[simp] theorem leno29 (o r : Nat) (l : List gInstr) : lenA T 29 (.sl o r l.length) = some (.int .i64 (ilen l)) := lenA_sl (e := 47) rfl o r l
@[simp] theorem lenn29 : lenA T 29 .nilsl = some (.int .i64 0) := rfl
@[simp] theorem lene29 : lenA T 29 .esl = some (.int .i64 0) := rfl
@[simp] theorem src29 (σ : AHeap) (l : List gInstr) (z : List AV) (k : TK) : srcA ⟨5, 40, z, k⟩ σ (.fsl (encL rInstr l)) = some (encL rInstr l) := srcA_fsl (f := rInstr) (fun _ => rfl) σ l
@[simp] theorem srco29 {σ : AHeap} {o : Nat} {l : List gInstr} (z : List AV) (k : TK) (h : σ.objs o = some ⟨47, 5, encL rInstr l⟩) : srcA ⟨5, 40, z, k⟩ σ (.sl o 0 l.length) = some (encL rInstr l) := srcA_sl (ti := ⟨5, 40, z, k⟩) (fun _ => rfl) h
theorem ix29 {l : List gInstr} {i : Int} {v : gInstr} (h : idx l i = some v) (σ : AHeap) (k : IntKind) : indexAddrA T σ 29 (.fsl (encL rInstr l)) (.int k i) = some (.fptr (rInstr v) 0) := ixA_fsl (e := 47) rfl rfl (fun _ => rfl) h σ k
theorem ixo29 {l : List gInstr} {i : Int} {v : gInstr} (h : idx l i = some v) {σ : AHeap} {o : Nat} (hs : (σ.objs o).map AObj.sz = some 5) (k : IntKind) : indexAddrA T σ 29 (.sl o 0 l.length) (.int k i) = some (.ptr o i.toNat 0) := ixA_sl (e := 47) rfl rfl h hs k
theorem app29 {l m r : List gInstr} (h : appx 40 l m = some r) {σ : AHeap} {o : Nat} {x : AV} (id : Nat) (ho : σ.objs o = some ⟨47, 5, encL rInstr l⟩) (hx : srcA ⟨5, 40, [.int .i64 0, .int .i64 0, .int .i64 0, .int .i64 0, .int .i64 0], .struct [(0, 3), (1, 3), (2, 3), (3, 3), (4, 3)]⟩ σ x = some (encL rInstr m)) :
    appendA T 29 id (.sl o 0 l.length) x σ = some (.sl id 0 r.length, (σ.kill o).put id ⟨47, 5, encL rInstr r⟩) := appA_sl (e := 47) rfl rfl (by decide) h id ho hx
theorem appn29 {m r : List gInstr} (h : appx 40 [] m = some r) {σ : AHeap} {x : AV} (id : Nat) (hx : srcA ⟨5, 40, [.int .i64 0, .int .i64 0, .int .i64 0, .int .i64 0, .int .i64 0], .struct [(0, 3), (1, 3), (2, 3), (3, 3), (4, 3)]⟩ σ x = some (encL rInstr m)) :
    appendA T 29 id .nilsl x σ = some (.sl id 0 r.length, σ.put id ⟨47, 5, encL rInstr r⟩) := appA_nil (e := 47) rfl rfl (by decide) h id hx
theorem appe29 {m r : List gInstr} (h : appx 40 [] m = some r) {σ : AHeap} {x : AV} (id : Nat) (hx : srcA ⟨5, 40, [.int .i64 0, .int .i64 0, .int .i64 0, .int .i64 0, .int .i64 0], .struct [(0, 3), (1, 3), (2, 3), (3, 3), (4, 3)]⟩ σ x = some (encL rInstr m)) :
    appendA T 29 id .esl x σ = some (.sl id 0 r.length, σ.put id ⟨47, 5, encL rInstr r⟩) := appA_esl (e := 47) rfl rfl (by decide) h id hx
theorem appf29 {m r : List gInstr} (h : appx 40 [] m = some r) {σ : AHeap} {s x : AV} (hs : s.noRoom = true) (hx : srcA ⟨5, 40, [.int .i64 0, .int .i64 0, .int .i64 0, .int .i64 0, .int .i64 0], .struct [(0, 3), (1, 3), (2, 3), (3, 3), (4, 3)]⟩ σ x = some (encL rInstr m)) :
    appendF T 29 s x σ = some (.fsl (encL rInstr r), σ) := appF_nil (e := 47) (ti := ⟨5, 40, [.int .i64 0, .int .i64 0, .int .i64 0, .int .i64 0, .int .i64 0], .struct [(0, 3), (1, 3), (2, 3), (3, 3), (4, 3)]⟩) rfl rfl (by decide) h hs hx
theorem mak29 {n : Int} {r : List gInstr} (h : makex 40 n (⟨0, 0, 0, 0, 0⟩ : gInstr) = some r) (σ : AHeap) (id : Nat) (k k' : IntKind) : makeA T 29 false id (.int k n) (.int k' n) σ = some (.sl id 0 r.length, σ.put id ⟨47, 5, encL rInstr r⟩) := makA_sl (e := 47) (ti := ⟨5, 40, [.int .i64 0, .int .i64 0, .int .i64 0, .int .i64 0, .int .i64 0], .struct [(0, 3), (1, 3), (2, 3), (3, 3), (4, 3)]⟩) rfl rfl (by decide) (z := (⟨0, 0, 0, 0, 0⟩ : gInstr)) rfl h σ id k k'
theorem makf29 {n : Int} {r : List gInstr} (h : makex 40 n (⟨0, 0, 0, 0, 0⟩ : gInstr) = some r) (σ : AHeap) (id : Nat) (k k' : IntKind) : makeA T 29 true id (.int k n) (.int k' n) σ = some (.fsl (encL rInstr r), σ) := makA_fsl (e := 47) (ti := ⟨5, 40, [.int .i64 0, .int .i64 0, .int .i64 0, .int .i64 0, .int .i64 0], .struct [(0, 3), (1, 3), (2, 3), (3, 3), (4, 3)]⟩) rfl rfl (by decide) (z := (⟨0, 0, 0, 0, 0⟩ : gInstr)) rfl h σ id k k'
theorem cut_29 {l r : List gInstr} (h : cutx l 0 (ilen l) = some r) (σ : AHeap) : cutA T σ 29 (.fsl (encL rInstr l)) none none = some (.fsl (encL rInstr r)) := cutA_fsl (e := 47) rfl rfl (fun _ => rfl) rfl rfl h σ
theorem cuth_29 {l r : List gInstr} {b : Int} (h : cutx l 0 b = some r) (σ : AHeap) {kb : IntKind} : cutA T σ 29 (.fsl (encL rInstr l)) none (some (.int kb b)) = some (.fsl (encL rInstr r)) := cutA_fsl (e := 47) rfl rfl (fun _ => rfl) rfl rfl h σ
theorem cutl_29 {l r : List gInstr} {a : Int} (h : cutx l a (ilen l) = some r) (σ : AHeap) {ka : IntKind} : cutA T σ 29 (.fsl (encL rInstr l)) (some (.int ka a)) none = some (.fsl (encL rInstr r)) := cutA_fsl (e := 47) rfl rfl (fun _ => rfl) rfl rfl h σ
theorem cutlh_29 {l r : List gInstr} {a : Int} {b : Int} (h : cutx l a b = some r) (σ : AHeap) {ka : IntKind} {kb : IntKind} : cutA T σ 29 (.fsl (encL rInstr l)) (some (.int ka a)) (some (.int kb b)) = some (.fsl (encL rInstr r)) := cutA_fsl (e := 47) rfl rfl (fun _ => rfl) rfl rfl h σ
@[simp] theorem len43 (l : List Int) : lenA T 43 (.fsl (encL rI_u8 l)) = some (.int .i64 (ilen l)) := lenA_fsl (e := 5) rfl rI_u8 l
@[simp] theorem leno43 (o r : Nat) (l : List Int) : lenA T 43 (.sl o r l.length) = some (.int .i64 (ilen l)) := lenA_sl (e := 5) rfl o r l
@[simp] theorem lenn43 : lenA T 43 .nilsl = some (.int .i64 0) := rfl
@[simp] theorem lene43 : lenA T 43 .esl = some (.int .i64 0) := rfl
@[simp] theorem src43 (σ : AHeap) (l : List Int) (z : List AV) (k : TK) : srcA ⟨1, 1, z, k⟩ σ (.fsl (encL rI_u8 l)) = some (encL rI_u8 l) := srcA_fsl (f := rI_u8) (fun _ => rfl) σ l
@[simp] theorem srco43 {σ : AHeap} {o : Nat} {l : List Int} (z : List AV) (k : TK) (h : σ.objs o = some ⟨5, 1, encL rI_u8 l⟩) : srcA ⟨1, 1, z, k⟩ σ (.sl o 0 l.length) = some (encL rI_u8 l) := srcA_sl (ti := ⟨1, 1, z, k⟩) (fun _ => rfl) h
theorem ix43 {l : List Int} {i : Int} {v : Int} (h : idx l i = some v) (σ : AHeap) (k : IntKind) : indexAddrA T σ 43 (.fsl (encL rI_u8 l)) (.int k i) = some (.fptr (rI_u8 v) 0) := ixA_fsl (e := 5) rfl rfl (fun _ => rfl) h σ k
theorem ixo43 {l : List Int} {i : Int} {v : Int} (h : idx l i = some v) {σ : AHeap} {o : Nat} (hs : (σ.objs o).map AObj.sz = some 1) (k : IntKind) : indexAddrA T σ 43 (.sl o 0 l.length) (.int k i) = some (.ptr o i.toNat 0) := ixA_sl (e := 5) rfl rfl h hs k
theorem app43 {l m r : List Int} (h : appx 1 l m = some r) {σ : AHeap} {o : Nat} {x : AV} (id : Nat) (ho : σ.objs o = some ⟨5, 1, encL rI_u8 l⟩) (hx : srcA ⟨1, 1, [.int .u8 0], .int .u8⟩ σ x = some (encL rI_u8 m)) :
    appendA T 43 id (.sl o 0 l.length) x σ = some (.sl id 0 r.length, (σ.kill o).put id ⟨5, 1, encL rI_u8 r⟩) := appA_sl (e := 5) rfl rfl (by decide) h id ho hx
theorem appn43 {m r : List Int} (h : appx 1 [] m = some r) {σ : AHeap} {x : AV} (id : Nat) (hx : srcA ⟨1, 1, [.int .u8 0], .int .u8⟩ σ x = some (encL rI_u8 m)) :
    appendA T 43 id .nilsl x σ = some (.sl id 0 r.length, σ.put id ⟨5, 1, encL rI_u8 r⟩) := appA_nil (e := 5) rfl rfl (by decide) h id hx
theorem appe43 {m r : List Int} (h : appx 1 [] m = some r) {σ : AHeap} {x : AV} (id : Nat) (hx : srcA ⟨1, 1, [.int .u8 0], .int .u8⟩ σ x = some (encL rI_u8 m)) :
    appendA T 43 id .esl x σ = some (.sl id 0 r.length, σ.put id ⟨5, 1, encL rI_u8 r⟩) := appA_esl (e := 5) rfl rfl (by decide) h id hx
theorem appf43 {m r : List Int} (h : appx 1 [] m = some r) {σ : AHeap} {s x : AV} (hs : s.noRoom = true) (hx : srcA ⟨1, 1, [.int .u8 0], .int .u8⟩ σ x = some (encL rI_u8 m)) :
    appendF T 43 s x σ = some (.fsl (encL rI_u8 r), σ) := appF_nil (e := 5) (ti := ⟨1, 1, [.int .u8 0], .int .u8⟩) rfl rfl (by decide) h hs hx
theorem mak43 {n : Int} {r : List Int} (h : makex 1 n (0 : Int) = some r) (σ : AHeap) (id : Nat) (k k' : IntKind) : makeA T 43 false id (.int k n) (.int k' n) σ = some (.sl id 0 r.length, σ.put id ⟨5, 1, encL rI_u8 r⟩) := makA_sl (e := 5) (ti := ⟨1, 1, [.int .u8 0], .int .u8⟩) rfl rfl (by decide) (z := (0 : Int)) rfl h σ id k k'
theorem makf43 {n : Int} {r : List Int} (h : makex 1 n (0 : Int) = some r) (σ : AHeap) (id : Nat) (k k' : IntKind) : makeA T 43 true id (.int k n) (.int k' n) σ = some (.fsl (encL rI_u8 r), σ) := makA_fsl (e := 5) (ti := ⟨1, 1, [.int .u8 0], .int .u8⟩) rfl rfl (by decide) (z := (0 : Int)) rfl h σ id k k'
theorem cut_43 {l r : List Int} (h : cutx l 0 (ilen l) = some r) (σ : AHeap) : cutA T σ 43 (.fsl (encL rI_u8 l)) none none = some (.fsl (encL rI_u8 r)) := cutA_fsl (e := 5) rfl rfl (fun _ => rfl) rfl rfl h σ
theorem cuth_43 {l r : List Int} {b : Int} (h : cutx l 0 b = some r) (σ : AHeap) {kb : IntKind} : cutA T σ 43 (.fsl (encL rI_u8 l)) none (some (.int kb b)) = some (.fsl (encL rI_u8 r)) := cutA_fsl (e := 5) rfl rfl (fun _ => rfl) rfl rfl h σ
theorem cutl_43 {l r : List Int} {a : Int} (h : cutx l a (ilen l) = some r) (σ : AHeap) {ka : IntKind} : cutA T σ 43 (.fsl (encL rI_u8 l)) (some (.int ka a)) none = some (.fsl (encL rI_u8 r)) := cutA_fsl (e := 5) rfl rfl (fun _ => rfl) rfl rfl h σ
theorem cutlh_43 {l r : List Int} {a : Int} {b : Int} (h : cutx l a b = some r) (σ : AHeap) {ka : IntKind} {kb : IntKind} : cutA T σ 43 (.fsl (encL rI_u8 l)) (some (.int ka a)) (some (.int kb b)) = some (.fsl (encL rI_u8 r)) := cutA_fsl (e := 5) rfl rfl (fun _ => rfl) rfl rfl h σ
@[simp] theorem len56 (l : List gQuad) : lenA T 56 (.fsl (encL rQuad l)) = some (.int .i64 (ilen l)) := lenA_fsl (e := 37) rfl rQuad l
@[simp] theorem leno56 (o r : Nat) (l : List gQuad) : lenA T 56 (.sl o r l.length) = some (.int .i64 (ilen l)) := lenA_sl (e := 37) rfl o r l
@[simp] theorem lenn56 : lenA T 56 .nilsl = some (.int .i64 0) := rfl
@[simp] theorem lene56 : lenA T 56 .esl = some (.int .i64 0) := rfl
@[simp] theorem src56 (σ : AHeap) (l : List gQuad) (z : List AV) (k : TK) : srcA ⟨5, 40, z, k⟩ σ (.fsl (encL rQuad l)) = some (encL rQuad l) := srcA_fsl (f := rQuad) (fun _ => rfl) σ l
@[simp] theorem srco56 {σ : AHeap} {o : Nat} {l : List gQuad} (z : List AV) (k : TK) (h : σ.objs o = some ⟨37, 5, encL rQuad l⟩) : srcA ⟨5, 40, z, k⟩ σ (.sl o 0 l.length) = some (encL rQuad l) := srcA_sl (ti := ⟨5, 40, z, k⟩) (fun _ => rfl) h
theorem ix56 {l : List gQuad} {i : Int} {v : gQuad} (h : idx l i = some v) (σ : AHeap) (k : IntKind) : indexAddrA T σ 56 (.fsl (encL rQuad l)) (.int k i) = some (.fptr (rQuad v) 0) := ixA_fsl (e := 37) rfl rfl (fun _ => rfl) h σ k
theorem ixo56 {l : List gQuad} {i : Int} {v : gQuad} (h : idx l i = some v) {σ : AHeap} {o : Nat} (hs : (σ.objs o).map AObj.sz = some 5) (k : IntKind) : indexAddrA T σ 56 (.sl o 0 l.length) (.int k i) = some (.ptr o i.toNat 0) := ixA_sl (e := 37) rfl rfl h hs k
theorem app56 {l m r : List gQuad} (h : appx 40 l m = some r) {σ : AHeap} {o : Nat} {x : AV} (id : Nat) (ho : σ.objs o = some ⟨37, 5, encL rQuad l⟩) (hx : srcA ⟨5, 40, [.int .i64 0, .int .i64 0, .int .i64 0, .int .i64 0, .int .i64 0], .struct [(0, 3), (1, 3), (2, 3), (3, 3), (4, 3)]⟩ σ x = some (encL rQuad m)) :
    appendA T 56 id (.sl o 0 l.length) x σ = some (.sl id 0 r.length, (σ.kill o).put id ⟨37, 5, encL rQuad r⟩) := appA_sl (e := 37) rfl rfl (by decide) h id ho hx
theorem appn56 {m r : List gQuad} (h : appx 40 [] m = some r) {σ : AHeap} {x : AV} (id : Nat) (hx : srcA ⟨5, 40, [.int .i64 0, .int .i64 0, .int .i64 0, .int .i64 0, .int .i64 0], .struct [(0, 3), (1, 3), (2, 3), (3, 3), (4, 3)]⟩ σ x = some (encL rQuad m)) :
    appendA T 56 id .nilsl x σ = some (.sl id 0 r.length, σ.put id ⟨37, 5, encL rQuad r⟩) := appA_nil (e := 37) rfl rfl (by decide) h id hx
theorem appe56 {m r : List gQuad} (h : appx 40 [] m = some r) {σ : AHeap} {x : AV} (id : Nat) (hx : srcA ⟨5, 40, [.int .i64 0, .int .i64 0, .int .i64 0, .int .i64 0, .int .i64 0], .struct [(0, 3), (1, 3), (2, 3), (3, 3), (4, 3)]⟩ σ x = some (encL rQuad m)) :
    appendA T 56 id .esl x σ = some (.sl id 0 r.length, σ.put id ⟨37, 5, encL rQuad r⟩) := appA_esl (e := 37) rfl rfl (by decide) h id hx
theorem appf56 {m r : List gQuad} (h : appx 40 [] m = some r) {σ : AHeap} {s x : AV} (hs : s.noRoom = true) (hx : srcA ⟨5, 40, [.int .i64 0, .int .i64 0, .int .i64 0, .int .i64 0, .int .i64 0], .struct [(0, 3), (1, 3), (2, 3), (3, 3), (4, 3)]⟩ σ x = some (encL rQuad m)) :
    appendF T 56 s x σ = some (.fsl (encL rQuad r), σ) := appF_nil (e := 37) (ti := ⟨5, 40, [.int .i64 0, .int .i64 0, .int .i64 0, .int .i64 0, .int .i64 0], .struct [(0, 3), (1, 3), (2, 3), (3, 3), (4, 3)]⟩) rfl rfl (by decide) h hs hx
theorem mak56 {n : Int} {r : List gQuad} (h : makex 40 n (⟨0, 0, 0, 0, 0⟩ : gQuad) = some r) (σ : AHeap) (id : Nat) (k k' : IntKind) : makeA T 56 false id (.int k n) (.int k' n) σ = some (.sl id 0 r.length, σ.put id ⟨37, 5, encL rQuad r⟩) := makA_sl (e := 37) (ti := ⟨5, 40, [.int .i64 0, .int .i64 0, .int .i64 0, .int .i64 0, .int .i64 0], .struct [(0, 3), (1, 3), (2, 3), (3, 3), (4, 3)]⟩) rfl rfl (by decide) (z := (⟨0, 0, 0, 0, 0⟩ : gQuad)) rfl h σ id k k'
theorem makf56 {n : Int} {r : List gQuad} (h : makex 40 n (⟨0, 0, 0, 0, 0⟩ : gQuad) = some r) (σ : AHeap) (id : Nat) (k k' : IntKind) : makeA T 56 true id (.int k n) (.int k' n) σ = some (.fsl (encL rQuad r), σ) := makA_fsl (e := 37) (ti := ⟨5, 40, [.int .i64 0, .int .i64 0, .int .i64 0, .int .i64 0, .int .i64 0], .struct [(0, 3), (1, 3), (2, 3), (3, 3), (4, 3)]⟩) rfl rfl (by decide) (z := (⟨0, 0, 0, 0, 0⟩ : gQuad)) rfl h σ id k k'
theorem cut_56 {l r : List gQuad} (h : cutx l 0 (ilen l) = some r) (σ : AHeap) : cutA T σ 56 (.fsl (encL rQuad l)) none none = some (.fsl (encL rQuad r)) := cutA_fsl (e := 37) rfl rfl (fun _ => rfl) rfl rfl h σ
theorem cuth_56 {l r : List gQuad} {b : Int} (h : cutx l 0 b = some r) (σ : AHeap) {kb : IntKind} : cutA T σ 56 (.fsl (encL rQuad l)) none (some (.int kb b)) = some (.fsl (encL rQuad r)) := cutA_fsl (e := 37) rfl rfl (fun _ => rfl) rfl rfl h σ
theorem cutl_56 {l r : List gQuad} {a : Int} (h : cutx l a (ilen l) = some r) (σ : AHeap) {ka : IntKind} : cutA T σ 56 (.fsl (encL rQuad l)) (some (.int ka a)) none = some (.fsl (encL rQuad r)) := cutA_fsl (e := 37) rfl rfl (fun _ => rfl) rfl rfl h σ
theorem cutlh_56 {l r : List gQuad} {a : Int} {b : Int} (h : cutx l a b = some r) (σ : AHeap) {ka : IntKind} {kb : IntKind} : cutA T σ 56 (.fsl (encL rQuad l)) (some (.int ka a)) (some (.int kb b)) = some (.fsl (encL rQuad r)) := cutA_fsl (e := 37) rfl rfl (fun _ => rfl) rfl rfl h σ
@[simp] theorem len59 (l : List gQuad) : lenA T 59 (.fsl (encL rQuad l)) = some (.int .i64 (ilen l)) := lenA_fsl (e := 40) rfl rQuad l
@[simp] theorem leno59 (o r : Nat) (l : List gQuad) : lenA T 59 (.sl o r l.length) = some (.int .i64 (ilen l)) := lenA_sl (e := 40) rfl o r l
@[simp] theorem lenn59 : lenA T 59 .nilsl = some (.int .i64 0) := rfl
@[simp] theorem lene59 : lenA T 59 .esl = some (.int .i64 0) := rfl
@[simp] theorem src59 (σ : AHeap) (l : List gQuad) (z : List AV) (k : TK) : srcA ⟨5, 40, z, k⟩ σ (.fsl (encL rQuad l)) = some (encL rQuad l) := srcA_fsl (f := rQuad) (fun _ => rfl) σ l
@[simp] theorem srco59 {σ : AHeap} {o : Nat} {l : List gQuad} (z : List AV) (k : TK) (h : σ.objs o = some ⟨40, 5, encL rQuad l⟩) : srcA ⟨5, 40, z, k⟩ σ (.sl o 0 l.length) = some (encL rQuad l) := srcA_sl (ti := ⟨5, 40, z, k⟩) (fun _ => rfl) h
theorem ix59 {l : List gQuad} {i : Int} {v : gQuad} (h : idx l i = some v) (σ : AHeap) (k : IntKind) : indexAddrA T σ 59 (.fsl (encL rQuad l)) (.int k i) = some (.fptr (rQuad v) 0) := ixA_fsl (e := 40) rfl rfl (fun _ => rfl) h σ k
theorem ixo59 {l : List gQuad} {i : Int} {v : gQuad} (h : idx l i = some v) {σ : AHeap} {o : Nat} (hs : (σ.objs o).map AObj.sz = some 5) (k : IntKind) : indexAddrA T σ 59 (.sl o 0 l.length) (.int k i) = some (.ptr o i.toNat 0) := ixA_sl (e := 40) rfl rfl h hs k
theorem app59 {l m r : List gQuad} (h : appx 40 l m = some r) {σ : AHeap} {o : Nat} {x : AV} (id : Nat) (ho : σ.objs o = some ⟨40, 5, encL rQuad l⟩) (hx : srcA ⟨5, 40, [.int .i64 0, .int .i64 0, .int .i64 0, .int .i64 0, .int .i64 0], .struct [(0, 3), (1, 3), (2, 3), (3, 3), (4, 3)]⟩ σ x = some (encL rQuad m)) :
    appendA T 59 id (.sl o 0 l.length) x σ = some (.sl id 0 r.length, (σ.kill o).put id ⟨40, 5, encL rQuad r⟩) := appA_sl (e := 40) rfl rfl (by decide) h id ho hx
theorem appn59 {m r : List gQuad} (h : appx 40 [] m = some r) {σ : AHeap} {x : AV} (id : Nat) (hx : srcA ⟨5, 40, [.int .i64 0, .int .i64 0, .int .i64 0, .int .i64 0, .int .i64 0], .struct [(0, 3), (1, 3), (2, 3), (3, 3), (4, 3)]⟩ σ x = some (encL rQuad m)) :
    appendA T 59 id .nilsl x σ = some (.sl id 0 r.length, σ.put id ⟨40, 5, encL rQuad r⟩) := appA_nil (e := 40) rfl rfl (by decide) h id hx
theorem appe59 {m r : List gQuad} (h : appx 40 [] m = some r) {σ : AHeap} {x : AV} (id : Nat) (hx : srcA ⟨5, 40, [.int .i64 0, .int .i64 0, .int .i64 0, .int .i64 0, .int .i64 0], .struct [(0, 3), (1, 3), (2, 3), (3, 3), (4, 3)]⟩ σ x = some (encL rQuad m)) :
    appendA T 59 id .esl x σ = some (.sl id 0 r.length, σ.put id ⟨40, 5, encL rQuad r⟩) := appA_esl (e := 40) rfl rfl (by decide) h id hx
theorem appf59 {m r : List gQuad} (h : appx 40 [] m = some r) {σ : AHeap} {s x : AV} (hs : s.noRoom = true) (hx : srcA ⟨5, 40, [.int .i64 0, .int .i64 0, .int .i64 0, .int .i64 0, .int .i64 0], .struct [(0, 3), (1, 3), (2, 3), (3, 3), (4, 3)]⟩ σ x = some (encL rQuad m)) :
    appendF T 59 s x σ = some (.fsl (encL rQuad r), σ) := appF_nil (e := 40) (ti := ⟨5, 40, [.int .i64 0, .int .i64 0, .int .i64 0, .int .i64 0, .int .i64 0], .struct [(0, 3), (1, 3), (2, 3), (3, 3), (4, 3)]⟩) rfl rfl (by decide) h hs hx
theorem mak59 {n : Int} {r : List gQuad} (h : makex 40 n (⟨0, 0, 0, 0, 0⟩ : gQuad) = some r) (σ : AHeap) (id : Nat) (k k' : IntKind) : makeA T 59 false id (.int k n) (.int k' n) σ = some (.sl id 0 r.length, σ.put id ⟨40, 5, encL rQuad r⟩) := makA_sl (e := 40) (ti := ⟨5, 40, [.int .i64 0, .int .i64 0, .int .i64 0, .int .i64 0, .int .i64 0], .struct [(0, 3), (1, 3), (2, 3), (3, 3), (4, 3)]⟩) rfl rfl (by decide) (z := (⟨0, 0, 0, 0, 0⟩ : gQuad)) rfl h σ id k k'
theorem makf59 {n : Int} {r : List gQuad} (h : makex 40 n (⟨0, 0, 0, 0, 0⟩ : gQuad) = some r) (σ : AHeap) (id : Nat) (k k' : IntKind) : makeA T 59 true id (.int k n) (.int k' n) σ = some (.fsl (encL rQuad r), σ) := makA_fsl (e := 40) (ti := ⟨5, 40, [.int .i64 0, .int .i64 0, .int .i64 0, .int .i64 0, .int .i64 0], .struct [(0, 3), (1, 3), (2, 3), (3, 3), (4, 3)]⟩) rfl rfl (by decide) (z := (⟨0, 0, 0, 0, 0⟩ : gQuad)) rfl h σ id k k'
theorem cut_59 {l r : List gQuad} (h : cutx l 0 (ilen l) = some r) (σ : AHeap) : cutA T σ 59 (.fsl (encL rQuad l)) none none = some (.fsl (encL rQuad r)) := cutA_fsl (e := 40) rfl rfl (fun _ => rfl) rfl rfl h σ
theorem cuth_59 {l r : List gQuad} {b : Int} (h : cutx l 0 b = some r) (σ : AHeap) {kb : IntKind} : cutA T σ 59 (.fsl (encL rQuad l)) none (some (.int kb b)) = some (.fsl (encL rQuad r)) := cutA_fsl (e := 40) rfl rfl (fun _ => rfl) rfl rfl h σ
theorem cutl_59 {l r : List gQuad} {a : Int} (h : cutx l a (ilen l) = some r) (σ : AHeap) {ka : IntKind} : cutA T σ 59 (.fsl (encL rQuad l)) (some (.int ka a)) none = some (.fsl (encL rQuad r)) := cutA_fsl (e := 40) rfl rfl (fun _ => rfl) rfl rfl h σ
theorem cutlh_59 {l r : List gQuad} {a : Int} {b : Int} (h : cutx l a b = some r) (σ : AHeap) {ka : IntKind} {kb : IntKind} : cutA T σ 59 (.fsl (encL rQuad l)) (some (.int ka a)) (some (.int kb b)) = some (.fsl (encL rQuad r)) := cutA_fsl (e := 40) rfl rfl (fun _ => rfl) rfl rfl h σ
@[simp] theorem len69 (l : List (List gInstr)) : lenA T 69 (.fsl (encL rL_Instr l)) = some (.int .i64 (ilen l)) := lenA_fsl (e := 22) rfl rL_Instr l
@[simp] theorem leno69 (o r : Nat) (l : List (List gInstr)) : lenA T 69 (.sl o r l.length) = some (.int .i64 (ilen l)) := lenA_sl (e := 22) rfl o r l
@[simp] theorem lenn69 : lenA T 69 .nilsl = some (.int .i64 0) := rfl
@[simp] theorem lene69 : lenA T 69 .esl = some (.int .i64 0) := rfl
@[simp] theorem src69 (σ : AHeap) (l : List (List gInstr)) (z : List AV) (k : TK) : srcA ⟨1, 24, z, k⟩ σ (.fsl (encL rL_Instr l)) = some (encL rL_Instr l) := srcA_fsl (f := rL_Instr) (fun _ => rfl) σ l
@[simp] theorem srco69 {σ : AHeap} {o : Nat} {l : List (List gInstr)} (z : List AV) (k : TK) (h : σ.objs o = some ⟨22, 1, encL rL_Instr l⟩) : srcA ⟨1, 24, z, k⟩ σ (.sl o 0 l.length) = some (encL rL_Instr l) := srcA_sl (ti := ⟨1, 24, z, k⟩) (fun _ => rfl) h
theorem ix69 {l : List (List gInstr)} {i : Int} {v : (List gInstr)} (h : idx l i = some v) (σ : AHeap) (k : IntKind) : indexAddrA T σ 69 (.fsl (encL rL_Instr l)) (.int k i) = some (.fptr (rL_Instr v) 0) := ixA_fsl (e := 22) rfl rfl (fun _ => rfl) h σ k
theorem ixo69 {l : List (List gInstr)} {i : Int} {v : (List gInstr)} (h : idx l i = some v) {σ : AHeap} {o : Nat} (hs : (σ.objs o).map AObj.sz = some 1) (k : IntKind) : indexAddrA T σ 69 (.sl o 0 l.length) (.int k i) = some (.ptr o i.toNat 0) := ixA_sl (e := 22) rfl rfl h hs k
theorem app69 {l m r : List (List gInstr)} (h : appx 24 l m = some r) {σ : AHeap} {o : Nat} {x : AV} (id : Nat) (ho : σ.objs o = some ⟨22, 1, encL rL_Instr l⟩) (hx : srcA ⟨1, 24, [.nilsl], .slice 92⟩ σ x = some (encL rL_Instr m)) :
    appendA T 69 id (.sl o 0 l.length) x σ = some (.sl id 0 r.length, (σ.kill o).put id ⟨22, 1, encL rL_Instr r⟩) := appA_sl (e := 22) rfl rfl (by decide) h id ho hx
theorem appn69 {m r : List (List gInstr)} (h : appx 24 [] m = some r) {σ : AHeap} {x : AV} (id : Nat) (hx : srcA ⟨1, 24, [.nilsl], .slice 92⟩ σ x = some (encL rL_Instr m)) :
    appendA T 69 id .nilsl x σ = some (.sl id 0 r.length, σ.put id ⟨22, 1, encL rL_Instr r⟩) := appA_nil (e := 22) rfl rfl (by decide) h id hx
theorem appe69 {m r : List (List gInstr)} (h : appx 24 [] m = some r) {σ : AHeap} {x : AV} (id : Nat) (hx : srcA ⟨1, 24, [.nilsl], .slice 92⟩ σ x = some (encL rL_Instr m)) :
    appendA T 69 id .esl x σ = some (.sl id 0 r.length, σ.put id ⟨22, 1, encL rL_Instr r⟩) := appA_esl (e := 22) rfl rfl (by decide) h id hx
theorem appf69 {m r : List (List gInstr)} (h : appx 24 [] m = some r) {σ : AHeap} {s x : AV} (hs : s.noRoom = true) (hx : srcA ⟨1, 24, [.nilsl], .slice 92⟩ σ x = some (encL rL_Instr m)) :
    appendF T 69 s x σ = some (.fsl (encL rL_Instr r), σ) := appF_nil (e := 22) (ti := ⟨1, 24, [.nilsl], .slice 92⟩) rfl rfl (by decide) h hs hx
theorem mak69 {n : Int} {r : List (List gInstr)} (h : makex 24 n (([] : List gInstr) : (List gInstr)) = some r) (σ : AHeap) (id : Nat) (k k' : IntKind) : makeA T 69 false id (.int k n) (.int k' n) σ = some (.sl id 0 r.length, σ.put id ⟨22, 1, encL rL_Instr r⟩) := makA_sl (e := 22) (ti := ⟨1, 24, [.nilsl], .slice 92⟩) rfl rfl (by decide) (z := (([] : List gInstr) : (List gInstr))) rfl h σ id k k'
theorem makf69 {n : Int} {r : List (List gInstr)} (h : makex 24 n (([] : List gInstr) : (List gInstr)) = some r) (σ : AHeap) (id : Nat) (k k' : IntKind) : makeA T 69 true id (.int k n) (.int k' n) σ = some (.fsl (encL rL_Instr r), σ) := makA_fsl (e := 22) (ti := ⟨1, 24, [.nilsl], .slice 92⟩) rfl rfl (by decide) (z := (([] : List gInstr) : (List gInstr))) rfl h σ id k k'
theorem cut_69 {l r : List (List gInstr)} (h : cutx l 0 (ilen l) = some r) (σ : AHeap) : cutA T σ 69 (.fsl (encL rL_Instr l)) none none = some (.fsl (encL rL_Instr r)) := cutA_fsl (e := 22) rfl rfl (fun _ => rfl) rfl rfl h σ
theorem cuth_69 {l r : List (List gInstr)} {b : Int} (h : cutx l 0 b = some r) (σ : AHeap) {kb : IntKind} : cutA T σ 69 (.fsl (encL rL_Instr l)) none (some (.int kb b)) = some (.fsl (encL rL_Instr r)) := cutA_fsl (e := 22) rfl rfl (fun _ => rfl) rfl rfl h σ
theorem cutl_69 {l r : List (List gInstr)} {a : Int} (h : cutx l a (ilen l) = some r) (σ : AHeap) {ka : IntKind} : cutA T σ 69 (.fsl (encL rL_Instr l)) (some (.int ka a)) none = some (.fsl (encL rL_Instr r)) := cutA_fsl (e := 22) rfl rfl (fun _ => rfl) rfl rfl h σ
theorem cutlh_69 {l r : List (List gInstr)} {a : Int} {b : Int} (h : cutx l a b = some r) (σ : AHeap) {ka : IntKind} {kb : IntKind} : cutA T σ 69 (.fsl (encL rL_Instr l)) (some (.int ka a)) (some (.int kb b)) = some (.fsl (encL rL_Instr r)) := cutA_fsl (e := 22) rfl rfl (fun _ => rfl) rfl rfl h σ
@[simp] theorem len71 (l : List gMachine) : lenA T 71 (.fsl (encL rMachine l)) = some (.int .i64 (ilen l)) := lenA_fsl (e := 26) rfl rMachine l
@[simp] theorem leno71 (o r : Nat) (l : List gMachine) : lenA T 71 (.sl o r l.length) = some (.int .i64 (ilen l)) := lenA_sl (e := 26) rfl o r l
@[simp] theorem lenn71 : lenA T 71 .nilsl = some (.int .i64 0) := rfl
@[simp] theorem lene71 : lenA T 71 .esl = some (.int .i64 0) := rfl
@[simp] theorem src71 (σ : AHeap) (l : List gMachine) (z : List AV) (k : TK) : srcA ⟨3, 56, z, k⟩ σ (.fsl (encL rMachine l)) = some (encL rMachine l) := srcA_fsl (f := rMachine) (fun _ => rfl) σ l
@[simp] theorem srco71 {σ : AHeap} {o : Nat} {l : List gMachine} (z : List AV) (k : TK) (h : σ.objs o = some ⟨26, 3, encL rMachine l⟩) : srcA ⟨3, 56, z, k⟩ σ (.sl o 0 l.length) = some (encL rMachine l) := srcA_sl (ti := ⟨3, 56, z, k⟩) (fun _ => rfl) h
theorem ix71 {l : List gMachine} {i : Int} {v : gMachine} (h : idx l i = some v) (σ : AHeap) (k : IntKind) : indexAddrA T σ 71 (.fsl (encL rMachine l)) (.int k i) = some (.fptr (rMachine v) 0) := ixA_fsl (e := 26) rfl rfl (fun _ => rfl) h σ k
theorem ixo71 {l : List gMachine} {i : Int} {v : gMachine} (h : idx l i = some v) {σ : AHeap} {o : Nat} (hs : (σ.objs o).map AObj.sz = some 3) (k : IntKind) : indexAddrA T σ 71 (.sl o 0 l.length) (.int k i) = some (.ptr o i.toNat 0) := ixA_sl (e := 26) rfl rfl h hs k
theorem app71 {l m r : List gMachine} (h : appx 56 l m = some r) {σ : AHeap} {o : Nat} {x : AV} (id : Nat) (ho : σ.objs o = some ⟨26, 3, encL rMachine l⟩) (hx : srcA ⟨3, 56, [.nilsl, .int .i64 0, .nilsl], .struct [(0, 24), (1, 3), (2, 24)]⟩ σ x = some (encL rMachine m)) :
    appendA T 71 id (.sl o 0 l.length) x σ = some (.sl id 0 r.length, (σ.kill o).put id ⟨26, 3, encL rMachine r⟩) := appA_sl (e := 26) rfl rfl (by decide) h id ho hx
theorem appn71 {m r : List gMachine} (h : appx 56 [] m = some r) {σ : AHeap} {x : AV} (id : Nat) (hx : srcA ⟨3, 56, [.nilsl, .int .i64 0, .nilsl], .struct [(0, 24), (1, 3), (2, 24)]⟩ σ x = some (encL rMachine m)) :
    appendA T 71 id .nilsl x σ = some (.sl id 0 r.length, σ.put id ⟨26, 3, encL rMachine r⟩) := appA_nil (e := 26) rfl rfl (by decide) h id hx
theorem appe71 {m r : List gMachine} (h : appx 56 [] m = some r) {σ : AHeap} {x : AV} (id : Nat) (hx : srcA ⟨3, 56, [.nilsl, .int .i64 0, .nilsl], .struct [(0, 24), (1, 3), (2, 24)]⟩ σ x = some (encL rMachine m)) :
    appendA T 71 id .esl x σ = some (.sl id 0 r.length, σ.put id ⟨26, 3, encL rMachine r⟩) := appA_esl (e := 26) rfl rfl (by decide) h id hx
theorem appf71 {m r : List gMachine} (h : appx 56 [] m = some r) {σ : AHeap} {s x : AV} (hs : s.noRoom = true) (hx : srcA ⟨3, 56, [.nilsl, .int .i64 0, .nilsl], .struct [(0, 24), (1, 3), (2, 24)]⟩ σ x = some (encL rMachine m)) :
    appendF T 71 s x σ = some (.fsl (encL rMachine r), σ) := appF_nil (e := 26) (ti := ⟨3, 56, [.nilsl, .int .i64 0, .nilsl], .struct [(0, 24), (1, 3), (2, 24)]⟩) rfl rfl (by decide) h hs hx
theorem mak71 {n : Int} {r : List gMachine} (h : makex 56 n (⟨([] : List Int), 0, ([] : List Int)⟩ : gMachine) = some r) (σ : AHeap) (id : Nat) (k k' : IntKind) : makeA T 71 false id (.int k n) (.int k' n) σ = some (.sl id 0 r.length, σ.put id ⟨26, 3, encL rMachine r⟩) := makA_sl (e := 26) (ti := ⟨3, 56, [.nilsl, .int .i64 0, .nilsl], .struct [(0, 24), (1, 3), (2, 24)]⟩) rfl rfl (by decide) (z := (⟨([] : List Int), 0, ([] : List Int)⟩ : gMachine)) rfl h σ id k k'
theorem makf71 {n : Int} {r : List gMachine} (h : makex 56 n (⟨([] : List Int), 0, ([] : List Int)⟩ : gMachine) = some r) (σ : AHeap) (id : Nat) (k k' : IntKind) : makeA T 71 true id (.int k n) (.int k' n) σ = some (.fsl (encL rMachine r), σ) := makA_fsl (e := 26) (ti := ⟨3, 56, [.nilsl, .int .i64 0, .nilsl], .struct [(0, 24), (1, 3), (2, 24)]⟩) rfl rfl (by decide) (z := (⟨([] : List Int), 0, ([] : List Int)⟩ : gMachine)) rfl h σ id k k'
theorem cut_71 {l r : List gMachine} (h : cutx l 0 (ilen l) = some r) (σ : AHeap) : cutA T σ 71 (.fsl (encL rMachine l)) none none = some (.fsl (encL rMachine r)) := cutA_fsl (e := 26) rfl rfl (fun _ => rfl) rfl rfl h σ
theorem cuth_71 {l r : List gMachine} {b : Int} (h : cutx l 0 b = some r) (σ : AHeap) {kb : IntKind} : cutA T σ 71 (.fsl (encL rMachine l)) none (some (.int kb b)) = some (.fsl (encL rMachine r)) := cutA_fsl (e := 26) rfl rfl (fun _ => rfl) rfl rfl h σ
theorem cutl_71 {l r : List gMachine} {a : Int} (h : cutx l a (ilen l) = some r) (σ : AHeap) {ka : IntKind} : cutA T σ 71 (.fsl (encL rMachine l)) (some (.int ka a)) none = some (.fsl (encL rMachine r)) := cutA_fsl (e := 26) rfl rfl (fun _ => rfl) rfl rfl h σ
theorem cutlh_71 {l r : List gMachine} {a : Int} {b : Int} (h : cutx l a b = some r) (σ : AHeap) {ka : IntKind} {kb : IntKind} : cutA T σ 71 (.fsl (encL rMachine l)) (some (.int ka a)) (some (.int kb b)) = some (.fsl (encL rMachine r)) := cutA_fsl (e := 26) rfl rfl (fun _ => rfl) rfl rfl h σ
@[simp] theorem len72 (l : List gBox) : lenA T 72 (.fsl (encL rBox l)) = some (.int .i64 (ilen l)) := lenA_fsl (e := 153) rfl rBox l
@[simp] theorem leno72 (o r : Nat) (l : List gBox) : lenA T 72 (.sl o r l.length) = some (.int .i64 (ilen l)) := lenA_sl (e := 153) rfl o r l
@[simp] theorem lenn72 : lenA T 72 .nilsl = some (.int .i64 0) := rfl
@[simp] theorem lene72 : lenA T 72 .esl = some (.int .i64 0) := rfl
@[simp] theorem src72 (σ : AHeap) (l : List gBox) (z : List AV) (k : TK) : srcA ⟨2, 32, z, k⟩ σ (.fsl (encL rBox l)) = some (encL rBox l) := srcA_fsl (f := rBox) (fun _ => rfl) σ l
@[simp] theorem srco72 {σ : AHeap} {o : Nat} {l : List gBox} (z : List AV) (k : TK) (h : σ.objs o = some ⟨153, 2, encL rBox l⟩) : srcA ⟨2, 32, z, k⟩ σ (.sl o 0 l.length) = some (encL rBox l) := srcA_sl (ti := ⟨2, 32, z, k⟩) (fun _ => rfl) h
theorem ix72 {l : List gBox} {i : Int} {v : gBox} (h : idx l i = some v) (σ : AHeap) (k : IntKind) : indexAddrA T σ 72 (.fsl (encL rBox l)) (.int k i) = some (.fptr (rBox v) 0) := ixA_fsl (e := 153) rfl rfl (fun _ => rfl) h σ k
theorem ixo72 {l : List gBox} {i : Int} {v : gBox} (h : idx l i = some v) {σ : AHeap} {o : Nat} (hs : (σ.objs o).map AObj.sz = some 2) (k : IntKind) : indexAddrA T σ 72 (.sl o 0 l.length) (.int k i) = some (.ptr o i.toNat 0) := ixA_sl (e := 153) rfl rfl h hs k
theorem app72 {l m r : List gBox} (h : appx 32 l m = some r) {σ : AHeap} {o : Nat} {x : AV} (id : Nat) (ho : σ.objs o = some ⟨153, 2, encL rBox l⟩) (hx : srcA ⟨2, 32, [.int .i64 0, .nilsl], .struct [(0, 3), (1, 24)]⟩ σ x = some (encL rBox m)) :
    appendA T 72 id (.sl o 0 l.length) x σ = some (.sl id 0 r.length, (σ.kill o).put id ⟨153, 2, encL rBox r⟩) := appA_sl (e := 153) rfl rfl (by decide) h id ho hx
theorem appn72 {m r : List gBox} (h : appx 32 [] m = some r) {σ : AHeap} {x : AV} (id : Nat) (hx : srcA ⟨2, 32, [.int .i64 0, .nilsl], .struct [(0, 3), (1, 24)]⟩ σ x = some (encL rBox m)) :
    appendA T 72 id .nilsl x σ = some (.sl id 0 r.length, σ.put id ⟨153, 2, encL rBox r⟩) := appA_nil (e := 153) rfl rfl (by decide) h id hx
theorem appe72 {m r : List gBox} (h : appx 32 [] m = some r) {σ : AHeap} {x : AV} (id : Nat) (hx : srcA ⟨2, 32, [.int .i64 0, .nilsl], .struct [(0, 3), (1, 24)]⟩ σ x = some (encL rBox m)) :
    appendA T 72 id .esl x σ = some (.sl id 0 r.length, σ.put id ⟨153, 2, encL rBox r⟩) := appA_esl (e := 153) rfl rfl (by decide) h id hx
theorem appf72 {m r : List gBox} (h : appx 32 [] m = some r) {σ : AHeap} {s x : AV} (hs : s.noRoom = true) (hx : srcA ⟨2, 32, [.int .i64 0, .nilsl], .struct [(0, 3), (1, 24)]⟩ σ x = some (encL rBox m)) :
    appendF T 72 s x σ = some (.fsl (encL rBox r), σ) := appF_nil (e := 153) (ti := ⟨2, 32, [.int .i64 0, .nilsl], .struct [(0, 3), (1, 24)]⟩) rfl rfl (by decide) h hs hx
theorem mak72 {n : Int} {r : List gBox} (h : makex 32 n (⟨0, ([] : List Int)⟩ : gBox) = some r) (σ : AHeap) (id : Nat) (k k' : IntKind) : makeA T 72 false id (.int k n) (.int k' n) σ = some (.sl id 0 r.length, σ.put id ⟨153, 2, encL rBox r⟩) := makA_sl (e := 153) (ti := ⟨2, 32, [.int .i64 0, .nilsl], .struct [(0, 3), (1, 24)]⟩) rfl rfl (by decide) (z := (⟨0, ([] : List Int)⟩ : gBox)) rfl h σ id k k'
theorem makf72 {n : Int} {r : List gBox} (h : makex 32 n (⟨0, ([] : List Int)⟩ : gBox) = some r) (σ : AHeap) (id : Nat) (k k' : IntKind) : makeA T 72 true id (.int k n) (.int k' n) σ = some (.fsl (encL rBox r), σ) := makA_fsl (e := 153) (ti := ⟨2, 32, [.int .i64 0, .nilsl], .struct [(0, 3), (1, 24)]⟩) rfl rfl (by decide) (z := (⟨0, ([] : List Int)⟩ : gBox)) rfl h σ id k k'
theorem cut_72 {l r : List gBox} (h : cutx l 0 (ilen l) = some r) (σ : AHeap) : cutA T σ 72 (.fsl (encL rBox l)) none none = some (.fsl (encL rBox r)) := cutA_fsl (e := 153) rfl rfl (fun _ => rfl) rfl rfl h σ
theorem cuth_72 {l r : List gBox} {b : Int} (h : cutx l 0 b = some r) (σ : AHeap) {kb : IntKind} : cutA T σ 72 (.fsl (encL rBox l)) none (some (.int kb b)) = some (.fsl (encL rBox r)) := cutA_fsl (e := 153) rfl rfl (fun _ => rfl) rfl rfl h σ
theorem cutl_72 {l r : List gBox} {a : Int} (h : cutx l a (ilen l) = some r) (σ : AHeap) {ka : IntKind} : cutA T σ 72 (.fsl (encL rBox l)) (some (.int ka a)) none = some (.fsl (encL rBox r)) := cutA_fsl (e := 153) rfl rfl (fun _ => rfl) rfl rfl h σ
theorem cutlh_72 {l r : List gBox} {a : Int} {b : Int} (h : cutx l a b = some r) (σ : AHeap) {ka : IntKind} {kb : IntKind} : cutA T σ 72 (.fsl (encL rBox l)) (some (.int ka a)) (some (.int kb b)) = some (.fsl (encL rBox r)) := cutA_fsl (e := 153) rfl rfl (fun _ => rfl) rfl rfl h σ
@[simp] theorem len78 (l : List (List gInstr)) : lenA T 78 (.fsl (encL rL_Instr l)) = some (.int .i64 (ilen l)) := lenA_fsl (e := 29) rfl rL_Instr l
@[simp] theorem leno78 (o r : Nat) (l : List (List gInstr)) : lenA T 78 (.sl o r l.length) = some (.int .i64 (ilen l)) := lenA_sl (e := 29) rfl o r l
@[simp] theorem lenn78 : lenA T 78 .nilsl = some (.int .i64 0) := rfl
@[simp] theorem lene78 : lenA T 78 .esl = some (.int .i64 0) := rfl
@[simp] theorem src78 (σ : AHeap) (l : List (List gInstr)) (z : List AV) (k : TK) : srcA ⟨1, 24, z, k⟩ σ (.fsl (encL rL_Instr l)) = some (encL rL_Instr l) := srcA_fsl (f := rL_Instr) (fun _ => rfl) σ l
@[simp] theorem srco78 {σ : AHeap} {o : Nat} {l : List (List gInstr)} (z : List AV) (k : TK) (h : σ.objs o = some ⟨29, 1, encL rL_Instr l⟩) : srcA ⟨1, 24, z, k⟩ σ (.sl o 0 l.length) = some (encL rL_Instr l) := srcA_sl (ti := ⟨1, 24, z, k⟩) (fun _ => rfl) h
theorem ix78 {l : List (List gInstr)} {i : Int} {v : (List gInstr)} (h : idx l i = some v) (σ : AHeap) (k : IntKind) : indexAddrA T σ 78 (.fsl (encL rL_Instr l)) (.int k i) = some (.fptr (rL_Instr v) 0) := ixA_fsl (e := 29) rfl rfl (fun _ => rfl) h σ k
theorem ixo78 {l : List (List gInstr)} {i : Int} {v : (List gInstr)} (h : idx l i = some v) {σ : AHeap} {o : Nat} (hs : (σ.objs o).map AObj.sz = some 1) (k : IntKind) : indexAddrA T σ 78 (.sl o 0 l.length) (.int k i) = some (.ptr o i.toNat 0) := ixA_sl (e := 29) rfl rfl h hs k
theorem app78 {l m r : List (List gInstr)} (h : appx 24 l m = some r) {σ : AHeap} {o : Nat} {x : AV} (id : Nat) (ho : σ.objs o = some ⟨29, 1, encL rL_Instr l⟩) (hx : srcA ⟨1, 24, [.nilsl], .slice 47⟩ σ x = some (encL rL_Instr m)) :
    appendA T 78 id (.sl o 0 l.length) x σ = some (.sl id 0 r.length, (σ.kill o).put id ⟨29, 1, encL rL_Instr r⟩) := appA_sl (e := 29) rfl rfl (by decide) h id ho hx
theorem appn78 {m r : List (List gInstr)} (h : appx 24 [] m = some r) {σ : AHeap} {x : AV} (id : Nat) (hx : srcA ⟨1, 24, [.nilsl], .slice 47⟩ σ x = some (encL rL_Instr m)) :
    appendA T 78 id .nilsl x σ = some (.sl id 0 r.length, σ.put id ⟨29, 1, encL rL_Instr r⟩) := appA_nil (e := 29) rfl rfl (by decide) h id hx
theorem appe78 {m r : List (List gInstr)} (h : appx 24 [] m = some r) {σ : AHeap} {x : AV} (id : Nat) (hx : srcA ⟨1, 24, [.nilsl], .slice 47⟩ σ x = some (encL rL_Instr m)) :
    appendA T 78 id .esl x σ = some (.sl id 0 r.length, σ.put id ⟨29, 1, encL rL_Instr r⟩) := appA_esl (e := 29) rfl rfl (by decide) h id hx
theorem appf78 {m r : List (List gInstr)} (h : appx 24 [] m = some r) {σ : AHeap} {s x : AV} (hs : s.noRoom = true) (hx : srcA ⟨1, 24, [.nilsl], .slice 47⟩ σ x = some (encL rL_Instr m)) :
    appendF T 78 s x σ = some (.fsl (encL rL_Instr r), σ) := appF_nil (e := 29) (ti := ⟨1, 24, [.nilsl], .slice 47⟩) rfl rfl (by decide) h hs hx
theorem mak78 {n : Int} {r : List (List gInstr)} (h : makex 24 n (([] : List gInstr) : (List gInstr)) = some r) (σ : AHeap) (id : Nat) (k k' : IntKind) : makeA T 78 false id (.int k n) (.int k' n) σ = some (.sl id 0 r.length, σ.put id ⟨29, 1, encL rL_Instr r⟩) := makA_sl (e := 29) (ti := ⟨1, 24, [.nilsl], .slice 47⟩) rfl rfl (by decide) (z := (([] : List gInstr) : (List gInstr))) rfl h σ id k k'
theorem makf78 {n : Int} {r : List (List gInstr)} (h : makex 24 n (([] : List gInstr) : (List gInstr)) = some r) (σ : AHeap) (id : Nat) (k k' : IntKind) : makeA T 78 true id (.int k n) (.int k' n) σ = some (.fsl (encL rL_Instr r), σ) := makA_fsl (e := 29) (ti := ⟨1, 24, [.nilsl], .slice 47⟩) rfl rfl (by decide) (z := (([] : List gInstr) : (List gInstr))) rfl h σ id k k'
theorem cut_78 {l r : List (List gInstr)} (h : cutx l 0 (ilen l) = some r) (σ : AHeap) : cutA T σ 78 (.fsl (encL rL_Instr l)) none none = some (.fsl (encL rL_Instr r)) := cutA_fsl (e := 29) rfl rfl (fun _ => rfl) rfl rfl h σ
theorem cuth_78 {l r : List (List gInstr)} {b : Int} (h : cutx l 0 b = some r) (σ : AHeap) {kb : IntKind} : cutA T σ 78 (.fsl (encL rL_Instr l)) none (some (.int kb b)) = some (.fsl (encL rL_Instr r)) := cutA_fsl (e := 29) rfl rfl (fun _ => rfl) rfl rfl h σ
theorem cutl_78 {l r : List (List gInstr)} {a : Int} (h : cutx l a (ilen l) = some r) (σ : AHeap) {ka : IntKind} : cutA T σ 78 (.fsl (encL rL_Instr l)) (some (.int ka a)) none = some (.fsl (encL rL_Instr r)) := cutA_fsl (e := 29) rfl rfl (fun _ => rfl) rfl rfl h σ
theorem cutlh_78 {l r : List (List gInstr)} {a : Int} {b : Int} (h : cutx l a b = some r) (σ : AHeap) {ka : IntKind} {kb : IntKind} : cutA T σ 78 (.fsl (encL rL_Instr l)) (some (.int ka a)) (some (.int kb b)) = some (.fsl (encL rL_Instr r)) := cutA_fsl (e := 29) rfl rfl (fun _ => rfl) rfl rfl h σ
theorem gx134 {l : List Int} {i v : Int} (h : idx l i = some v) (σ : AHeap) (k : IntKind) (hn : l.length = 12 := by rfl) : indexAddrA T σ 134 (.fptr (gI l) 0) (.int k i) = some (.fptr (gI l) i.toNat) := gixA (e := 3) rfl rfl hn h σ k
theorem gx151 {l : List Int} {i v : Int} (h : idx l i = some v) (σ : AHeap) (k : IntKind) (hn : l.length = 11 := by rfl) : indexAddrA T σ 151 (.fptr (gI l) 0) (.int k i) = some (.fptr (gI l) i.toNat) := gixA (e := 3) rfl rfl hn h σ k
theorem gx157 {l : List Int} {i v : Int} (h : idx l i = some v) (σ : AHeap) (k : IntKind) (hn : l.length = 8 := by rfl) : indexAddrA T σ 157 (.fptr (gI l) 0) (.int k i) = some (.fptr (gI l) i.toNat) := gixA (e := 3) rfl rfl hn h σ k
theorem cuto_22 {l r : List gInstr} (h : cutx l 0 (ilen l) = some r) {σ : AHeap} {o : Nat} (hs : (σ.objs o).map AObj.sz = some 5) : cutA T σ 22 (.sl o 0 l.length) none none = some (.sl o 0 r.length) := cutA_sl (e := 92) rfl rfl rfl rfl h hs
theorem cutoh_22 {l r : List gInstr} {b : Int} (h : cutx l 0 b = some r) {σ : AHeap} {o : Nat} {kb : IntKind} (hs : (σ.objs o).map AObj.sz = some 5) : cutA T σ 22 (.sl o 0 l.length) none (some (.int kb b)) = some (.sl o 0 r.length) := cutA_sl (e := 92) rfl rfl rfl rfl h hs
theorem cutol_22 {l r : List gInstr} {a : Int} (h : cutx l a (ilen l) = some r) {σ : AHeap} {o : Nat} {ka : IntKind} (hs : (σ.objs o).map AObj.sz = some 5) : cutA T σ 22 (.sl o 0 l.length) (some (.int ka a)) none = some (.sl o a.toNat r.length) := cutA_sl (e := 92) rfl rfl rfl rfl h hs
theorem cutolh_22 {l r : List gInstr} {a : Int} {b : Int} (h : cutx l a b = some r) {σ : AHeap} {o : Nat} {ka : IntKind} {kb : IntKind} (hs : (σ.objs o).map AObj.sz = some 5) : cutA T σ 22 (.sl o 0 l.length) (some (.int ka a)) (some (.int kb b)) = some (.sl o a.toNat r.length) := cutA_sl (e := 92) rfl rfl rfl rfl h hs
theorem appv22 {l l' m r : List gInstr} {b : Int} (hc : cutx l 0 b = some l') (h : appx 40 l' m = some r) {σ : AHeap} {o : Nat} {x : AV} (id : Nat) (ho : σ.objs o = some ⟨92, 5, encL rInstr l⟩) (hx : srcA ⟨5, 40, [.int .i64 0, .int .i64 0, .int .i64 0, .int .i64 0, .int .i64 0], .struct [(0, 3), (1, 3), (2, 3), (3, 3), (4, 3)]⟩ σ x = some (encL rInstr m)) :
    appendA T 22 id (.sl o 0 l'.length) x σ = some (.sl id 0 r.length, (σ.kill o).put id ⟨92, 5, encL rInstr r⟩) := appA_slv (e := 92) (ti := ⟨5, 40, [.int .i64 0, .int .i64 0, .int .i64 0, .int .i64 0, .int .i64 0], .struct [(0, 3), (1, 3), (2, 3), (3, 3), (4, 3)]⟩) rfl rfl (by decide) hc h id ho hx
theorem srcv22 {l r : List gInstr} {a b : Int} (hv : cutx l a b = some r) {σ : AHeap} {o : Nat} (z : List AV) (k : TK) (h : σ.objs o = some ⟨92, 5, encL rInstr l⟩) : srcA ⟨5, 40, z, k⟩ σ (.sl o a.toNat r.length) = some (encL rInstr r) := srcA_slv (ti := ⟨5, 40, z, k⟩) (fun _ => rfl) hv h
theorem srcvn22 {l r : List gInstr} {a b : Int} (n : Nat) (hv : cutx l a b = some r) (hn : a.toNat = n) {σ : AHeap} {o : Nat} (z : List AV) (k : TK) (h : σ.objs o = some ⟨92, 5, encL rInstr l⟩) : srcA ⟨5, 40, z, k⟩ σ (.sl o n r.length) = some (encL rInstr r) := hn ▸ srcv22 hv z k h
theorem cuto_24 {l r : List Int} (h : cutx l 0 (ilen l) = some r) {σ : AHeap} {o : Nat} (hs : (σ.objs o).map AObj.sz = some 1) : cutA T σ 24 (.sl o 0 l.length) none none = some (.sl o 0 r.length) := cutA_sl (e := 3) rfl rfl rfl rfl h hs
theorem cutoh_24 {l r : List Int} {b : Int} (h : cutx l 0 b = some r) {σ : AHeap} {o : Nat} {kb : IntKind} (hs : (σ.objs o).map AObj.sz = some 1) : cutA T σ 24 (.sl o 0 l.length) none (some (.int kb b)) = some (.sl o 0 r.length) := cutA_sl (e := 3) rfl rfl rfl rfl h hs
theorem cutol_24 {l r : List Int} {a : Int} (h : cutx l a (ilen l) = some r) {σ : AHeap} {o : Nat} {ka : IntKind} (hs : (σ.objs o).map AObj.sz = some 1) : cutA T σ 24 (.sl o 0 l.length) (some (.int ka a)) none = some (.sl o a.toNat r.length) := cutA_sl (e := 3) rfl rfl rfl rfl h hs
theorem cutolh_24 {l r : List Int} {a : Int} {b : Int} (h : cutx l a b = some r) {σ : AHeap} {o : Nat} {ka : IntKind} {kb : IntKind} (hs : (σ.objs o).map AObj.sz = some 1) : cutA T σ 24 (.sl o 0 l.length) (some (.int ka a)) (some (.int kb b)) = some (.sl o a.toNat r.length) := cutA_sl (e := 3) rfl rfl rfl rfl h hs
theorem appv24 {l l' m r : List Int} {b : Int} (hc : cutx l 0 b = some l') (h : appx 8 l' m = some r) {σ : AHeap} {o : Nat} {x : AV} (id : Nat) (ho : σ.objs o = some ⟨3, 1, encL rI l⟩) (hx : srcA ⟨1, 8, [.int .i64 0], .int .i64⟩ σ x = some (encL rI m)) :
    appendA T 24 id (.sl o 0 l'.length) x σ = some (.sl id 0 r.length, (σ.kill o).put id ⟨3, 1, encL rI r⟩) := appA_slv (e := 3) (ti := ⟨1, 8, [.int .i64 0], .int .i64⟩) rfl rfl (by decide) hc h id ho hx
theorem srcv24 {l r : List Int} {a b : Int} (hv : cutx l a b = some r) {σ : AHeap} {o : Nat} (z : List AV) (k : TK) (h : σ.objs o = some ⟨3, 1, encL rI l⟩) : srcA ⟨1, 8, z, k⟩ σ (.sl o a.toNat r.length) = some (encL rI r) := srcA_slv (ti := ⟨1, 8, z, k⟩) (fun _ => rfl) hv h
theorem srcvn24 {l r : List Int} {a b : Int} (n : Nat) (hv : cutx l a b = some r) (hn : a.toNat = n) {σ : AHeap} {o : Nat} (z : List AV) (k : TK) (h : σ.objs o = some ⟨3, 1, encL rI l⟩) : srcA ⟨1, 8, z, k⟩ σ (.sl o n r.length) = some (encL rI r) := hn ▸ srcv24 hv z k h
theorem cuto_29 {l r : List gInstr} (h : cutx l 0 (ilen l) = some r) {σ : AHeap} {o : Nat} (hs : (σ.objs o).map AObj.sz = some 5) : cutA T σ 29 (.sl o 0 l.length) none none = some (.sl o 0 r.length) := cutA_sl (e := 47) rfl rfl rfl rfl h hs
theorem cutoh_29 {l r : List gInstr} {b : Int} (h : cutx l 0 b = some r) {σ : AHeap} {o : Nat} {kb : IntKind} (hs : (σ.objs o).map AObj.sz = some 5) : cutA T σ 29 (.sl o 0 l.length) none (some (.int kb b)) = some (.sl o 0 r.length) := cutA_sl (e := 47) rfl rfl rfl rfl h hs
theorem cutol_29 {l r : List gInstr} {a : Int} (h : cutx l a (ilen l) = some r) {σ : AHeap} {o : Nat} {ka : IntKind} (hs : (σ.objs o).map AObj.sz = some 5) : cutA T σ 29 (.sl o 0 l.length) (some (.int ka a)) none = some (.sl o a.toNat r.length) := cutA_sl (e := 47) rfl rfl rfl rfl h hs
theorem cutolh_29 {l r : List gInstr} {a : Int} {b : Int} (h : cutx l a b = some r) {σ : AHeap} {o : Nat} {ka : IntKind} {kb : IntKind} (hs : (σ.objs o).map AObj.sz = some 5) : cutA T σ 29 (.sl o 0 l.length) (some (.int ka a)) (some (.int kb b)) = some (.sl o a.toNat r.length) := cutA_sl (e := 47) rfl rfl rfl rfl h hs
theorem appv29 {l l' m r : List gInstr} {b : Int} (hc : cutx l 0 b = some l') (h : appx 40 l' m = some r) {σ : AHeap} {o : Nat} {x : AV} (id : Nat) (ho : σ.objs o = some ⟨47, 5, encL rInstr l⟩) (hx : srcA ⟨5, 40, [.int .i64 0, .int .i64 0, .int .i64 0, .int .i64 0, .int .i64 0], .struct [(0, 3), (1, 3), (2, 3), (3, 3), (4, 3)]⟩ σ x = some (encL rInstr m)) :
    appendA T 29 id (.sl o 0 l'.length) x σ = some (.sl id 0 r.length, (σ.kill o).put id ⟨47, 5, encL rInstr r⟩) := appA_slv (e := 47) (ti := ⟨5, 40, [.int .i64 0, .int .i64 0, .int .i64 0, .int .i64 0, .int .i64 0], .struct [(0, 3), (1, 3), (2, 3), (3, 3), (4, 3)]⟩) rfl rfl (by decide) hc h id ho hx
theorem srcv29 {l r : List gInstr} {a b : Int} (hv : cutx l a b = some r) {σ : AHeap} {o : Nat} (z : List AV) (k : TK) (h : σ.objs o = some ⟨47, 5, encL rInstr l⟩) : srcA ⟨5, 40, z, k⟩ σ (.sl o a.toNat r.length) = some (encL rInstr r) := srcA_slv (ti := ⟨5, 40, z, k⟩) (fun _ => rfl) hv h
theorem srcvn29 {l r : List gInstr} {a b : Int} (n : Nat) (hv : cutx l a b = some r) (hn : a.toNat = n) {σ : AHeap} {o : Nat} (z : List AV) (k : TK) (h : σ.objs o = some ⟨47, 5, encL rInstr l⟩) : srcA ⟨5, 40, z, k⟩ σ (.sl o n r.length) = some (encL rInstr r) := hn ▸ srcv29 hv z k h
theorem cuto_43 {l r : List Int} (h : cutx l 0 (ilen l) = some r) {σ : AHeap} {o : Nat} (hs : (σ.objs o).map AObj.sz = some 1) : cutA T σ 43 (.sl o 0 l.length) none none = some (.sl o 0 r.length) := cutA_sl (e := 5) rfl rfl rfl rfl h hs
theorem cutoh_43 {l r : List Int} {b : Int} (h : cutx l 0 b = some r) {σ : AHeap} {o : Nat} {kb : IntKind} (hs : (σ.objs o).map AObj.sz = some 1) : cutA T σ 43 (.sl o 0 l.length) none (some (.int kb b)) = some (.sl o 0 r.length) := cutA_sl (e := 5) rfl rfl rfl rfl h hs
theorem cutol_43 {l r : List Int} {a : Int} (h : cutx l a (ilen l) = some r) {σ : AHeap} {o : Nat} {ka : IntKind} (hs : (σ.objs o).map AObj.sz = some 1) : cutA T σ 43 (.sl o 0 l.length) (some (.int ka a)) none = some (.sl o a.toNat r.length) := cutA_sl (e := 5) rfl rfl rfl rfl h hs
theorem cutolh_43 {l r : List Int} {a : Int} {b : Int} (h : cutx l a b = some r) {σ : AHeap} {o : Nat} {ka : IntKind} {kb : IntKind} (hs : (σ.objs o).map AObj.sz = some 1) : cutA T σ 43 (.sl o 0 l.length) (some (.int ka a)) (some (.int kb b)) = some (.sl o a.toNat r.length) := cutA_sl (e := 5) rfl rfl rfl rfl h hs
theorem appv43 {l l' m r : List Int} {b : Int} (hc : cutx l 0 b = some l') (h : appx 1 l' m = some r) {σ : AHeap} {o : Nat} {x : AV} (id : Nat) (ho : σ.objs o = some ⟨5, 1, encL rI_u8 l⟩) (hx : srcA ⟨1, 1, [.int .u8 0], .int .u8⟩ σ x = some (encL rI_u8 m)) :
    appendA T 43 id (.sl o 0 l'.length) x σ = some (.sl id 0 r.length, (σ.kill o).put id ⟨5, 1, encL rI_u8 r⟩) := appA_slv (e := 5) (ti := ⟨1, 1, [.int .u8 0], .int .u8⟩) rfl rfl (by decide) hc h id ho hx
theorem srcv43 {l r : List Int} {a b : Int} (hv : cutx l a b = some r) {σ : AHeap} {o : Nat} (z : List AV) (k : TK) (h : σ.objs o = some ⟨5, 1, encL rI_u8 l⟩) : srcA ⟨1, 1, z, k⟩ σ (.sl o a.toNat r.length) = some (encL rI_u8 r) := srcA_slv (ti := ⟨1, 1, z, k⟩) (fun _ => rfl) hv h
theorem srcvn43 {l r : List Int} {a b : Int} (n : Nat) (hv : cutx l a b = some r) (hn : a.toNat = n) {σ : AHeap} {o : Nat} (z : List AV) (k : TK) (h : σ.objs o = some ⟨5, 1, encL rI_u8 l⟩) : srcA ⟨1, 1, z, k⟩ σ (.sl o n r.length) = some (encL rI_u8 r) := hn ▸ srcv43 hv z k h
theorem cuto_56 {l r : List gQuad} (h : cutx l 0 (ilen l) = some r) {σ : AHeap} {o : Nat} (hs : (σ.objs o).map AObj.sz = some 5) : cutA T σ 56 (.sl o 0 l.length) none none = some (.sl o 0 r.length) := cutA_sl (e := 37) rfl rfl rfl rfl h hs
theorem cutoh_56 {l r : List gQuad} {b : Int} (h : cutx l 0 b = some r) {σ : AHeap} {o : Nat} {kb : IntKind} (hs : (σ.objs o).map AObj.sz = some 5) : cutA T σ 56 (.sl o 0 l.length) none (some (.int kb b)) = some (.sl o 0 r.length) := cutA_sl (e := 37) rfl rfl rfl rfl h hs
theorem cutol_56 {l r : List gQuad} {a : Int} (h : cutx l a (ilen l) = some r) {σ : AHeap} {o : Nat} {ka : IntKind} (hs : (σ.objs o).map AObj.sz = some 5) : cutA T σ 56 (.sl o 0 l.length) (some (.int ka a)) none = some (.sl o a.toNat r.length) := cutA_sl (e := 37) rfl rfl rfl rfl h hs
theorem cutolh_56 {l r : List gQuad} {a : Int} {b : Int} (h : cutx l a b = some r) {σ : AHeap} {o : Nat} {ka : IntKind} {kb : IntKind} (hs : (σ.objs o).map AObj.sz = some 5) : cutA T σ 56 (.sl o 0 l.length) (some (.int ka a)) (some (.int kb b)) = some (.sl o a.toNat r.length) := cutA_sl (e := 37) rfl rfl rfl rfl h hs
theorem appv56 {l l' m r : List gQuad} {b : Int} (hc : cutx l 0 b = some l') (h : appx 40 l' m = some r) {σ : AHeap} {o : Nat} {x : AV} (id : Nat) (ho : σ.objs o = some ⟨37, 5, encL rQuad l⟩) (hx : srcA ⟨5, 40, [.int .i64 0, .int .i64 0, .int .i64 0, .int .i64 0, .int .i64 0], .struct [(0, 3), (1, 3), (2, 3), (3, 3), (4, 3)]⟩ σ x = some (encL rQuad m)) :
    appendA T 56 id (.sl o 0 l'.length) x σ = some (.sl id 0 r.length, (σ.kill o).put id ⟨37, 5, encL rQuad r⟩) := appA_slv (e := 37) (ti := ⟨5, 40, [.int .i64 0, .int .i64 0, .int .i64 0, .int .i64 0, .int .i64 0], .struct [(0, 3), (1, 3), (2, 3), (3, 3), (4, 3)]⟩) rfl rfl (by decide) hc h id ho hx
theorem srcv56 {l r : List gQuad} {a b : Int} (hv : cutx l a b = some r) {σ : AHeap} {o : Nat} (z : List AV) (k : TK) (h : σ.objs o = some ⟨37, 5, encL rQuad l⟩) : srcA ⟨5, 40, z, k⟩ σ (.sl o a.toNat r.length) = some (encL rQuad r) := srcA_slv (ti := ⟨5, 40, z, k⟩) (fun _ => rfl) hv h
theorem srcvn56 {l r : List gQuad} {a b : Int} (n : Nat) (hv : cutx l a b = some r) (hn : a.toNat = n) {σ : AHeap} {o : Nat} (z : List AV) (k : TK) (h : σ.objs o = some ⟨37, 5, encL rQuad l⟩) : srcA ⟨5, 40, z, k⟩ σ (.sl o n r.length) = some (encL rQuad r) := hn ▸ srcv56 hv z k h
theorem cuto_59 {l r : List gQuad} (h : cutx l 0 (ilen l) = some r) {σ : AHeap} {o : Nat} (hs : (σ.objs o).map AObj.sz = some 5) : cutA T σ 59 (.sl o 0 l.length) none none = some (.sl o 0 r.length) := cutA_sl (e := 40) rfl rfl rfl rfl h hs
theorem cutoh_59 {l r : List gQuad} {b : Int} (h : cutx l 0 b = some r) {σ : AHeap} {o : Nat} {kb : IntKind} (hs : (σ.objs o).map AObj.sz = some 5) : cutA T σ 59 (.sl o 0 l.length) none (some (.int kb b)) = some (.sl o 0 r.length) := cutA_sl (e := 40) rfl rfl rfl rfl h hs
theorem cutol_59 {l r : List gQuad} {a : Int} (h : cutx l a (ilen l) = some r) {σ : AHeap} {o : Nat} {ka : IntKind} (hs : (σ.objs o).map AObj.sz = some 5) : cutA T σ 59 (.sl o 0 l.length) (some (.int ka a)) none = some (.sl o a.toNat r.length) := cutA_sl (e := 40) rfl rfl rfl rfl h hs
theorem cutolh_59 {l r : List gQuad} {a : Int} {b : Int} (h : cutx l a b = some r) {σ : AHeap} {o : Nat} {ka : IntKind} {kb : IntKind} (hs : (σ.objs o).map AObj.sz = some 5) : cutA T σ 59 (.sl o 0 l.length) (some (.int ka a)) (some (.int kb b)) = some (.sl o a.toNat r.length) := cutA_sl (e := 40) rfl rfl rfl rfl h hs
theorem appv59 {l l' m r : List gQuad} {b : Int} (hc : cutx l 0 b = some l') (h : appx 40 l' m = some r) {σ : AHeap} {o : Nat} {x : AV} (id : Nat) (ho : σ.objs o = some ⟨40, 5, encL rQuad l⟩) (hx : srcA ⟨5, 40, [.int .i64 0, .int .i64 0, .int .i64 0, .int .i64 0, .int .i64 0], .struct [(0, 3), (1, 3), (2, 3), (3, 3), (4, 3)]⟩ σ x = some (encL rQuad m)) :
    appendA T 59 id (.sl o 0 l'.length) x σ = some (.sl id 0 r.length, (σ.kill o).put id ⟨40, 5, encL rQuad r⟩) := appA_slv (e := 40) (ti := ⟨5, 40, [.int .i64 0, .int .i64 0, .int .i64 0, .int .i64 0, .int .i64 0], .struct [(0, 3), (1, 3), (2, 3), (3, 3), (4, 3)]⟩) rfl rfl (by decide) hc h id ho hx
theorem srcv59 {l r : List gQuad} {a b : Int} (hv : cutx l a b = some r) {σ : AHeap} {o : Nat} (z : List AV) (k : TK) (h : σ.objs o = some ⟨40, 5, encL rQuad l⟩) : srcA ⟨5, 40, z, k⟩ σ (.sl o a.toNat r.length) = some (encL rQuad r) := srcA_slv (ti := ⟨5, 40, z, k⟩) (fun _ => rfl) hv h
theorem srcvn59 {l r : List gQuad} {a b : Int} (n : Nat) (hv : cutx l a b = some r) (hn : a.toNat = n) {σ : AHeap} {o : Nat} (z : List AV) (k : TK) (h : σ.objs o = some ⟨40, 5, encL rQuad l⟩) : srcA ⟨5, 40, z, k⟩ σ (.sl o n r.length) = some (encL rQuad r) := hn ▸ srcv59 hv z k h
theorem cuto_69 {l r : List (List gInstr)} (h : cutx l 0 (ilen l) = some r) {σ : AHeap} {o : Nat} (hs : (σ.objs o).map AObj.sz = some 1) : cutA T σ 69 (.sl o 0 l.length) none none = some (.sl o 0 r.length) := cutA_sl (e := 22) rfl rfl rfl rfl h hs
theorem cutoh_69 {l r : List (List gInstr)} {b : Int} (h : cutx l 0 b = some r) {σ : AHeap} {o : Nat} {kb : IntKind} (hs : (σ.objs o).map AObj.sz = some 1) : cutA T σ 69 (.sl o 0 l.length) none (some (.int kb b)) = some (.sl o 0 r.length) := cutA_sl (e := 22) rfl rfl rfl rfl h hs
theorem cutol_69 {l r : List (List gInstr)} {a : Int} (h : cutx l a (ilen l) = some r) {σ : AHeap} {o : Nat} {ka : IntKind} (hs : (σ.objs o).map AObj.sz = some 1) : cutA T σ 69 (.sl o 0 l.length) (some (.int ka a)) none = some (.sl o a.toNat r.length) := cutA_sl (e := 22) rfl rfl rfl rfl h hs
theorem cutolh_69 {l r : List (List gInstr)} {a : Int} {b : Int} (h : cutx l a b = some r) {σ : AHeap} {o : Nat} {ka : IntKind} {kb : IntKind} (hs : (σ.objs o).map AObj.sz = some 1) : cutA T σ 69 (.sl o 0 l.length) (some (.int ka a)) (some (.int kb b)) = some (.sl o a.toNat r.length) := cutA_sl (e := 22) rfl rfl rfl rfl h hs
theorem appv69 {l l' m r : List (List gInstr)} {b : Int} (hc : cutx l 0 b = some l') (h : appx 24 l' m = some r) {σ : AHeap} {o : Nat} {x : AV} (id : Nat) (ho : σ.objs o = some ⟨22, 1, encL rL_Instr l⟩) (hx : srcA ⟨1, 24, [.nilsl], .slice 92⟩ σ x = some (encL rL_Instr m)) :
    appendA T 69 id (.sl o 0 l'.length) x σ = some (.sl id 0 r.length, (σ.kill o).put id ⟨22, 1, encL rL_Instr r⟩) := appA_slv (e := 22) (ti := ⟨1, 24, [.nilsl], .slice 92⟩) rfl rfl (by decide) hc h id ho hx
theorem srcv69 {l r : List (List gInstr)} {a b : Int} (hv : cutx l a b = some r) {σ : AHeap} {o : Nat} (z : List AV) (k : TK) (h : σ.objs o = some ⟨22, 1, encL rL_Instr l⟩) : srcA ⟨1, 24, z, k⟩ σ (.sl o a.toNat r.length) = some (encL rL_Instr r) := srcA_slv (ti := ⟨1, 24, z, k⟩) (fun _ => rfl) hv h
theorem srcvn69 {l r : List (List gInstr)} {a b : Int} (n : Nat) (hv : cutx l a b = some r) (hn : a.toNat = n) {σ : AHeap} {o : Nat} (z : List AV) (k : TK) (h : σ.objs o = some ⟨22, 1, encL rL_Instr l⟩) : srcA ⟨1, 24, z, k⟩ σ (.sl o n r.length) = some (encL rL_Instr r) := hn ▸ srcv69 hv z k h
theorem cuto_71 {l r : List gMachine} (h : cutx l 0 (ilen l) = some r) {σ : AHeap} {o : Nat} (hs : (σ.objs o).map AObj.sz = some 3) : cutA T σ 71 (.sl o 0 l.length) none none = some (.sl o 0 r.length) := cutA_sl (e := 26) rfl rfl rfl rfl h hs
theorem cutoh_71 {l r : List gMachine} {b : Int} (h : cutx l 0 b = some r) {σ : AHeap} {o : Nat} {kb : IntKind} (hs : (σ.objs o).map AObj.sz = some 3) : cutA T σ 71 (.sl o 0 l.length) none (some (.int kb b)) = some (.sl o 0 r.length) := cutA_sl (e := 26) rfl rfl rfl rfl h hs
theorem cutol_71 {l r : List gMachine} {a : Int} (h : cutx l a (ilen l) = some r) {σ : AHeap} {o : Nat} {ka : IntKind} (hs : (σ.objs o).map AObj.sz = some 3) : cutA T σ 71 (.sl o 0 l.length) (some (.int ka a)) none = some (.sl o a.toNat r.length) := cutA_sl (e := 26) rfl rfl rfl rfl h hs
theorem cutolh_71 {l r : List gMachine} {a : Int} {b : Int} (h : cutx l a b = some r) {σ : AHeap} {o : Nat} {ka : IntKind} {kb : IntKind} (hs : (σ.objs o).map AObj.sz = some 3) : cutA T σ 71 (.sl o 0 l.length) (some (.int ka a)) (some (.int kb b)) = some (.sl o a.toNat r.length) := cutA_sl (e := 26) rfl rfl rfl rfl h hs
theorem appv71 {l l' m r : List gMachine} {b : Int} (hc : cutx l 0 b = some l') (h : appx 56 l' m = some r) {σ : AHeap} {o : Nat} {x : AV} (id : Nat) (ho : σ.objs o = some ⟨26, 3, encL rMachine l⟩) (hx : srcA ⟨3, 56, [.nilsl, .int .i64 0, .nilsl], .struct [(0, 24), (1, 3), (2, 24)]⟩ σ x = some (encL rMachine m)) :
    appendA T 71 id (.sl o 0 l'.length) x σ = some (.sl id 0 r.length, (σ.kill o).put id ⟨26, 3, encL rMachine r⟩) := appA_slv (e := 26) (ti := ⟨3, 56, [.nilsl, .int .i64 0, .nilsl], .struct [(0, 24), (1, 3), (2, 24)]⟩) rfl rfl (by decide) hc h id ho hx
theorem srcv71 {l r : List gMachine} {a b : Int} (hv : cutx l a b = some r) {σ : AHeap} {o : Nat} (z : List AV) (k : TK) (h : σ.objs o = some ⟨26, 3, encL rMachine l⟩) : srcA ⟨3, 56, z, k⟩ σ (.sl o a.toNat r.length) = some (encL rMachine r) := srcA_slv (ti := ⟨3, 56, z, k⟩) (fun _ => rfl) hv h
theorem srcvn71 {l r : List gMachine} {a b : Int} (n : Nat) (hv : cutx l a b = some r) (hn : a.toNat = n) {σ : AHeap} {o : Nat} (z : List AV) (k : TK) (h : σ.objs o = some ⟨26, 3, encL rMachine l⟩) : srcA ⟨3, 56, z, k⟩ σ (.sl o n r.length) = some (encL rMachine r) := hn ▸ srcv71 hv z k h
theorem cuto_72 {l r : List gBox} (h : cutx l 0 (ilen l) = some r) {σ : AHeap} {o : Nat} (hs : (σ.objs o).map AObj.sz = some 2) : cutA T σ 72 (.sl o 0 l.length) none none = some (.sl o 0 r.length) := cutA_sl (e := 153) rfl rfl rfl rfl h hs
theorem cutoh_72 {l r : List gBox} {b : Int} (h : cutx l 0 b = some r) {σ : AHeap} {o : Nat} {kb : IntKind} (hs : (σ.objs o).map AObj.sz = some 2) : cutA T σ 72 (.sl o 0 l.length) none (some (.int kb b)) = some (.sl o 0 r.length) := cutA_sl (e := 153) rfl rfl rfl rfl h hs
theorem cutol_72 {l r : List gBox} {a : Int} (h : cutx l a (ilen l) = some r) {σ : AHeap} {o : Nat} {ka : IntKind} (hs : (σ.objs o).map AObj.sz = some 2) : cutA T σ 72 (.sl o 0 l.length) (some (.int ka a)) none = some (.sl o a.toNat r.length) := cutA_sl (e := 153) rfl rfl rfl rfl h hs
theorem cutolh_72 {l r : List gBox} {a : Int} {b : Int} (h : cutx l a b = some r) {σ : AHeap} {o : Nat} {ka : IntKind} {kb : IntKind} (hs : (σ.objs o).map AObj.sz = some 2) : cutA T σ 72 (.sl o 0 l.length) (some (.int ka a)) (some (.int kb b)) = some (.sl o a.toNat r.length) := cutA_sl (e := 153) rfl rfl rfl rfl h hs
theorem appv72 {l l' m r : List gBox} {b : Int} (hc : cutx l 0 b = some l') (h : appx 32 l' m = some r) {σ : AHeap} {o : Nat} {x : AV} (id : Nat) (ho : σ.objs o = some ⟨153, 2, encL rBox l⟩) (hx : srcA ⟨2, 32, [.int .i64 0, .nilsl], .struct [(0, 3), (1, 24)]⟩ σ x = some (encL rBox m)) :
    appendA T 72 id (.sl o 0 l'.length) x σ = some (.sl id 0 r.length, (σ.kill o).put id ⟨153, 2, encL rBox r⟩) := appA_slv (e := 153) (ti := ⟨2, 32, [.int .i64 0, .nilsl], .struct [(0, 3), (1, 24)]⟩) rfl rfl (by decide) hc h id ho hx
theorem srcv72 {l r : List gBox} {a b : Int} (hv : cutx l a b = some r) {σ : AHeap} {o : Nat} (z : List AV) (k : TK) (h : σ.objs o = some ⟨153, 2, encL rBox l⟩) : srcA ⟨2, 32, z, k⟩ σ (.sl o a.toNat r.length) = some (encL rBox r) := srcA_slv (ti := ⟨2, 32, z, k⟩) (fun _ => rfl) hv h
theorem srcvn72 {l r : List gBox} {a b : Int} (n : Nat) (hv : cutx l a b = some r) (hn : a.toNat = n) {σ : AHeap} {o : Nat} (z : List AV) (k : TK) (h : σ.objs o = some ⟨153, 2, encL rBox l⟩) : srcA ⟨2, 32, z, k⟩ σ (.sl o n r.length) = some (encL rBox r) := hn ▸ srcv72 hv z k h
theorem cuto_78 {l r : List (List gInstr)} (h : cutx l 0 (ilen l) = some r) {σ : AHeap} {o : Nat} (hs : (σ.objs o).map AObj.sz = some 1) : cutA T σ 78 (.sl o 0 l.length) none none = some (.sl o 0 r.length) := cutA_sl (e := 29) rfl rfl rfl rfl h hs
theorem cutoh_78 {l r : List (List gInstr)} {b : Int} (h : cutx l 0 b = some r) {σ : AHeap} {o : Nat} {kb : IntKind} (hs : (σ.objs o).map AObj.sz = some 1) : cutA T σ 78 (.sl o 0 l.length) none (some (.int kb b)) = some (.sl o 0 r.length) := cutA_sl (e := 29) rfl rfl rfl rfl h hs
theorem cutol_78 {l r : List (List gInstr)} {a : Int} (h : cutx l a (ilen l) = some r) {σ : AHeap} {o : Nat} {ka : IntKind} (hs : (σ.objs o).map AObj.sz = some 1) : cutA T σ 78 (.sl o 0 l.length) (some (.int ka a)) none = some (.sl o a.toNat r.length) := cutA_sl (e := 29) rfl rfl rfl rfl h hs
theorem cutolh_78 {l r : List (List gInstr)} {a : Int} {b : Int} (h : cutx l a b = some r) {σ : AHeap} {o : Nat} {ka : IntKind} {kb : IntKind} (hs : (σ.objs o).map AObj.sz = some 1) : cutA T σ 78 (.sl o 0 l.length) (some (.int ka a)) (some (.int kb b)) = some (.sl o a.toNat r.length) := cutA_sl (e := 29) rfl rfl rfl rfl h hs
theorem appv78 {l l' m r : List (List gInstr)} {b : Int} (hc : cutx l 0 b = some l') (h : appx 24 l' m = some r) {σ : AHeap} {o : Nat} {x : AV} (id : Nat) (ho : σ.objs o = some ⟨29, 1, encL rL_Instr l⟩) (hx : srcA ⟨1, 24, [.nilsl], .slice 47⟩ σ x = some (encL rL_Instr m)) :
    appendA T 78 id (.sl o 0 l'.length) x σ = some (.sl id 0 r.length, (σ.kill o).put id ⟨29, 1, encL rL_Instr r⟩) := appA_slv (e := 29) (ti := ⟨1, 24, [.nilsl], .slice 47⟩) rfl rfl (by decide) hc h id ho hx
theorem srcv78 {l r : List (List gInstr)} {a b : Int} (hv : cutx l a b = some r) {σ : AHeap} {o : Nat} (z : List AV) (k : TK) (h : σ.objs o = some ⟨29, 1, encL rL_Instr l⟩) : srcA ⟨1, 24, z, k⟩ σ (.sl o a.toNat r.length) = some (encL rL_Instr r) := srcA_slv (ti := ⟨1, 24, z, k⟩) (fun _ => rfl) hv h
theorem srcvn78 {l r : List (List gInstr)} {a b : Int} (n : Nat) (hv : cutx l a b = some r) (hn : a.toNat = n) {σ : AHeap} {o : Nat} (z : List AV) (k : TK) (h : σ.objs o = some ⟨29, 1, encL rL_Instr l⟩) : srcA ⟨1, 24, z, k⟩ σ (.sl o n r.length) = some (encL rL_Instr r) := hn ▸ srcv78 hv z k h
theorem nf_rInstr (n : Nat) (x : gInstr) : ((rInstr x).all (AV.nf (n + 1))) = true := by simp [AV.nf, AV.simp1]
theorem nf_rI (n : Nat) (x : Int) : ((rI x).all (AV.nf (n + 1))) = true := by simp [AV.nf, AV.simp1]
theorem nf_rI_u8 (n : Nat) (x : Int) : ((rI_u8 x).all (AV.nf (n + 1))) = true := by simp [AV.nf, AV.simp1]
theorem nf_rQuad (n : Nat) (x : gQuad) : ((rQuad x).all (AV.nf (n + 1))) = true := by simp [AV.nf, AV.simp1]
end Go.Proofs.YtoklfbdcghgmlaaDoor
