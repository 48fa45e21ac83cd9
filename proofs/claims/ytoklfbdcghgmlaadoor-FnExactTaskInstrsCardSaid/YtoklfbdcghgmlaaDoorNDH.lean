/- Words of the proof: DH. No conditions. -/
import Derived.Test.YtoklfbdcghgmlaaDoorNDR0
import Derived.Test.YtoklfbdcghgmlaaDoorProg
import Derived.KernelRfl
set_option linter.unusedSimpArgs false
set_option linter.unusedVariables false
set_option maxRecDepth 20000
namespace Go.Proofs.YtoklfbdcghgmlaaDoor
open Go Go.Abs Go.RowKit

def T : Types := fun t =>
  match t with
  | 3 => some ⟨1, 8, [.int .i64 0], .int .i64⟩ -- int
  | 4 => some ⟨1, 1, [.bool false], .bool⟩ -- bool
  | 5 => some ⟨1, 1, [.int .u8 0], .int .u8⟩ -- uint8
  | 21 => some ⟨1, 4, [.int .i32 0], .int .i32⟩ -- int32
  | 24 => some ⟨1, 24, [.nilsl], .slice 3⟩ -- []int
  | 29 => some ⟨1, 24, [.nilsl], .slice 47⟩ -- []impl.Instr
  | 37 => some ⟨5, 40, [.int .i64 0, .int .i64 0, .int .i64 0, .int .i64 0, .int .i64 0], .struct [(0, 3), (1, 3), (2, 3), (3, 3), (4, 3)]⟩ -- laws.Quad
  | 40 => some ⟨5, 40, [.int .i64 0, .int .i64 0, .int .i64 0, .int .i64 0, .int .i64 0], .struct [(0, 3), (1, 3), (2, 3), (3, 3), (4, 3)]⟩ -- impl.Quad
  | 43 => some ⟨1, 24, [.nilsl], .slice 5⟩ -- []uint8
  | 47 => some ⟨5, 40, [.int .i64 0, .int .i64 0, .int .i64 0, .int .i64 0, .int .i64 0], .struct [(0, 3), (1, 3), (2, 3), (3, 3), (4, 3)]⟩ -- impl.Instr
  | 56 => some ⟨1, 24, [.nilsl], .slice 37⟩ -- []laws.Quad
  | 59 => some ⟨1, 24, [.nilsl], .slice 40⟩ -- []impl.Quad
  | 98 => some ⟨1, 8, [.nilp], .ptr⟩ -- *spec.l6Rd
  | 127 => some ⟨1, 8, [.nilp], .ptr⟩ -- *impl.emitter
  | 129 => some ⟨2, 32, [.int .i64 0, .nilsl], .struct [(0, 3), (1, 29)]⟩ -- impl.emitter
  | 134 => some ⟨12, 96, [.int .i64 0, .int .i64 0, .int .i64 0, .int .i64 0, .int .i64 0, .int .i64 0, .int .i64 0, .int .i64 0, .int .i64 0, .int .i64 0, .int .i64 0, .int .i64 0], .array 12 3⟩ -- [12]int
  | 138 => some ⟨2, 32, [.nilsl, .int .i64 0], .struct [(0, 43), (1, 3)]⟩ -- spec.l6Rd
  | 157 => some ⟨8, 64, [.int .i64 0, .int .i64 0, .int .i64 0, .int .i64 0, .int .i64 0, .int .i64 0, .int .i64 0, .int .i64 0], .array 8 3⟩ -- [8]int
  | 158 => some ⟨1, 4, [.int .u32 0], .int .u32⟩ -- uint32
  | _ => none

@[simp] theorem T_3 : T 3 = some ⟨1, 8, [.int .i64 0], .int .i64⟩ := rfl
@[simp] theorem T_4 : T 4 = some ⟨1, 1, [.bool false], .bool⟩ := rfl
@[simp] theorem T_5 : T 5 = some ⟨1, 1, [.int .u8 0], .int .u8⟩ := rfl
@[simp] theorem T_21 : T 21 = some ⟨1, 4, [.int .i32 0], .int .i32⟩ := rfl
@[simp] theorem T_24 : T 24 = some ⟨1, 24, [.nilsl], .slice 3⟩ := rfl
@[simp] theorem T_29 : T 29 = some ⟨1, 24, [.nilsl], .slice 47⟩ := rfl
@[simp] theorem T_37 : T 37 = some ⟨5, 40, [.int .i64 0, .int .i64 0, .int .i64 0, .int .i64 0, .int .i64 0], .struct [(0, 3), (1, 3), (2, 3), (3, 3), (4, 3)]⟩ := rfl
@[simp] theorem T_40 : T 40 = some ⟨5, 40, [.int .i64 0, .int .i64 0, .int .i64 0, .int .i64 0, .int .i64 0], .struct [(0, 3), (1, 3), (2, 3), (3, 3), (4, 3)]⟩ := rfl
@[simp] theorem T_43 : T 43 = some ⟨1, 24, [.nilsl], .slice 5⟩ := rfl
@[simp] theorem T_47 : T 47 = some ⟨5, 40, [.int .i64 0, .int .i64 0, .int .i64 0, .int .i64 0, .int .i64 0], .struct [(0, 3), (1, 3), (2, 3), (3, 3), (4, 3)]⟩ := rfl
@[simp] theorem T_56 : T 56 = some ⟨1, 24, [.nilsl], .slice 37⟩ := rfl
@[simp] theorem T_59 : T 59 = some ⟨1, 24, [.nilsl], .slice 40⟩ := rfl
@[simp] theorem T_98 : T 98 = some ⟨1, 8, [.nilp], .ptr⟩ := rfl
@[simp] theorem T_127 : T 127 = some ⟨1, 8, [.nilp], .ptr⟩ := rfl
@[simp] theorem T_129 : T 129 = some ⟨2, 32, [.int .i64 0, .nilsl], .struct [(0, 3), (1, 29)]⟩ := rfl
@[simp] theorem T_134 : T 134 = some ⟨12, 96, [.int .i64 0, .int .i64 0, .int .i64 0, .int .i64 0, .int .i64 0, .int .i64 0, .int .i64 0, .int .i64 0, .int .i64 0, .int .i64 0, .int .i64 0, .int .i64 0], .array 12 3⟩ := rfl
@[simp] theorem T_138 : T 138 = some ⟨2, 32, [.nilsl, .int .i64 0], .struct [(0, 43), (1, 3)]⟩ := rfl
@[simp] theorem T_157 : T 157 = some ⟨8, 64, [.int .i64 0, .int .i64 0, .int .i64 0, .int .i64 0, .int .i64 0, .int .i64 0, .int .i64 0, .int .i64 0], .array 8 3⟩ := rfl
@[simp] theorem T_158 : T 158 = some ⟨1, 4, [.int .u32 0], .int .u32⟩ := rfl
theorem tok : TOk Tryd.prog T := by
  intro t i h
  unfold T at h
  split at h <;> first | (cases h; done) | skip
  all_goals (cases h; refine ⟨by kernel_rfl, by kernel_rfl, by kernel_rfl, by kernel_rfl, by kernel_rfl⟩)
theorem tokM : Tryd.prog.follows .mixedOrders = true := by kernel_rfl
def G : Globs := fun g => match g with
  | 0 => some (gI [7, 8, 6, 8, 11, 9, 10, 1, 2, 3, 4, 5])
  | 3 => some (gI [8, 9, 18, 19, 20, 21, 22, 23])
  | _ => none
@[simp] theorem G_0 : G 0 = some (gI [7, 8, 6, 8, 11, 9, 10, 1, 2, 3, 4, 5]) := rfl
@[simp] theorem G_3 : G 3 = some (gI [8, 9, 18, 19, 20, 21, 22, 23]) := rfl
@[simp] theorem bin_ii (op : BinOp) (t : TypeId) (k : IntKind) (a b : Int) : bin T op t (.int k a) (.int k b) = ibin op k a b := by simp [bin]
@[simp] theorem bin_shl (t : TypeId) (k k' : IntKind) (a b : Int) : bin T .shl t (.int k a) (.int k' b) = ibin .shl k a b := by simp [bin]
@[simp] theorem bin_shr (t : TypeId) (k k' : IntKind) (a b : Int) : bin T .shr t (.int k a) (.int k' b) = ibin .shr k a b := by simp [bin]
@[simp ↓] theorem sueq_37 (xOp xDst xA xB xN yOp yDst yA yB yN : Int) : bin T .eql 37 (.agg [.int .i64 xOp, .int .i64 xDst, .int .i64 xA, .int .i64 xB, .int .i64 xN]) (.agg [.int .i64 yOp, .int .i64 yDst, .int .i64 yA, .int .i64 yB, .int .i64 yN]) = some (.bool (eqD (⟨xOp, xDst, xA, xB, xN⟩ : gQuad) (⟨yOp, yDst, yA, yB, yN⟩ : gQuad))) := by
  have h : eqAgg T 37 [.int .i64 xOp, .int .i64 xDst, .int .i64 xA, .int .i64 xB, .int .i64 xN] [.int .i64 yOp, .int .i64 yDst, .int .i64 yA, .int .i64 yB, .int .i64 yN] = some (decide ((⟨xOp, xDst, xA, xB, xN⟩ : gQuad) = (⟨yOp, yDst, yA, yB, yN⟩ : gQuad))) := by
    simp [eqAgg, flatT, eqCells, gQuad.mk.injEq, Bool.decide_and, decide_eq_true_eq]
    try rfl
  simp only [bin, h, Option.map_some, bnot, eqD]
@[simp ↓] theorem sune_37 (xOp xDst xA xB xN yOp yDst yA yB yN : Int) : bin T .neq 37 (.agg [.int .i64 xOp, .int .i64 xDst, .int .i64 xA, .int .i64 xB, .int .i64 xN]) (.agg [.int .i64 yOp, .int .i64 yDst, .int .i64 yA, .int .i64 yB, .int .i64 yN]) = some (.bool (bnot (eqD (⟨xOp, xDst, xA, xB, xN⟩ : gQuad) (⟨yOp, yDst, yA, yB, yN⟩ : gQuad)))) := by
  have h : eqAgg T 37 [.int .i64 xOp, .int .i64 xDst, .int .i64 xA, .int .i64 xB, .int .i64 xN] [.int .i64 yOp, .int .i64 yDst, .int .i64 yA, .int .i64 yB, .int .i64 yN] = some (decide ((⟨xOp, xDst, xA, xB, xN⟩ : gQuad) = (⟨yOp, yDst, yA, yB, yN⟩ : gQuad))) := by
    simp [eqAgg, flatT, eqCells, gQuad.mk.injEq, Bool.decide_and, decide_eq_true_eq]
    try rfl
  simp only [bin, h, Option.map_some, bnot, eqD]
@[simp ↓] theorem sueq_40 (xOp xDst xA xB xN yOp yDst yA yB yN : Int) : bin T .eql 40 (.agg [.int .i64 xOp, .int .i64 xDst, .int .i64 xA, .int .i64 xB, .int .i64 xN]) (.agg [.int .i64 yOp, .int .i64 yDst, .int .i64 yA, .int .i64 yB, .int .i64 yN]) = some (.bool (eqD (⟨xOp, xDst, xA, xB, xN⟩ : gQuad) (⟨yOp, yDst, yA, yB, yN⟩ : gQuad))) := by
  have h : eqAgg T 40 [.int .i64 xOp, .int .i64 xDst, .int .i64 xA, .int .i64 xB, .int .i64 xN] [.int .i64 yOp, .int .i64 yDst, .int .i64 yA, .int .i64 yB, .int .i64 yN] = some (decide ((⟨xOp, xDst, xA, xB, xN⟩ : gQuad) = (⟨yOp, yDst, yA, yB, yN⟩ : gQuad))) := by
    simp [eqAgg, flatT, eqCells, gQuad.mk.injEq, Bool.decide_and, decide_eq_true_eq]
    try rfl
  simp only [bin, h, Option.map_some, bnot, eqD]
@[simp ↓] theorem sune_40 (xOp xDst xA xB xN yOp yDst yA yB yN : Int) : bin T .neq 40 (.agg [.int .i64 xOp, .int .i64 xDst, .int .i64 xA, .int .i64 xB, .int .i64 xN]) (.agg [.int .i64 yOp, .int .i64 yDst, .int .i64 yA, .int .i64 yB, .int .i64 yN]) = some (.bool (bnot (eqD (⟨xOp, xDst, xA, xB, xN⟩ : gQuad) (⟨yOp, yDst, yA, yB, yN⟩ : gQuad)))) := by
  have h : eqAgg T 40 [.int .i64 xOp, .int .i64 xDst, .int .i64 xA, .int .i64 xB, .int .i64 xN] [.int .i64 yOp, .int .i64 yDst, .int .i64 yA, .int .i64 yB, .int .i64 yN] = some (decide ((⟨xOp, xDst, xA, xB, xN⟩ : gQuad) = (⟨yOp, yDst, yA, yB, yN⟩ : gQuad))) := by
    simp [eqAgg, flatT, eqCells, gQuad.mk.injEq, Bool.decide_and, decide_eq_true_eq]
    try rfl
  simp only [bin, h, Option.map_some, bnot, eqD]
@[simp ↓] theorem sueq_47 (xOp xRd xRs xRt xImm yOp yRd yRs yRt yImm : Int) : bin T .eql 47 (.agg [.int .i64 xOp, .int .i64 xRd, .int .i64 xRs, .int .i64 xRt, .int .i64 xImm]) (.agg [.int .i64 yOp, .int .i64 yRd, .int .i64 yRs, .int .i64 yRt, .int .i64 yImm]) = some (.bool (eqD (⟨xOp, xRd, xRs, xRt, xImm⟩ : gInstr) (⟨yOp, yRd, yRs, yRt, yImm⟩ : gInstr))) := by
  have h : eqAgg T 47 [.int .i64 xOp, .int .i64 xRd, .int .i64 xRs, .int .i64 xRt, .int .i64 xImm] [.int .i64 yOp, .int .i64 yRd, .int .i64 yRs, .int .i64 yRt, .int .i64 yImm] = some (decide ((⟨xOp, xRd, xRs, xRt, xImm⟩ : gInstr) = (⟨yOp, yRd, yRs, yRt, yImm⟩ : gInstr))) := by
    simp [eqAgg, flatT, eqCells, gInstr.mk.injEq, Bool.decide_and, decide_eq_true_eq]
    try rfl
  simp only [bin, h, Option.map_some, bnot, eqD]
@[simp ↓] theorem sune_47 (xOp xRd xRs xRt xImm yOp yRd yRs yRt yImm : Int) : bin T .neq 47 (.agg [.int .i64 xOp, .int .i64 xRd, .int .i64 xRs, .int .i64 xRt, .int .i64 xImm]) (.agg [.int .i64 yOp, .int .i64 yRd, .int .i64 yRs, .int .i64 yRt, .int .i64 yImm]) = some (.bool (bnot (eqD (⟨xOp, xRd, xRs, xRt, xImm⟩ : gInstr) (⟨yOp, yRd, yRs, yRt, yImm⟩ : gInstr)))) := by
  have h : eqAgg T 47 [.int .i64 xOp, .int .i64 xRd, .int .i64 xRs, .int .i64 xRt, .int .i64 xImm] [.int .i64 yOp, .int .i64 yRd, .int .i64 yRs, .int .i64 yRt, .int .i64 yImm] = some (decide ((⟨xOp, xRd, xRs, xRt, xImm⟩ : gInstr) = (⟨yOp, yRd, yRs, yRt, yImm⟩ : gInstr))) := by
    simp [eqAgg, flatT, eqCells, gInstr.mk.injEq, Bool.decide_and, decide_eq_true_eq]
    try rfl
  simp only [bin, h, Option.map_some, bnot, eqD]
@[simp] theorem bineq_4 (a b : Bool) : bin T .eql 4 (.bool a) (.bool b) = some (.bool (beqb a b)) := rfl
@[simp] theorem binne_4 (a b : Bool) : bin T .neq 4 (.bool a) (.bool b) = some (.bool (bneb a b)) := rfl
@[simp] theorem conv_3_5 (k : IntKind) (n : Int) : convA T 3 5 (.int k n) = some (.int .u8 (iconv .u8 n)) := rfl
@[simp] theorem conv_3_21 (k : IntKind) (n : Int) : convA T 3 21 (.int k n) = some (.int .i32 (iconv .i32 n)) := rfl
@[simp] theorem conv_3_158 (k : IntKind) (n : Int) : convA T 3 158 (.int k n) = some (.int .u32 (iconv .u32 n)) := rfl
@[simp] theorem conv_5_3 (k : IntKind) (n : Int) : convA T 5 3 (.int k n) = some (.int .i64 (iconv .i64 n)) := rfl
@[simp] theorem conv_5_21 (k : IntKind) (n : Int) : convA T 5 21 (.int k n) = some (.int .i32 (iconv .i32 n)) := rfl
@[simp] theorem conv_5_158 (k : IntKind) (n : Int) : convA T 5 158 (.int k n) = some (.int .u32 (iconv .u32 n)) := rfl
@[simp] theorem conv_21_3 (k : IntKind) (n : Int) : convA T 21 3 (.int k n) = some (.int .i64 (iconv .i64 n)) := rfl
@[simp] theorem conv_21_5 (k : IntKind) (n : Int) : convA T 21 5 (.int k n) = some (.int .u8 (iconv .u8 n)) := rfl
@[simp] theorem conv_21_158 (k : IntKind) (n : Int) : convA T 21 158 (.int k n) = some (.int .u32 (iconv .u32 n)) := rfl
@[simp] theorem conv_158_3 (k : IntKind) (n : Int) : convA T 158 3 (.int k n) = some (.int .i64 (iconv .i64 n)) := rfl
@[simp] theorem conv_158_5 (k : IntKind) (n : Int) : convA T 158 5 (.int k n) = some (.int .u8 (iconv .u8 n)) := rfl
@[simp] theorem conv_158_21 (k : IntKind) (n : Int) : convA T 158 21 (.int k n) = some (.int .i32 (iconv .i32 n)) := rfl
@[simp] theorem len24 (l : List Int) : lenA T 24 (.fsl (encL rI l)) = some (.int .i64 (ilen l)) := lenA_fsl (e := 3) rfl rI l
@[simp] theorem leno24 (o r : Nat) (l : List Int) : lenA T 24 (.sl o r l.length) = some (.int .i64 (ilen l)) := lenA_sl (e := 3) rfl o r l
@[simp] theorem lenn24 : lenA T 24 .nilsl = some (.int .i64 0) := rfl
@[simp] theorem lene24 : lenA T 24 .esl = some (.int .i64 0) := rfl
@[simp] theorem src24 (σ : AHeap) (l : List Int) (z : List AV) (k : TK) : srcA ⟨1, 8, z, k⟩ σ (.fsl (encL rI l)) = some (encL rI l) := srcA_fsl (f := rI) (fun _ => rfl) σ l
@[simp] theorem srco24 {σ : AHeap} {o : Nat} {l : List Int} (z : List AV) (k : TK) (h : σ.objs o = some ⟨3, 1, encL rI l⟩) : srcA ⟨1, 8, z, k⟩ σ (.sl o 0 l.length) = some (encL rI l) := srcA_sl (ti := ⟨1, 8, z, k⟩) (fun _ => rfl) h
theorem ix24 {l : List Int} {i : Int} {v : Int} (h : idx l i = some v) (σ : AHeap) (k : IntKind) : indexAddrA T σ 24 (.fsl (encL rI l)) (.int k i) = some (.fptr (rI v) 0) := ixA_fsl (e := 3) rfl rfl (fun _ => rfl) h σ k
theorem app24 {l m r : List Int} (h : appx 8 l m = some r) {σ : AHeap} {o : Nat} {x : AV} (id : Nat) (ho : σ.objs o = some ⟨3, 1, encL rI l⟩) (hx : srcA ⟨1, 8, [.int .i64 0], .int .i64⟩ σ x = some (encL rI m)) :
    appendA T 24 id (.sl o 0 l.length) x σ = some (.sl id 0 r.length, (σ.kill o).put id ⟨3, 1, encL rI r⟩) := appA_sl (e := 3) rfl rfl (by decide) h id ho hx
theorem appn24 {m r : List Int} (h : appx 8 [] m = some r) {σ : AHeap} {x : AV} (id : Nat) (hx : srcA ⟨1, 8, [.int .i64 0], .int .i64⟩ σ x = some (encL rI m)) :
    appendA T 24 id .nilsl x σ = some (.sl id 0 r.length, σ.put id ⟨3, 1, encL rI r⟩) := appA_nil (e := 3) rfl rfl (by decide) h id hx
@[simp] theorem len29 (l : List gInstr) : lenA T 29 (.fsl (encL rInstr l)) = some (.int .i64 (ilen l)) := lenA_fsl (e := 47) rfl rInstr l
@[simp] theorem leno29 (o r : Nat) (l : List gInstr) : lenA T 29 (.sl o r l.length) = some (.int .i64 (ilen l)) := lenA_sl (e := 47) rfl o r l
@[simp] theorem lenn29 : lenA T 29 .nilsl = some (.int .i64 0) := rfl
@[simp] theorem lene29 : lenA T 29 .esl = some (.int .i64 0) := rfl
@[simp] theorem src29 (σ : AHeap) (l : List gInstr) (z : List AV) (k : TK) : srcA ⟨5, 40, z, k⟩ σ (.fsl (encL rInstr l)) = some (encL rInstr l) := srcA_fsl (f := rInstr) (fun _ => rfl) σ l
@[simp] theorem srco29 {σ : AHeap} {o : Nat} {l : List gInstr} (z : List AV) (k : TK) (h : σ.objs o = some ⟨47, 5, encL rInstr l⟩) : srcA ⟨5, 40, z, k⟩ σ (.sl o 0 l.length) = some (encL rInstr l) := srcA_sl (ti := ⟨5, 40, z, k⟩) (fun _ => rfl) h
theorem ix29 {l : List gInstr} {i : Int} {v : gInstr} (h : idx l i = some v) (σ : AHeap) (k : IntKind) : indexAddrA T σ 29 (.fsl (encL rInstr l)) (.int k i) = some (.fptr (rInstr v) 0) := ixA_fsl (e := 47) rfl rfl (fun _ => rfl) h σ k
theorem ixo29 {l : List gInstr} {i : Int} {v : gInstr} (h : idx l i = some v) {σ : AHeap} {o : Nat} (hs : (σ.objs o).map AObj.sz = some 5) (k : IntKind) : indexAddrA T σ 29 (.sl o 0 l.length) (.int k i) = some (.ptr o i.toNat 0) := ixA_sl (e := 47) rfl rfl h hs k
theorem app29 {l m r : List gInstr} (h : appx 40 l m = some r) {σ : AHeap} {o : Nat} {x : AV} (id : Nat) (ho : σ.objs o = some ⟨47, 5, encL rInstr l⟩) (hx : srcA ⟨5, 40, [.int .i64 0, .int .i64 0, .int .i64 0, .int .i64 0, .int .i64 0], .struct [(0, 3), (1, 3), (2, 3), (3, 3), (4, 3)]⟩ σ x = some (encL rInstr m)) :
    appendA T 29 id (.sl o 0 l.length) x σ = some (.sl id 0 r.length, (σ.kill o).put id ⟨47, 5, encL rInstr r⟩) := appA_sl (e := 47) rfl rfl (by decide) h id ho hx
@[simp] theorem len43 (l : List Int) : lenA T 43 (.fsl (encL rI_u8 l)) = some (.int .i64 (ilen l)) := lenA_fsl (e := 5) rfl rI_u8 l
@[simp] theorem leno43 (o r : Nat) (l : List Int) : lenA T 43 (.sl o r l.length) = some (.int .i64 (ilen l)) := lenA_sl (e := 5) rfl o r l
@[simp] theorem lenn43 : lenA T 43 .nilsl = some (.int .i64 0) := rfl
@[simp] theorem lene43 : lenA T 43 .esl = some (.int .i64 0) := rfl
@[simp] theorem src43 (σ : AHeap) (l : List Int) (z : List AV) (k : TK) : srcA ⟨1, 1, z, k⟩ σ (.fsl (encL rI_u8 l)) = some (encL rI_u8 l) := srcA_fsl (f := rI_u8) (fun _ => rfl) σ l
@[simp] theorem srco43 {σ : AHeap} {o : Nat} {l : List Int} (z : List AV) (k : TK) (h : σ.objs o = some ⟨5, 1, encL rI_u8 l⟩) : srcA ⟨1, 1, z, k⟩ σ (.sl o 0 l.length) = some (encL rI_u8 l) := srcA_sl (ti := ⟨1, 1, z, k⟩) (fun _ => rfl) h
@[simp] theorem len56 (l : List gQuad) : lenA T 56 (.fsl (encL rQuad l)) = some (.int .i64 (ilen l)) := lenA_fsl (e := 37) rfl rQuad l
@[simp] theorem leno56 (o r : Nat) (l : List gQuad) : lenA T 56 (.sl o r l.length) = some (.int .i64 (ilen l)) := lenA_sl (e := 37) rfl o r l
@[simp] theorem lenn56 : lenA T 56 .nilsl = some (.int .i64 0) := rfl
@[simp] theorem lene56 : lenA T 56 .esl = some (.int .i64 0) := rfl
@[simp] theorem src56 (σ : AHeap) (l : List gQuad) (z : List AV) (k : TK) : srcA ⟨5, 40, z, k⟩ σ (.fsl (encL rQuad l)) = some (encL rQuad l) := srcA_fsl (f := rQuad) (fun _ => rfl) σ l
@[simp] theorem srco56 {σ : AHeap} {o : Nat} {l : List gQuad} (z : List AV) (k : TK) (h : σ.objs o = some ⟨37, 5, encL rQuad l⟩) : srcA ⟨5, 40, z, k⟩ σ (.sl o 0 l.length) = some (encL rQuad l) := srcA_sl (ti := ⟨5, 40, z, k⟩) (fun _ => rfl) h
theorem ix56 {l : List gQuad} {i : Int} {v : gQuad} (h : idx l i = some v) (σ : AHeap) (k : IntKind) : indexAddrA T σ 56 (.fsl (encL rQuad l)) (.int k i) = some (.fptr (rQuad v) 0) := ixA_fsl (e := 37) rfl rfl (fun _ => rfl) h σ k
@[simp] theorem len59 (l : List gQuad) : lenA T 59 (.fsl (encL rQuad l)) = some (.int .i64 (ilen l)) := lenA_fsl (e := 40) rfl rQuad l
@[simp] theorem leno59 (o r : Nat) (l : List gQuad) : lenA T 59 (.sl o r l.length) = some (.int .i64 (ilen l)) := lenA_sl (e := 40) rfl o r l
@[simp] theorem lenn59 : lenA T 59 .nilsl = some (.int .i64 0) := rfl
@[simp] theorem lene59 : lenA T 59 .esl = some (.int .i64 0) := rfl
@[simp] theorem src59 (σ : AHeap) (l : List gQuad) (z : List AV) (k : TK) : srcA ⟨5, 40, z, k⟩ σ (.fsl (encL rQuad l)) = some (encL rQuad l) := srcA_fsl (f := rQuad) (fun _ => rfl) σ l
@[simp] theorem srco59 {σ : AHeap} {o : Nat} {l : List gQuad} (z : List AV) (k : TK) (h : σ.objs o = some ⟨40, 5, encL rQuad l⟩) : srcA ⟨5, 40, z, k⟩ σ (.sl o 0 l.length) = some (encL rQuad l) := srcA_sl (ti := ⟨5, 40, z, k⟩) (fun _ => rfl) h
theorem ix59 {l : List gQuad} {i : Int} {v : gQuad} (h : idx l i = some v) (σ : AHeap) (k : IntKind) : indexAddrA T σ 59 (.fsl (encL rQuad l)) (.int k i) = some (.fptr (rQuad v) 0) := ixA_fsl (e := 40) rfl rfl (fun _ => rfl) h σ k
theorem ixo59 {l : List gQuad} {i : Int} {v : gQuad} (h : idx l i = some v) {σ : AHeap} {o : Nat} (hs : (σ.objs o).map AObj.sz = some 5) (k : IntKind) : indexAddrA T σ 59 (.sl o 0 l.length) (.int k i) = some (.ptr o i.toNat 0) := ixA_sl (e := 40) rfl rfl h hs k
theorem mak59 {n : Int} {r : List gQuad} (h : makex 40 n (⟨0, 0, 0, 0, 0⟩ : gQuad) = some r) (σ : AHeap) (id : Nat) (k k' : IntKind) : makeA T 59 false id (.int k n) (.int k' n) σ = some (.sl id 0 r.length, σ.put id ⟨40, 5, encL rQuad r⟩) := makA_sl (e := 40) (ti := ⟨5, 40, [.int .i64 0, .int .i64 0, .int .i64 0, .int .i64 0, .int .i64 0], .struct [(0, 3), (1, 3), (2, 3), (3, 3), (4, 3)]⟩) rfl rfl (by decide) (z := (⟨0, 0, 0, 0, 0⟩ : gQuad)) rfl h σ id k k'
theorem gx134 {l : List Int} {i : Int} {v : Int} (h : idx l i = some v) (σ : AHeap) (k : IntKind) (hn : l.length = 12 := by rfl) : indexAddrA T σ 134 (.fptr (gI l) 0) (.int k i) = some (.fptr (rI v) 0) := by rw [gI_eq]; exact gixR (e := 3) rfl rfl (fun _ => rfl) hn h σ k
theorem gx157 {l : List Int} {i : Int} {v : Int} (h : idx l i = some v) (σ : AHeap) (k : IntKind) (hn : l.length = 8 := by rfl) : indexAddrA T σ 157 (.fptr (gI l) 0) (.int k i) = some (.fptr (rI v) 0) := by rw [gI_eq]; exact gixR (e := 3) rfl rfl (fun _ => rfl) hn h σ k
theorem nf_rInstr (n : Nat) (x : gInstr) : ((rInstr x).all (AV.nf (n + 1))) = true := by simp [AV.nf, AV.simp1]
end Go.Proofs.YtoklfbdcghgmlaaDoor
