/- Words of the proof: DH. No conditions. -/
import Derived.Test.YtoklfbdcghgmlaaDoorNDR0
import Derived.Test.YtoklfbdcghgmlaaDoorProg
import Derived.KernelRfl
set_option linter.unusedSimpArgs false
set_option linter.unusedVariables false
set_option maxRecDepth 20000
namespace Go.Proofs.YtoklfbdcghgmlaaDoor
open Go Go.Abs Go.RowKit

def T : Types := fun t =>
 match t with
 | 3 => some ⟨1, 8, [.int .i64 0], .int .i64⟩ -- int
 | 4 => some ⟨1, 1, [.bool false], .bool⟩ -- bool
 | 5 => some ⟨1, 1, [.int .u8 0], .int .u8⟩ -- uint8
 | 9 => some ⟨1, 16, [.str emptyS], .str⟩ -- string
 | 21 => some ⟨1, 4, [.int .i32 0], .int .i32⟩ -- int32
 | 22 => some ⟨1, 24, [.nilsl], .slice 92⟩ -- []laws.Instr
 | 24 => some ⟨1, 24, [.nilsl], .slice 3⟩ -- []int
 | 26 => some ⟨3, 56, [.nilsl, .int .i64 0, .nilsl], .struct [(0, 24), (1, 3), (2, 24)]⟩ -- impl.Machine
 | 29 => some ⟨1, 24, [.nilsl], .slice 47⟩ -- []impl.Instr
 | 43 => some ⟨1, 24, [.nilsl], .slice 5⟩ -- []uint8
 | 47 => some ⟨5, 40, [.int .i64 0, .int .i64 0, .int .i64 0, .int .i64 0, .int .i64 0], .struct [(0, 3), (1, 3), (2, 3), (3, 3), (4, 3)]⟩ -- impl.Instr
 | 92 => some ⟨5, 40, [.int .i64 0, .int .i64 0, .int .i64 0, .int .i64 0, .int .i64 0], .struct [(0, 3), (1, 3), (2, 3), (3, 3), (4, 3)]⟩ -- laws.Instr
 | 98 => some ⟨1, 8, [.nilp], .ptr⟩ -- *spec.l6Rd
 | 138 => some ⟨2, 32, [.nilsl, .int .i64 0], .struct [(0, 43), (1, 3)]⟩ -- spec.l6Rd
 | 141 => some ⟨4, 40, [.str emptyS, .int .i64 0, .int .i64 0, .int .i64 0], .struct [(0, 9), (1, 3), (2, 3), (3, 3)]⟩ -- impl.instrRow
 | 142 => some ⟨84, 840, [.str emptyS, .int .i64 0, .int .i64 0, .int .i64 0, .str emptyS, .int .i64 0, .int .i64 0, .int .i64 0, .str emptyS, .int .i64 0, .int .i64 0, .int .i64 0, .str emptyS, .int .i64 0, .int .i64 0, .int .i64 0, .str emptyS, .int .i64 0, .int .i64 0, .int .i64 0, .str emptyS, .int .i64 0, .int .i64 0, .int .i64 0, .str emptyS, .int .i64 0, .int .i64 0, .int .i64 0, .str emptyS, .int .i64 0, .int .i64 0, .int .i64 0, .str emptyS, .int .i64 0, .int .i64 0, .int .i64 0, .str emptyS, .int .i64 0, .int .i64 0, .int .i64 0, .str emptyS, .int .i64 0, .int .i64 0, .int .i64 0, .str emptyS, .int .i64 0, .int .i64 0, .int .i64 0, .str emptyS, .int .i64 0, .int .i64 0, .int .i64 0, .str emptyS, .int .i64 0, .int .i64 0, .int .i64 0, .str emptyS, .int .i64 0, .int .i64 0, .int .i64 0, .str emptyS, .int .i64 0, .int .i64 0, .int .i64 0, .str emptyS, .int .i64 0, .int .i64 0, .int .i64 0, .str emptyS, .int .i64 0, .int .i64 0, .int .i64 0, .str emptyS, .int .i64 0, .int .i64 0, .int .i64 0, .str emptyS, .int .i64 0, .int .i64 0, .int .i64 0, .str emptyS, .int .i64 0, .int .i64 0, .int .i64 0], .array 21 141⟩ -- [21]impl.instrRow
 | 144 => some ⟨1, 8, [.nilp], .ptr⟩ -- *impl.Machine
 | 145 => some ⟨1, 8, [.nilp], .ptr⟩ -- *int
 | 151 => some ⟨11, 88, [.int .i64 0, .int .i64 0, .int .i64 0, .int .i64 0, .int .i64 0, .int .i64 0, .int .i64 0, .int .i64 0, .int .i64 0, .int .i64 0, .int .i64 0], .array 11 3⟩ -- [11]int
 | 158 => some ⟨1, 4, [.int .u32 0], .int .u32⟩ -- uint32
 | _ => none

@[simp] theorem T_3 : T 3 = some ⟨1, 8, [.int .i64 0], .int .i64⟩ := rfl
@[simp] theorem T_4 : T 4 = some ⟨1, 1, [.bool false], .bool⟩ := rfl
@[simp] theorem T_5 : T 5 = some ⟨1, 1, [.int .u8 0], .int .u8⟩ := rfl
@[simp] theorem T_9 : T 9 = some ⟨1, 16, [.str emptyS], .str⟩ := rfl
@[simp] theorem T_21 : T 21 = some ⟨1, 4, [.int .i32 0], .int .i32⟩ := rfl
@[simp] theorem T_22 : T 22 = some ⟨1, 24, [.nilsl], .slice 92⟩ := rfl
@[simp] theorem T_24 : T 24 = some ⟨1, 24, [.nilsl], .slice 3⟩ := rfl
@[simp] theorem T_26 : T 26 = some ⟨3, 56, [.nilsl, .int .i64 0, .nilsl], .struct [(0, 24), (1, 3), (2, 24)]⟩ := rfl
@[simp] theorem T_29 : T 29 = some ⟨1, 24, [.nilsl], .slice 47⟩ := rfl
@[simp] theorem T_43 : T 43 = some ⟨1, 24, [.nilsl], .slice 5⟩ := rfl
@[simp] theorem T_47 : T 47 = some ⟨5, 40, [.int .i64 0, .int .i64 0, .int .i64 0, .int .i64 0, .int .i64 0], .struct [(0, 3), (1, 3), (2, 3), (3, 3), (4, 3)]⟩ := rfl
@[simp] theorem T_92 : T 92 = some ⟨5, 40, [.int .i64 0, .int .i64 0, .int .i64 0, .int .i64 0, .int .i64 0], .struct [(0, 3), (1, 3), (2, 3), (3, 3), (4, 3)]⟩ := rfl
@[simp] theorem T_98 : T 98 = some ⟨1, 8, [.nilp], .ptr⟩ := rfl
@[simp] theorem T_138 : T 138 = some ⟨2, 32, [.nilsl, .int .i64 0], .struct [(0, 43), (1, 3)]⟩ := rfl
@[simp] theorem T_141 : T 141 = some ⟨4, 40, [.str emptyS, .int .i64 0, .int .i64 0, .int .i64 0], .struct [(0, 9), (1, 3), (2, 3), (3, 3)]⟩ := rfl
@[simp] theorem T_142 : T 142 = some ⟨84, 840, [.str emptyS, .int .i64 0, .int .i64 0, .int .i64 0, .str emptyS, .int .i64 0, .int .i64 0, .int .i64 0, .str emptyS, .int .i64 0, .int .i64 0, .int .i64 0, .str emptyS, .int .i64 0, .int .i64 0, .int .i64 0, .str emptyS, .int .i64 0, .int .i64 0, .int .i64 0, .str emptyS, .int .i64 0, .int .i64 0, .int .i64 0, .str emptyS, .int .i64 0, .int .i64 0, .int .i64 0, .str emptyS, .int .i64 0, .int .i64 0, .int .i64 0, .str emptyS, .int .i64 0, .int .i64 0, .int .i64 0, .str emptyS, .int .i64 0, .int .i64 0, .int .i64 0, .str emptyS, .int .i64 0, .int .i64 0, .int .i64 0, .str emptyS, .int .i64 0, .int .i64 0, .int .i64 0, .str emptyS, .int .i64 0, .int .i64 0, .int .i64 0, .str emptyS, .int .i64 0, .int .i64 0, .int .i64 0, .str emptyS, .int .i64 0, .int .i64 0, .int .i64 0, .str emptyS, .int .i64 0, .int .i64 0, .int .i64 0, .str emptyS, .int .i64 0, .int .i64 0, .int .i64 0, .str emptyS, .int .i64 0, .int .i64 0, .int .i64 0, .str emptyS, .int .i64 0, .int .i64 0, .int .i64 0, .str emptyS, .int .i64 0, .int .i64 0, .int .i64 0, .str emptyS, .int .i64 0, .int .i64 0, .int .i64 0], .array 21 141⟩ := rfl
@[simp] theorem T_144 : T 144 = some ⟨1, 8, [.nilp], .ptr⟩ := rfl
@[simp] theorem T_145 : T 145 = some ⟨1, 8, [.nilp], .ptr⟩ := rfl
@[simp] theorem T_151 : T 151 = some ⟨11, 88, [.int .i64 0, .int .i64 0, .int .i64 0, .int .i64 0, .int .i64 0, .int .i64 0, .int .i64 0, .int .i64 0, .int .i64 0, .int .i64 0, .int .i64 0], .array 11 3⟩ := rfl
@[simp] theorem T_158 : T 158 = some ⟨1, 4, [.int .u32 0], .int .u32⟩ := rfl
theorem tok : TOk Tryd.prog T := by
 intro t i h
 unfold T at h
 split at h <;> first | (cases h; done) | skip
 all_goals (cases h; refine ⟨by kernel_rfl, by kernel_rfl, by kernel_rfl, by kernel_rfl, by kernel_rfl⟩)
theorem tokM : Tryd.prog.follows .mixedOrders = true := by kernel_rfl
def G : Globs := fun g => match g with
 | 1 => some (gR rInstrRow instrTab)
 | 2 => some (gI [8, 9, 10, 11, 12, 3, 1, 2, 6, 7, 5])
 | _ => none
@[simp] theorem G_1 : G 1 = some (gR rInstrRow instrTab) := rfl
@[simp] theorem G_2 : G 2 = some (gI [8, 9, 10, 11, 12, 3, 1, 2, 6, 7, 5]) := rfl
@[simp] theorem bin_ii (op : BinOp) (t : TypeId) (k : IntKind) (a b : Int) : bin T op t (.int k a) (.int k b) = ibin op k a b := by simp [bin]
@[simp] theorem bin_shl (t : TypeId) (k k' : IntKind) (a b : Int) : bin T .shl t (.int k a) (.int k' b) = ibin .shl k a b := by simp [bin]
@[simp] theorem bin_shr (t : TypeId) (k k' : IntKind) (a b : Int) : bin T .shr t (.int k a) (.int k' b) = ibin .shr k a b := by simp [bin]
@[simp ↓] theorem sueq_47 (xOp xRd xRs xRt xImm yOp yRd yRs yRt yImm : Int) : bin T .eql 47 (.agg [.int .i64 xOp, .int .i64 xRd, .int .i64 xRs, .int .i64 xRt, .int .i64 xImm]) (.agg [.int .i64 yOp, .int .i64 yRd, .int .i64 yRs, .int .i64 yRt, .int .i64 yImm]) = some (.bool (eqD (⟨xOp, xRd, xRs, xRt, xImm⟩ : gInstr) (⟨yOp, yRd, yRs, yRt, yImm⟩ : gInstr))) := by
 have h : eqAgg T 47 [.int .i64 xOp, .int .i64 xRd, .int .i64 xRs, .int .i64 xRt, .int .i64 xImm] [.int .i64 yOp, .int .i64 yRd, .int .i64 yRs, .int .i64 yRt, .int .i64 yImm] = some (decide ((⟨xOp, xRd, xRs, xRt, xImm⟩ : gInstr) = (⟨yOp, yRd, yRs, yRt, yImm⟩ : gInstr))) := by
  simp [eqAgg, flatT, eqCells, gInstr.mk.injEq, Bool.decide_and, decide_eq_true_eq]
  try rfl
 simp only [bin, h, Option.map_some, bnot, eqD]
@[simp ↓] theorem sune_47 (xOp xRd xRs xRt xImm yOp yRd yRs yRt yImm : Int) : bin T .neq 47 (.agg [.int .i64 xOp, .int .i64 xRd, .int .i64 xRs, .int .i64 xRt, .int .i64 xImm]) (.agg [.int .i64 yOp, .int .i64 yRd, .int .i64 yRs, .int .i64 yRt, .int .i64 yImm]) = some (.bool (bnot (eqD (⟨xOp, xRd, xRs, xRt, xImm⟩ : gInstr) (⟨yOp, yRd, yRs, yRt, yImm⟩ : gInstr)))) := by
 have h : eqAgg T 47 [.int .i64 xOp, .int .i64 xRd, .int .i64 xRs, .int .i64 xRt, .int .i64 xImm] [.int .i64 yOp, .int .i64 yRd, .int .i64 yRs, .int .i64 yRt, .int .i64 yImm] = some (decide ((⟨xOp, xRd, xRs, xRt, xImm⟩ : gInstr) = (⟨yOp, yRd, yRs, yRt, yImm⟩ : gInstr))) := by
  simp [eqAgg, flatT, eqCells, gInstr.mk.injEq, Bool.decide_and, decide_eq_true_eq]
  try rfl
 simp only [bin, h, Option.map_some, bnot, eqD]
@[simp ↓] theorem sueq_92 (xOp xRd xRs xRt xImm yOp yRd yRs yRt yImm : Int) : bin T .eql 92 (.agg [.int .i64 xOp, .int .i64 xRd, .int .i64 xRs, .int .i64 xRt, .int .i64 xImm]) (.agg [.int .i64 yOp, .int .i64 yRd, .int .i64 yRs, .int .i64 yRt, .int .i64 yImm]) = some (.bool (eqD (⟨xOp, xRd, xRs, xRt, xImm⟩ : gInstr) (⟨yOp, yRd, yRs, yRt, yImm⟩ : gInstr))) := by
 have h : eqAgg T 92 [.int .i64 xOp, .int .i64 xRd, .int .i64 xRs, .int .i64 xRt, .int .i64 xImm] [.int .i64 yOp, .int .i64 yRd, .int .i64 yRs, .int .i64 yRt, .int .i64 yImm] = some (decide ((⟨xOp, xRd, xRs, xRt, xImm⟩ : gInstr) = (⟨yOp, yRd, yRs, yRt, yImm⟩ : gInstr))) := by
  simp [eqAgg, flatT, eqCells, gInstr.mk.injEq, Bool.decide_and, decide_eq_true_eq]
  try rfl
 simp only [bin, h, Option.map_some, bnot, eqD]
@[simp ↓] theorem sune_92 (xOp xRd xRs xRt xImm yOp yRd yRs yRt yImm : Int) : bin T .neq 92 (.agg [.int .i64 xOp, .int .i64 xRd, .int .i64 xRs, .int .i64 xRt, .int .i64 xImm]) (.agg [.int .i64 yOp, .int .i64 yRd, .int .i64 yRs, .int .i64 yRt, .int .i64 yImm]) = some (.bool (bnot (eqD (⟨xOp, xRd, xRs, xRt, xImm⟩ : gInstr) (⟨yOp, yRd, yRs, yRt, yImm⟩ : gInstr)))) := by
 have h : eqAgg T 92 [.int .i64 xOp, .int .i64 xRd, .int .i64 xRs, .int .i64 xRt, .int .i64 xImm] [.int .i64 yOp, .int .i64 yRd, .int .i64 yRs, .int .i64 yRt, .int .i64 yImm] = some (decide ((⟨xOp, xRd, xRs, xRt, xImm⟩ : gInstr) = (⟨yOp, yRd, yRs, yRt, yImm⟩ : gInstr))) := by
  simp [eqAgg, flatT, eqCells, gInstr.mk.injEq, Bool.decide_and, decide_eq_true_eq]
  try rfl
 simp only [bin, h, Option.map_some, bnot, eqD]
@[simp] theorem bineq_4 (a b : Bool) : bin T .eql 4 (.bool a) (.bool b) = some (.bool (beqb a b)) := rfl
@[simp] theorem binne_4 (a b : Bool) : bin T .neq 4 (.bool a) (.bool b) = some (.bool (bneb a b)) := rfl
@[simp] theorem conv_3_5 (k : IntKind) (n : Int) : convA T 3 5 (.int k n) = some (.int .u8 (iconv .u8 n)) := rfl
@[simp] theorem conv_3_21 (k : IntKind) (n : Int) : convA T 3 21 (.int k n) = some (.int .i32 (iconv .i32 n)) := rfl
@[simp] theorem conv_3_158 (k : IntKind) (n : Int) : convA T 3 158 (.int k n) = some (.int .u32 (iconv .u32 n)) := rfl
@[simp] theorem conv_5_3 (k : IntKind) (n : Int) : convA T 5 3 (.int k n) = some (.int .i64 (iconv .i64 n)) := rfl
@[simp] theorem conv_5_21 (k : IntKind) (n : Int) : convA T 5 21 (.int k n) = some (.int .i32 (iconv .i32 n)) := rfl
@[simp] theorem conv_5_158 (k : IntKind) (n : Int) : convA T 5 158 (.int k n) = some (.int .u32 (iconv .u32 n)) := rfl
@[simp] theorem conv_21_3 (k : IntKind) (n : Int) : convA T 21 3 (.int k n) = some (.int .i64 (iconv .i64 n)) := rfl
@[simp] theorem conv_21_5 (k : IntKind) (n : Int) : convA T 21 5 (.int k n) = some (.int .u8 (iconv .u8 n)) := rfl
@[simp] theorem conv_21_158 (k : IntKind) (n : Int) : convA T 21 158 (.int k n) = some (.int .u32 (iconv .u32 n)) := rfl
@[simp] theorem conv_158_3 (k : IntKind) (n : Int) : convA T 158 3 (.int k n) = some (.int .i64 (iconv .i64 n)) := rfl
@[simp] theorem conv_158_5 (k : IntKind) (n : Int) : convA T 158 5 (.int k n) = some (.int .u8 (iconv .u8 n)) := rfl
@[simp] theorem conv_158_21 (k : IntKind) (n : Int) : convA T 158 21 (.int k n) = some (.int .i32 (iconv .i32 n)) := rfl
@[simp] theorem len22 (l : List gInstr) : lenA T 22 (.fsl (encL rInstr l)) = some (.int .i64 (ilen l)) := lenA_fsl (e := 92) rfl rInstr l
@[simp] theorem leno22 (o r : Nat) (l : List gInstr) : lenA T 22 (.sl o r l.length) = some (.int .i64 (ilen l)) := lenA_sl (e := 92) rfl o r l
@[simp] theorem lenn22 : lenA T 22 .nilsl = some (.int .i64 0) := rfl
@[simp] theorem lene22 : lenA T 22 .esl = some (.int .i64 0) := rfl
@[simp] theorem src22 (σ : AHeap) (l : List gInstr) (z : List AV) (k : TK) : srcA ⟨5, 40, z, k⟩ σ (.fsl (encL rInstr l)) = some (encL rInstr l) := srcA_fsl (f := rInstr) (fun _ => rfl) σ l
@[simp] theorem srco22 {σ : AHeap} {o : Nat} {l : List gInstr} (z : List AV) (k : TK) (h : σ.objs o = some ⟨92, 5, encL rInstr l⟩) : srcA ⟨5, 40, z, k⟩ σ (.sl o 0 l.length) = some (encL rInstr l) := srcA_sl (ti := ⟨5, 40, z, k⟩) (fun _ => rfl) h
@[simp] theorem len24 (l : List Int) : lenA T 24 (.fsl (encL rI l)) = some (.int .i64 (ilen l)) := lenA_fsl (e := 3) rfl rI l
@[simp] theorem leno24 (o r : Nat) (l : List Int) : lenA T 24 (.sl o r l.length) = some (.int .i64 (ilen l)) := lenA_sl (e := 3) rfl o r l
@[simp] theorem lenn24 : lenA T 24 .nilsl = some (.int .i64 0) := rfl
@[simp] theorem lene24 : lenA T 24 .esl = some (.int .i64 0) := rfl
@[simp] theorem src24 (σ : AHeap) (l : List Int) (z : List AV) (k : TK) : srcA ⟨1, 8, z, k⟩ σ (.fsl (encL rI l)) = some (encL rI l) := srcA_fsl (f := rI) (fun _ => rfl) σ l
@[simp] theorem srco24 {σ : AHeap} {o : Nat} {l : List Int} (z : List AV) (k : TK) (h : σ.objs o = some ⟨3, 1, encL rI l⟩) : srcA ⟨1, 8, z, k⟩ σ (.sl o 0 l.length) = some (encL rI l) := srcA_sl (ti := ⟨1, 8, z, k⟩) (fun _ => rfl) h
theorem ix24 {l : List Int} {i : Int} {v : Int} (h : idx l i = some v) (σ : AHeap) (k : IntKind) : indexAddrA T σ 24 (.fsl (encL rI l)) (.int k i) = some (.fptr (rI v) 0) := ixA_fsl (e := 3) rfl rfl (fun _ => rfl) h σ k
theorem ixo24 {l : List Int} {i : Int} {v : Int} (h : idx l i = some v) {σ : AHeap} {o : Nat} (hs : (σ.objs o).map AObj.sz = some 1) (k : IntKind) : indexAddrA T σ 24 (.sl o 0 l.length) (.int k i) = some (.ptr o i.toNat 0) := ixA_sl (e := 3) rfl rfl h hs k
theorem app24 {l m r : List Int} (h : appx 8 l m = some r) {σ : AHeap} {o : Nat} {x : AV} (id : Nat) (ho : σ.objs o = some ⟨3, 1, encL rI l⟩) (hx : srcA ⟨1, 8, [.int .i64 0], .int .i64⟩ σ x = some (encL rI m)) :
  appendA T 24 id (.sl o 0 l.length) x σ = some (.sl id 0 r.length, (σ.kill o).put id ⟨3, 1, encL rI r⟩) := appA_sl (e := 3) rfl rfl (by decide) h id ho hx
theorem appe24 {m r : List Int} (h : appx 8 [] m = some r) {σ : AHeap} {x : AV} (id : Nat) (hx : srcA ⟨1, 8, [.int .i64 0], .int .i64⟩ σ x = some (encL rI m)) :
  appendA T 24 id .esl x σ = some (.sl id 0 r.length, σ.put id ⟨3, 1, encL rI r⟩) := appA_esl (e := 3) rfl rfl (by decide) h id hx
theorem mak24 {n : Int} {r : List Int} (h : makex 8 n (0 : Int) = some r) (σ : AHeap) (id : Nat) (k k' : IntKind) : makeA T 24 false id (.int k n) (.int k' n) σ = some (.sl id 0 r.length, σ.put id ⟨3, 1, encL rI r⟩) := makA_sl (e := 3) (ti := ⟨1, 8, [.int .i64 0], .int .i64⟩) rfl rfl (by decide) (z := (0 : Int)) rfl h σ id k k'
@[simp] theorem len29 (l : List gInstr) : lenA T 29 (.fsl (encL rInstr l)) = some (.int .i64 (ilen l)) := lenA_fsl (e := 47) rfl rInstr l
@[simp] theorem leno29 (o r : Nat) (l : List gInstr) : lenA T 29 (.sl o r l.length) = some (.int .i64 (ilen l)) := lenA_sl (e := 47) rfl o r l
@[simp] theorem lenn29 : lenA T 29 .nilsl = some (.int .i64 0) := rfl
@[simp] theorem lene29 : lenA T 29 .esl = some (.int .i64 0) := rfl
@[simp] theorem src29 (σ : AHeap) (l : List gInstr) (z : List AV) (k : TK) : srcA ⟨5, 40, z, k⟩ σ (.fsl (encL rInstr l)) = some (encL rInstr l) := srcA_fsl (f := rInstr) (fun _ => rfl) σ l
@[simp] theorem srco29 {σ : AHeap} {o : Nat} {l : List gInstr} (z : List AV) (k : TK) (h : σ.objs o = some ⟨47, 5, encL rInstr l⟩) : srcA ⟨5, 40, z, k⟩ σ (.sl o 0 l.length) = some (encL rInstr l) := srcA_sl (ti := ⟨5, 40, z, k⟩) (fun _ => rfl) h
theorem ix29 {l : List gInstr} {i : Int} {v : gInstr} (h : idx l i = some v) (σ : AHeap) (k : IntKind) : indexAddrA T σ 29 (.fsl (encL rInstr l)) (.int k i) = some (.fptr (rInstr v) 0) := ixA_fsl (e := 47) rfl rfl (fun _ => rfl) h σ k
theorem app29 {l m r : List gInstr} (h : appx 40 l m = some r) {σ : AHeap} {o : Nat} {x : AV} (id : Nat) (ho : σ.objs o = some ⟨47, 5, encL rInstr l⟩) (hx : srcA ⟨5, 40, [.int .i64 0, .int .i64 0, .int .i64 0, .int .i64 0, .int .i64 0], .struct [(0, 3), (1, 3), (2, 3), (3, 3), (4, 3)]⟩ σ x = some (encL rInstr m)) :
  appendA T 29 id (.sl o 0 l.length) x σ = some (.sl id 0 r.length, (σ.kill o).put id ⟨47, 5, encL rInstr r⟩) := appA_sl (e := 47) rfl rfl (by decide) h id ho hx
@[simp] theorem len43 (l : List Int) : lenA T 43 (.fsl (encL rI_u8 l)) = some (.int .i64 (ilen l)) := lenA_fsl (e := 5) rfl rI_u8 l
@[simp] theorem leno43 (o r : Nat) (l : List Int) : lenA T 43 (.sl o r l.length) = some (.int .i64 (ilen l)) := lenA_sl (e := 5) rfl o r l
@[simp] theorem lenn43 : lenA T 43 .nilsl = some (.int .i64 0) := rfl
@[simp] theorem lene43 : lenA T 43 .esl = some (.int .i64 0) := rfl
@[simp] theorem src43 (σ : AHeap) (l : List Int) (z : List AV) (k : TK) : srcA ⟨1, 1, z, k⟩ σ (.fsl (encL rI_u8 l)) = some (encL rI_u8 l) := srcA_fsl (f := rI_u8) (fun _ => rfl) σ l
@[simp] theorem srco43 {σ : AHeap} {o : Nat} {l : List Int} (z : List AV) (k : TK) (h : σ.objs o = some ⟨5, 1, encL rI_u8 l⟩) : srcA ⟨1, 1, z, k⟩ σ (.sl o 0 l.length) = some (encL rI_u8 l) := srcA_sl (ti := ⟨1, 1, z, k⟩) (fun _ => rfl) h
theorem ix43 {l : List Int} {i : Int} {v : Int} (h : idx l i = some v) (σ : AHeap) (k : IntKind) : indexAddrA T σ 43 (.fsl (encL rI_u8 l)) (.int k i) = some (.fptr (rI_u8 v) 0) := ixA_fsl (e := 5) rfl rfl (fun _ => rfl) h σ k
theorem cuth_43 {l r : List Int} {b : Int} (h : cutx l 0 b = some r) (σ : AHeap) {kb : IntKind} : cutA T σ 43 (.fsl (encL rI_u8 l)) none (some (.int kb b)) = some (.fsl (encL rI_u8 r)) := cutA_fsl (e := 5) rfl rfl (fun _ => rfl) rfl rfl h σ
theorem gx142 {l : List gInstrRow} {i : Int} {v : gInstrRow} (h : idx l i = some v) (σ : AHeap) (k : IntKind) (hn : l.length = 21 := by rfl) : indexAddrA T σ 142 (.fptr (gR rInstrRow l) 0) (.int k i) = some (.fptr (rInstrRow v) 0) := gixR (e := 141) rfl rfl (fun _ => rfl) hn h σ k
theorem gx151 {l : List Int} {i : Int} {v : Int} (h : idx l i = some v) (σ : AHeap) (k : IntKind) (hn : l.length = 11 := by rfl) : indexAddrA T σ 151 (.fptr (gI l) 0) (.int k i) = some (.fptr (rI v) 0) := by rw [gI_eq]; exact gixR (e := 3) rfl rfl (fun _ => rfl) hn h σ k
theorem nf_rI (n : Nat) (x : Int) : ((rI x).all (AV.nf (n + 1))) = true := by simp [AV.nf, AV.simp1]
end Go.Proofs.YtoklfbdcghgmlaaDoor
