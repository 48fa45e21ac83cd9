/- Words of the proof: DH. No conditions. -/
import Derived.Test.YtoklfbdcghgmlaaDoorNDR0
import Derived.Test.YtoklfbdcghgmlaaDoorProg
import Derived.KernelRfl
set_option linter.unusedSimpArgs false
set_option linter.unusedVariables false
set_option maxRecDepth 20000
namespace Go.Proofs.YtoklfbdcghgmlaaDoor
open Go Go.Abs Go.RowKit

def T : Types := fun t =>
  match t with
  | 3 => some ⟨1, 8, [.int .i64 0], .int .i64⟩ -- int
  | 4 => some ⟨1, 1, [.bool false], .bool⟩ -- bool
  | 5 => some ⟨1, 1, [.int .u8 0], .int .u8⟩ -- uint8
  | 9 => some ⟨1, 16, [.str emptyS], .str⟩ -- string
  | 21 => some ⟨1, 4, [.int .i32 0], .int .i32⟩ -- int32
  | 22 => some ⟨1, 24, [.nilsl], .slice 92⟩ -- []laws.Instr
  | 24 => some ⟨1, 24, [.nilsl], .slice 3⟩ -- []int
  | 26 => some ⟨3, 56, [.nilsl, .int .i64 0, .nilsl], .struct [(0, 24), (1, 3), (2, 24)]⟩ -- impl.Machine
  | 29 => some ⟨1, 24, [.nilsl], .slice 47⟩ -- []impl.Instr
  | 47 => some ⟨5, 40, [.int .i64 0, .int .i64 0, .int .i64 0, .int .i64 0, .int .i64 0], .struct [(0, 3), (1, 3), (2, 3), (3, 3), (4, 3)]⟩ -- impl.Instr
  | 69 => some ⟨1, 24, [.nilsl], .slice 22⟩ -- [][]laws.Instr
  | 71 => some ⟨1, 24, [.nilsl], .slice 26⟩ -- []impl.Machine
  | 72 => some ⟨1, 24, [.nilsl], .slice 153⟩ -- []impl.Box
  | 74 => some ⟨5, 88, [.nilsl, .nilsl, .int .i64 0, .int .i64 0, .nilsl], .struct [(0, 71), (1, 72), (2, 3), (3, 3), (4, 24)]⟩ -- impl.Squad
  | 78 => some ⟨1, 24, [.nilsl], .slice 29⟩ -- [][]impl.Instr
  | 92 => some ⟨5, 40, [.int .i64 0, .int .i64 0, .int .i64 0, .int .i64 0, .int .i64 0], .struct [(0, 3), (1, 3), (2, 3), (3, 3), (4, 3)]⟩ -- laws.Instr
  | 141 => some ⟨4, 40, [.str emptyS, .int .i64 0, .int .i64 0, .int .i64 0], .struct [(0, 9), (1, 3), (2, 3), (3, 3)]⟩ -- impl.instrRow
  | 142 => some ⟨84, 840, [.str emptyS, .int .i64 0, .int .i64 0, .int .i64 0, .str emptyS, .int .i64 0, .int .i64 0, .int .i64 0, .str emptyS, .int .i64 0, .int .i64 0, .int .i64 0, .str emptyS, .int .i64 0, .int .i64 0, .int .i64 0, .str emptyS, .int .i64 0, .int .i64 0, .int .i64 0, .str emptyS, .int .i64 0, .int .i64 0, .int .i64 0, .str emptyS, .int .i64 0, .int .i64 0, .int .i64 0, .str emptyS, .int .i64 0, .int .i64 0, .int .i64 0, .str emptyS, .int .i64 0, .int .i64 0, .int .i64 0, .str emptyS, .int .i64 0, .int .i64 0, .int .i64 0, .str emptyS, .int .i64 0, .int .i64 0, .int .i64 0, .str emptyS, .int .i64 0, .int .i64 0, .int .i64 0, .str emptyS, .int .i64 0, .int .i64 0, .int .i64 0, .str emptyS, .int .i64 0, .int .i64 0, .int .i64 0, .str emptyS, .int .i64 0, .int .i64 0, .int .i64 0, .str emptyS, .int .i64 0, .int .i64 0, .int .i64 0, .str emptyS, .int .i64 0, .int .i64 0, .int .i64 0, .str emptyS, .int .i64 0, .int .i64 0, .int .i64 0, .str emptyS, .int .i64 0, .int .i64 0, .int .i64 0, .str emptyS, .int .i64 0, .int .i64 0, .int .i64 0, .str emptyS, .int .i64 0, .int .i64 0, .int .i64 0], .array 21 141⟩ -- [21]impl.instrRow
  | 153 => some ⟨2, 32, [.int .i64 0, .nilsl], .struct [(0, 3), (1, 24)]⟩ -- impl.Box
  | 158 => some ⟨1, 4, [.int .u32 0], .int .u32⟩ -- uint32
  | _ => none

@[simp] theorem T_3 : T 3 = some ⟨1, 8, [.int .i64 0], .int .i64⟩ := rfl
@[simp] theorem T_4 : T 4 = some ⟨1, 1, [.bool false], .bool⟩ := rfl
@[simp] theorem T_5 : T 5 = some ⟨1, 1, [.int .u8 0], .int .u8⟩ := rfl
@[simp] theorem T_9 : T 9 = some ⟨1, 16, [.str emptyS], .str⟩ := rfl
@[simp] theorem T_21 : T 21 = some ⟨1, 4, [.int .i32 0], .int .i32⟩ := rfl
@[simp] theorem T_22 : T 22 = some ⟨1, 24, [.nilsl], .slice 92⟩ := rfl
@[simp] theorem T_24 : T 24 = some ⟨1, 24, [.nilsl], .slice 3⟩ := rfl
@[simp] theorem T_26 : T 26 = some ⟨3, 56, [.nilsl, .int .i64 0, .nilsl], .struct [(0, 24), (1, 3), (2, 24)]⟩ := rfl
@[simp] theorem T_29 : T 29 = some ⟨1, 24, [.nilsl], .slice 47⟩ := rfl
@[simp] theorem T_47 : T 47 = some ⟨5, 40, [.int .i64 0, .int .i64 0, .int .i64 0, .int .i64 0, .int .i64 0], .struct [(0, 3), (1, 3), (2, 3), (3, 3), (4, 3)]⟩ := rfl
@[simp] theorem T_69 : T 69 = some ⟨1, 24, [.nilsl], .slice 22⟩ := rfl
@[simp] theorem T_71 : T 71 = some ⟨1, 24, [.nilsl], .slice 26⟩ := rfl
@[simp] theorem T_72 : T 72 = some ⟨1, 24, [.nilsl], .slice 153⟩ := rfl
@[simp] theorem T_74 : T 74 = some ⟨5, 88, [.nilsl, .nilsl, .int .i64 0, .int .i64 0, .nilsl], .struct [(0, 71), (1, 72), (2, 3), (3, 3), (4, 24)]⟩ := rfl
@[simp] theorem T_78 : T 78 = some ⟨1, 24, [.nilsl], .slice 29⟩ := rfl
@[simp] theorem T_92 : T 92 = some ⟨5, 40, [.int .i64 0, .int .i64 0, .int .i64 0, .int .i64 0, .int .i64 0], .struct [(0, 3), (1, 3), (2, 3), (3, 3), (4, 3)]⟩ := rfl
@[simp] theorem T_141 : T 141 = some ⟨4, 40, [.str emptyS, .int .i64 0, .int .i64 0, .int .i64 0], .struct [(0, 9), (1, 3), (2, 3), (3, 3)]⟩ := rfl
@[simp] theorem T_142 : T 142 = some ⟨84, 840, [.str emptyS, .int .i64 0, .int .i64 0, .int .i64 0, .str emptyS, .int .i64 0, .int .i64 0, .int .i64 0, .str emptyS, .int .i64 0, .int .i64 0, .int .i64 0, .str emptyS, .int .i64 0, .int .i64 0, .int .i64 0, .str emptyS, .int .i64 0, .int .i64 0, .int .i64 0, .str emptyS, .int .i64 0, .int .i64 0, .int .i64 0, .str emptyS, .int .i64 0, .int .i64 0, .int .i64 0, .str emptyS, .int .i64 0, .int .i64 0, .int .i64 0, .str emptyS, .int .i64 0, .int .i64 0, .int .i64 0, .str emptyS, .int .i64 0, .int .i64 0, .int .i64 0, .str emptyS, .int .i64 0, .int .i64 0, .int .i64 0, .str emptyS, .int .i64 0, .int .i64 0, .int .i64 0, .str emptyS, .int .i64 0, .int .i64 0, .int .i64 0, .str emptyS, .int .i64 0, .int .i64 0, .int .i64 0, .str emptyS, .int .i64 0, .int .i64 0, .int .i64 0, .str emptyS, .int .i64 0, .int .i64 0, .int .i64 0, .str emptyS, .int .i64 0, .int .i64 0, .int .i64 0, .str emptyS, .int .i64 0, .int .i64 0, .int .i64 0, .str emptyS, .int .i64 0, .int .i64 0, .int .i64 0, .str emptyS, .int .i64 0, .int .i64 0, .int .i64 0, .str emptyS, .int .i64 0, .int .i64 0, .int .i64 0], .array 21 141⟩ := rfl
@[simp] theorem T_153 : T 153 = some ⟨2, 32, [.int .i64 0, .nilsl], .struct [(0, 3), (1, 24)]⟩ := rfl
@[simp] theorem T_158 : T 158 = some ⟨1, 4, [.int .u32 0], .int .u32⟩ := rfl
theorem tok : TOk Tryd.prog T := by
  intro t i h
  unfold T at h
  split at h <;> first | (cases h; done) | skip
  all_goals (cases h; refine ⟨by kernel_rfl, by kernel_rfl, by kernel_rfl, by kernel_rfl, by kernel_rfl⟩)
theorem tokM : Tryd.prog.follows .mixedOrders = true := by kernel_rfl
def G : Globs := fun g => match g with
  | 1 => some (gR rInstrRow instrTab)
  | _ => none
@[simp] theorem G_1 : G 1 = some (gR rInstrRow instrTab) := rfl
@[simp] theorem bin_ii (op : BinOp) (t : TypeId) (k : IntKind) (a b : Int) : bin T op t (.int k a) (.int k b) = ibin op k a b := by simp [bin]
@[simp] theorem bin_shl (t : TypeId) (k k' : IntKind) (a b : Int) : bin T .shl t (.int k a) (.int k' b) = ibin .shl k a b := by simp [bin]
@[simp] theorem bin_shr (t : TypeId) (k k' : IntKind) (a b : Int) : bin T .shr t (.int k a) (.int k' b) = ibin .shr k a b := by simp [bin]
@[simp ↓] theorem sueq_47 (xOp xRd xRs xRt xImm yOp yRd yRs yRt yImm : Int) : bin T .eql 47 (.agg [.int .i64 xOp, .int .i64 xRd, .int .i64 xRs, .int .i64 xRt, .int .i64 xImm]) (.agg [.int .i64 yOp, .int .i64 yRd, .int .i64 yRs, .int .i64 yRt, .int .i64 yImm]) = some (.bool (eqD (⟨xOp, xRd, xRs, xRt, xImm⟩ : gInstr) (⟨yOp, yRd, yRs, yRt, yImm⟩ : gInstr))) := by
  have h : eqAgg T 47 [.int .i64 xOp, .int .i64 xRd, .int .i64 xRs, .int .i64 xRt, .int .i64 xImm] [.int .i64 yOp, .int .i64 yRd, .int .i64 yRs, .int .i64 yRt, .int .i64 yImm] = some (decide ((⟨xOp, xRd, xRs, xRt, xImm⟩ : gInstr) = (⟨yOp, yRd, yRs, yRt, yImm⟩ : gInstr))) := by
    simp [eqAgg, flatT, eqCells, gInstr.mk.injEq, Bool.decide_and, decide_eq_true_eq]
    try rfl
  simp only [bin, h, Option.map_some, bnot, eqD]
@[simp ↓] theorem sune_47 (xOp xRd xRs xRt xImm yOp yRd yRs yRt yImm : Int) : bin T .neq 47 (.agg [.int .i64 xOp, .int .i64 xRd, .int .i64 xRs, .int .i64 xRt, .int .i64 xImm]) (.agg [.int .i64 yOp, .int .i64 yRd, .int .i64 yRs, .int .i64 yRt, .int .i64 yImm]) = some (.bool (bnot (eqD (⟨xOp, xRd, xRs, xRt, xImm⟩ : gInstr) (⟨yOp, yRd, yRs, yRt, yImm⟩ : gInstr)))) := by
  have h : eqAgg T 47 [.int .i64 xOp, .int .i64 xRd, .int .i64 xRs, .int .i64 xRt, .int .i64 xImm] [.int .i64 yOp, .int .i64 yRd, .int .i64 yRs, .int .i64 yRt, .int .i64 yImm] = some (decide ((⟨xOp, xRd, xRs, xRt, xImm⟩ : gInstr) = (⟨yOp, yRd, yRs, yRt, yImm⟩ : gInstr))) := by
    simp [eqAgg, flatT, eqCells, gInstr.mk.injEq, Bool.decide_and, decide_eq_true_eq]
    try rfl
  simp only [bin, h, Option.map_some, bnot, eqD]
@[simp ↓] theorem sueq_92 (xOp xRd xRs xRt xImm yOp yRd yRs yRt yImm : Int) : bin T .eql 92 (.agg [.int .i64 xOp, .int .i64 xRd, .int .i64 xRs, .int .i64 xRt, .int .i64 xImm]) (.agg [.int .i64 yOp, .int .i64 yRd, .int .i64 yRs, .int .i64 yRt, .int .i64 yImm]) = some (.bool (eqD (⟨xOp, xRd, xRs, xRt, xImm⟩ : gInstr) (⟨yOp, yRd, yRs, yRt, yImm⟩ : gInstr))) := by
  have h : eqAgg T 92 [.int .i64 xOp, .int .i64 xRd, .int .i64 xRs, .int .i64 xRt, .int .i64 xImm] [.int .i64 yOp, .int .i64 yRd, .int .i64 yRs, .int .i64 yRt, .int .i64 yImm] = some (decide ((⟨xOp, xRd, xRs, xRt, xImm⟩ : gInstr) = (⟨yOp, yRd, yRs, yRt, yImm⟩ : gInstr))) := by
    simp [eqAgg, flatT, eqCells, gInstr.mk.injEq, Bool.decide_and, decide_eq_true_eq]
    try rfl
  simp only [bin, h, Option.map_some, bnot, eqD]
@[simp ↓] theorem sune_92 (xOp xRd xRs xRt xImm yOp yRd yRs yRt yImm : Int) : bin T .neq 92 (.agg [.int .i64 xOp, .int .i64 xRd, .int .i64 xRs, .int .i64 xRt, .int .i64 xImm]) (.agg [.int .i64 yOp, .int .i64 yRd, .int .i64 yRs, .int .i64 yRt, .int .i64 yImm]) = some (.bool (bnot (eqD (⟨xOp, xRd, xRs, xRt, xImm⟩ : gInstr) (⟨yOp, yRd, yRs, yRt, yImm⟩ : gInstr)))) := by
  have h : eqAgg T 92 [.int .i64 xOp, .int .i64 xRd, .int .i64 xRs, .int .i64 xRt, .int .i64 xImm] [.int .i64 yOp, .int .i64 yRd, .int .i64 yRs, .int .i64 yRt, .int .i64 yImm] = some (decide ((⟨xOp, xRd, xRs, xRt, xImm⟩ : gInstr) = (⟨yOp, yRd, yRs, yRt, yImm⟩ : gInstr))) := by
    simp [eqAgg, flatT, eqCells, gInstr.mk.injEq, Bool.decide_and, decide_eq_true_eq]
    try rfl
  simp only [bin, h, Option.map_some, bnot, eqD]
@[simp] theorem bineq_4 (a b : Bool) : bin T .eql 4 (.bool a) (.bool b) = some (.bool (beqb a b)) := rfl
@[simp] theorem binne_4 (a b : Bool) : bin T .neq 4 (.bool a) (.bool b) = some (.bool (bneb a b)) := rfl
@[simp] theorem conv_3_5 (k : IntKind) (n : Int) : convA T 3 5 (.int k n) = some (.int .u8 (iconv .u8 n)) := rfl
@[simp] theorem conv_3_21 (k : IntKind) (n : Int) : convA T 3 21 (.int k n) = some (.int .i32 (iconv .i32 n)) := rfl
@[simp] theorem conv_3_158 (k : IntKind) (n : Int) : convA T 3 158 (.int k n) = some (.int .u32 (iconv .u32 n)) := rfl
@[simp] theorem conv_5_3 (k : IntKind) (n : Int) : convA T 5 3 (.int k n) = some (.int .i64 (iconv .i64 n)) := rfl
@[simp] theorem conv_5_21 (k : IntKind) (n : Int) : convA T 5 21 (.int k n) = some (.int .i32 (iconv .i32 n)) := rfl
@[simp] theorem conv_5_158 (k : IntKind) (n : Int) : convA T 5 158 (.int k n) = some (.int .u32 (iconv .u32 n)) := rfl
@[simp] theorem conv_21_3 (k : IntKind) (n : Int) : convA T 21 3 (.int k n) = some (.int .i64 (iconv .i64 n)) := rfl
@[simp] theorem conv_21_5 (k : IntKind) (n : Int) : convA T 21 5 (.int k n) = some (.int .u8 (iconv .u8 n)) := rfl
@[simp] theorem conv_21_158 (k : IntKind) (n : Int) : convA T 21 158 (.int k n) = some (.int .u32 (iconv .u32 n)) := rfl
@[simp] theorem conv_158_3 (k : IntKind) (n : Int) : convA T 158 3 (.int k n) = some (.int .i64 (iconv .i64 n)) := rfl
@[simp] theorem conv_158_5 (k : IntKind) (n : Int) : convA T 158 5 (.int k n) = some (.int .u8 (iconv .u8 n)) := rfl
@[simp] theorem conv_158_21 (k : IntKind) (n : Int) : convA T 158 21 (.int k n) = some (.int .i32 (iconv .i32 n)) := rfl
@[simp] theorem len22 (l : List gInstr) : lenA T 22 (.fsl (encL rInstr l)) = some (.int .i64 (ilen l)) := lenA_fsl (e := 92) rfl rInstr l
@[simp] theorem leno22 (o r : Nat) (l : List gInstr) : lenA T 22 (.sl o r l.length) = some (.int .i64 (ilen l)) := lenA_sl (e := 92) rfl o r l
@[simp] theorem lenn22 : lenA T 22 .nilsl = some (.int .i64 0) := rfl
@[simp] theorem lene22 : lenA T 22 .esl = some (.int .i64 0) := rfl
@[simp] theorem src22 (σ : AHeap) (l : List gInstr) (z : List AV) (k : TK) : srcA ⟨5, 40, z, k⟩ σ (.fsl (encL rInstr l)) = some (encL rInstr l) := srcA_fsl (f := rInstr) (fun _ => rfl) σ l
@[simp] theorem srco22 {σ : AHeap} {o : Nat} {l : List gInstr} (z : List AV) (k : TK) (h : σ.objs o = some ⟨92, 5, encL rInstr l⟩) : srcA ⟨5, 40, z, k⟩ σ (.sl o 0 l.length) = some (encL rInstr l) := srcA_sl (ti := ⟨5, 40, z, k⟩) (fun _ => rfl) h
theorem ix22 {l : List gInstr} {i : Int} {v : gInstr} (h : idx l i = some v) (σ : AHeap) (k : IntKind) : indexAddrA T σ 22 (.fsl (encL rInstr l)) (.int k i) = some (.fptr (rInstr v) 0) := ixA_fsl (e := 92) rfl rfl (fun _ => rfl) h σ k
@[simp] theorem len24 (l : List Int) : lenA T 24 (.fsl (encL rI l)) = some (.int .i64 (ilen l)) := lenA_fsl (e := 3) rfl rI l
@[simp] theorem leno24 (o r : Nat) (l : List Int) : lenA T 24 (.sl o r l.length) = some (.int .i64 (ilen l)) := lenA_sl (e := 3) rfl o r l
@[simp] theorem lenn24 : lenA T 24 .nilsl = some (.int .i64 0) := rfl
@[simp] theorem lene24 : lenA T 24 .esl = some (.int .i64 0) := rfl
@[simp] theorem src24 (σ : AHeap) (l : List Int) (z : List AV) (k : TK) : srcA ⟨1, 8, z, k⟩ σ (.fsl (encL rI l)) = some (encL rI l) := srcA_fsl (f := rI) (fun _ => rfl) σ l
@[simp] theorem srco24 {σ : AHeap} {o : Nat} {l : List Int} (z : List AV) (k : TK) (h : σ.objs o = some ⟨3, 1, encL rI l⟩) : srcA ⟨1, 8, z, k⟩ σ (.sl o 0 l.length) = some (encL rI l) := srcA_sl (ti := ⟨1, 8, z, k⟩) (fun _ => rfl) h
theorem ix24 {l : List Int} {i : Int} {v : Int} (h : idx l i = some v) (σ : AHeap) (k : IntKind) : indexAddrA T σ 24 (.fsl (encL rI l)) (.int k i) = some (.fptr (rI v) 0) := ixA_fsl (e := 3) rfl rfl (fun _ => rfl) h σ k
theorem ixo24 {l : List Int} {i : Int} {v : Int} (h : idx l i = some v) {σ : AHeap} {o : Nat} (hs : (σ.objs o).map AObj.sz = some 1) (k : IntKind) : indexAddrA T σ 24 (.sl o 0 l.length) (.int k i) = some (.ptr o i.toNat 0) := ixA_sl (e := 3) rfl rfl h hs k
theorem app24 {l m r : List Int} (h : appx 8 l m = some r) {σ : AHeap} {o : Nat} {x : AV} (id : Nat) (ho : σ.objs o = some ⟨3, 1, encL rI l⟩) (hx : srcA ⟨1, 8, [.int .i64 0], .int .i64⟩ σ x = some (encL rI m)) :
    appendA T 24 id (.sl o 0 l.length) x σ = some (.sl id 0 r.length, (σ.kill o).put id ⟨3, 1, encL rI r⟩) := appA_sl (e := 3) rfl rfl (by decide) h id ho hx
theorem mak24 {n : Int} {r : List Int} (h : makex 8 n (0 : Int) = some r) (σ : AHeap) (id : Nat) (k k' : IntKind) : makeA T 24 false id (.int k n) (.int k' n) σ = some (.sl id 0 r.length, σ.put id ⟨3, 1, encL rI r⟩) := makA_sl (e := 3) (ti := ⟨1, 8, [.int .i64 0], .int .i64⟩) rfl rfl (by decide) (z := (0 : Int)) rfl h σ id k k'
@[simp] theorem len29 (l : List gInstr) : lenA T 29 (.fsl (encL rInstr l)) = some (.int .i64 (ilen l)) := lenA_fsl (e := 47) rfl rInstr l
@[simp] theorem leno29 (o r : Nat) (l : List gInstr) : lenA T 29 (.sl o r l.length) = some (.int .i64 (ilen l)) := lenA_sl (e := 47) rfl o r l
@[simp] theorem lenn29 : lenA T 29 .nilsl = some (.int .i64 0) := rfl
@[simp] theorem lene29 : lenA T 29 .esl = some (.int .i64 0) := rfl
@[simp] theorem src29 (σ : AHeap) (l : List gInstr) (z : List AV) (k : TK) : srcA ⟨5, 40, z, k⟩ σ (.fsl (encL rInstr l)) = some (encL rInstr l) := srcA_fsl (f := rInstr) (fun _ => rfl) σ l
@[simp] theorem srco29 {σ : AHeap} {o : Nat} {l : List gInstr} (z : List AV) (k : TK) (h : σ.objs o = some ⟨47, 5, encL rInstr l⟩) : srcA ⟨5, 40, z, k⟩ σ (.sl o 0 l.length) = some (encL rInstr l) := srcA_sl (ti := ⟨5, 40, z, k⟩) (fun _ => rfl) h
theorem ix29 {l : List gInstr} {i : Int} {v : gInstr} (h : idx l i = some v) (σ : AHeap) (k : IntKind) : indexAddrA T σ 29 (.fsl (encL rInstr l)) (.int k i) = some (.fptr (rInstr v) 0) := ixA_fsl (e := 47) rfl rfl (fun _ => rfl) h σ k
theorem ixo29 {l : List gInstr} {i : Int} {v : gInstr} (h : idx l i = some v) {σ : AHeap} {o : Nat} (hs : (σ.objs o).map AObj.sz = some 5) (k : IntKind) : indexAddrA T σ 29 (.sl o 0 l.length) (.int k i) = some (.ptr o i.toNat 0) := ixA_sl (e := 47) rfl rfl h hs k
theorem mak29 {n : Int} {r : List gInstr} (h : makex 40 n (⟨0, 0, 0, 0, 0⟩ : gInstr) = some r) (σ : AHeap) (id : Nat) (k k' : IntKind) : makeA T 29 false id (.int k n) (.int k' n) σ = some (.sl id 0 r.length, σ.put id ⟨47, 5, encL rInstr r⟩) := makA_sl (e := 47) (ti := ⟨5, 40, [.int .i64 0, .int .i64 0, .int .i64 0, .int .i64 0, .int .i64 0], .struct [(0, 3), (1, 3), (2, 3), (3, 3), (4, 3)]⟩) rfl rfl (by decide) (z := (⟨0, 0, 0, 0, 0⟩ : gInstr)) rfl h σ id k k'
@[simp] theorem len69 (l : List (List gInstr)) : lenA T 69 (.fsl (encL rL_Instr l)) = some (.int .i64 (ilen l)) := lenA_fsl (e := 22) rfl rL_Instr l
@[simp] theorem leno69 (o r : Nat) (l : List (List gInstr)) : lenA T 69 (.sl o r l.length) = some (.int .i64 (ilen l)) := lenA_sl (e := 22) rfl o r l
@[simp] theorem lenn69 : lenA T 69 .nilsl = some (.int .i64 0) := rfl
@[simp] theorem lene69 : lenA T 69 .esl = some (.int .i64 0) := rfl
@[simp] theorem src69 (σ : AHeap) (l : List (List gInstr)) (z : List AV) (k : TK) : srcA ⟨1, 24, z, k⟩ σ (.fsl (encL rL_Instr l)) = some (encL rL_Instr l) := srcA_fsl (f := rL_Instr) (fun _ => rfl) σ l
@[simp] theorem srco69 {σ : AHeap} {o : Nat} {l : List (List gInstr)} (z : List AV) (k : TK) (h : σ.objs o = some ⟨22, 1, encL rL_Instr l⟩) : srcA ⟨1, 24, z, k⟩ σ (.sl o 0 l.length) = some (encL rL_Instr l) := srcA_sl (ti := ⟨1, 24, z, k⟩) (fun _ => rfl) h
@[simp] theorem len71 (l : List gMachine) : lenA T 71 (.fsl (encL rMachine l)) = some (.int .i64 (ilen l)) := lenA_fsl (e := 26) rfl rMachine l
@[simp] theorem leno71 (o r : Nat) (l : List gMachine) : lenA T 71 (.sl o r l.length) = some (.int .i64 (ilen l)) := lenA_sl (e := 26) rfl o r l
@[simp] theorem lenn71 : lenA T 71 .nilsl = some (.int .i64 0) := rfl
@[simp] theorem lene71 : lenA T 71 .esl = some (.int .i64 0) := rfl
@[simp] theorem src71 (σ : AHeap) (l : List gMachine) (z : List AV) (k : TK) : srcA ⟨3, 56, z, k⟩ σ (.fsl (encL rMachine l)) = some (encL rMachine l) := srcA_fsl (f := rMachine) (fun _ => rfl) σ l
@[simp] theorem srco71 {σ : AHeap} {o : Nat} {l : List gMachine} (z : List AV) (k : TK) (h : σ.objs o = some ⟨26, 3, encL rMachine l⟩) : srcA ⟨3, 56, z, k⟩ σ (.sl o 0 l.length) = some (encL rMachine l) := srcA_sl (ti := ⟨3, 56, z, k⟩) (fun _ => rfl) h
@[simp] theorem len72 (l : List gBox) : lenA T 72 (.fsl (encL rBox l)) = some (.int .i64 (ilen l)) := lenA_fsl (e := 153) rfl rBox l
@[simp] theorem leno72 (o r : Nat) (l : List gBox) : lenA T 72 (.sl o r l.length) = some (.int .i64 (ilen l)) := lenA_sl (e := 153) rfl o r l
@[simp] theorem lenn72 : lenA T 72 .nilsl = some (.int .i64 0) := rfl
@[simp] theorem lene72 : lenA T 72 .esl = some (.int .i64 0) := rfl
@[simp] theorem src72 (σ : AHeap) (l : List gBox) (z : List AV) (k : TK) : srcA ⟨2, 32, z, k⟩ σ (.fsl (encL rBox l)) = some (encL rBox l) := srcA_fsl (f := rBox) (fun _ => rfl) σ l
@[simp] theorem srco72 {σ : AHeap} {o : Nat} {l : List gBox} (z : List AV) (k : TK) (h : σ.objs o = some ⟨153, 2, encL rBox l⟩) : srcA ⟨2, 32, z, k⟩ σ (.sl o 0 l.length) = some (encL rBox l) := srcA_sl (ti := ⟨2, 32, z, k⟩) (fun _ => rfl) h
@[simp] theorem len78 (l : List (List gInstr)) : lenA T 78 (.fsl (encL rL_Instr l)) = some (.int .i64 (ilen l)) := lenA_fsl (e := 29) rfl rL_Instr l
@[simp] theorem leno78 (o r : Nat) (l : List (List gInstr)) : lenA T 78 (.sl o r l.length) = some (.int .i64 (ilen l)) := lenA_sl (e := 29) rfl o r l
@[simp] theorem lenn78 : lenA T 78 .nilsl = some (.int .i64 0) := rfl
@[simp] theorem lene78 : lenA T 78 .esl = some (.int .i64 0) := rfl
@[simp] theorem src78 (σ : AHeap) (l : List (List gInstr)) (z : List AV) (k : TK) : srcA ⟨1, 24, z, k⟩ σ (.fsl (encL rL_Instr l)) = some (encL rL_Instr l) := srcA_fsl (f := rL_Instr) (fun _ => rfl) σ l
@[simp] theorem srco78 {σ : AHeap} {o : Nat} {l : List (List gInstr)} (z : List AV) (k : TK) (h : σ.objs o = some ⟨29, 1, encL rL_Instr l⟩) : srcA ⟨1, 24, z, k⟩ σ (.sl o 0 l.length) = some (encL rL_Instr l) := srcA_sl (ti := ⟨1, 24, z, k⟩) (fun _ => rfl) h
theorem gx142 {l : List gInstrRow} {i : Int} {v : gInstrRow} (h : idx l i = some v) (σ : AHeap) (k : IntKind) (hn : l.length = 21 := by rfl) : indexAddrA T σ 142 (.fptr (gR rInstrRow l) 0) (.int k i) = some (.fptr (rInstrRow v) 0) := gixR (e := 141) rfl rfl (fun _ => rfl) hn h σ k
theorem appz24_3 {l r : List Int} {n : Int} (h : appzx 8 l n 0 = some r) {σ : AHeap} {o : Nat} {kx : IntKind} (id : Nat) (ho : σ.objs o = some ⟨3, 1, encL rI l⟩) : appendZ T 24 3 id (.sl o 0 l.length) (.int kx n) σ = some (.sl id 0 r.length, (σ.kill o).put id ⟨3, 1, encL rI r⟩) := appZ_sl (e := 3) (f := rI) (z := 0) (ti := ⟨1, 8, [.int .i64 0], .int .i64⟩) rfl rfl rfl rfl (by decide) h id ho
theorem nf_rI (n : Nat) (x : Int) : ((rI x).all (AV.nf (n + 1))) = true := by simp [AV.nf, AV.simp1]
def rBox_o (x : gBox) : List AV := [.int .i64 x.Room, .osl 3 1 (encL rI x.Items)]
@[simp] theorem rBox_o_eq (x : gBox) : rBox_o x = [.int .i64 x.Room, .osl 3 1 (encL rI x.Items)] := rfl
@[simp] theorem thawm_rBox_o {D : Nat → Bool} {σ : AHeap} {d : Nat} (l : List gBox) : (encL rBox_o l).map (fun e => e.map (thawA D σ (d + 1))) = encL rBox l := by
  simp only [encL, List.map_map]
  refine List.map_congr_left fun x _ => ?_
  simp [thawA]
@[simp] theorem len_rBox_o (x : gBox) : (rBox_o x).length = 2 := rfl
def rL_Instr_o (x : (List gInstr)) : List AV := [.osl 47 5 (encL rInstr x)]
@[simp] theorem rL_Instr_o_eq (x : (List gInstr)) : rL_Instr_o x = [.osl 47 5 (encL rInstr x)] := rfl
@[simp] theorem thawm_rL_Instr_o {D : Nat → Bool} {σ : AHeap} {d : Nat} (l : List (List gInstr)) : (encL rL_Instr_o l).map (fun e => e.map (thawA D σ (d + 1))) = encL rL_Instr l := by
  simp only [encL, List.map_map]
  refine List.map_congr_left fun x _ => ?_
  simp [thawA]
@[simp] theorem len_rL_Instr_o (x : (List gInstr)) : (rL_Instr_o x).length = 1 := rfl
def rMachine_of (x : gMachine) : List AV := [.osl 3 1 (encL rI x.Regs), .int .i64 x.Pc, .fsl (encL rI x.Mem)]
@[simp] theorem rMachine_of_eq (x : gMachine) : rMachine_of x = [.osl 3 1 (encL rI x.Regs), .int .i64 x.Pc, .fsl (encL rI x.Mem)] := rfl
@[simp] theorem len_rMachine_of (x : gMachine) : (rMachine_of x).length = 3 := rfl
def rMachine_oo (x : gMachine) : List AV := [.osl 3 1 (encL rI x.Regs), .int .i64 x.Pc, .osl 3 1 (encL rI x.Mem)]
@[simp] theorem rMachine_oo_eq (x : gMachine) : rMachine_oo x = [.osl 3 1 (encL rI x.Regs), .int .i64 x.Pc, .osl 3 1 (encL rI x.Mem)] := rfl
@[simp] theorem thawm_rMachine_oo {D : Nat → Bool} {σ : AHeap} {d : Nat} (l : List gMachine) : (encL rMachine_oo l).map (fun e => e.map (thawA D σ (d + 1))) = encL rMachine l := by
  simp only [encL, List.map_map]
  refine List.map_congr_left fun x _ => ?_
  simp [thawA]
@[simp] theorem len_rMachine_oo (x : gMachine) : (rMachine_oo x).length = 3 := rfl
end Go.Proofs.YtoklfbdcghgmlaaDoor
