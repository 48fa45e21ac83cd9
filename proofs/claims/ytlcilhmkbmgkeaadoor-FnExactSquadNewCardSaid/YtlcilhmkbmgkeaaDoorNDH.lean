/- Words of the proof: DH. No conditions. -/
import Derived.Test.YtlcilhmkbmgkeaaDoorNDR0
import Derived.Test.YtlcilhmkbmgkeaaDoorProg
import Derived.KernelRfl
set_option linter.unusedSimpArgs false
set_option linter.unusedVariables false
set_option maxRecDepth 20000
namespace Go.Proofs.YtlcilhmkbmgkeaaDoor
open Go Go.Abs Go.RowKit

def T : Types := fun t =>
 match t with
 | 3 => some ⟨1, 8, [.int .i64 0], .int .i64⟩ -- int
 | 4 => some ⟨1, 1, [.bool false], .bool⟩ -- bool
 | 5 => some ⟨1, 1, [.int .u8 0], .int .u8⟩ -- uint8
 | 9 => some ⟨1, 16, [.str emptyS], .str⟩ -- string
 | 21 => some ⟨1, 4, [.int .i32 0], .int .i32⟩ -- int32
 | 22 => some ⟨1, 24, [.nilsl], .slice 3⟩ -- []int
 | 23 => some ⟨1, 24, [.nilsl], .slice 60⟩ -- [][]laws.Instr
 | 25 => some ⟨1, 24, [.nilsl], .slice 53⟩ -- []impl.Machine
 | 26 => some ⟨1, 24, [.nilsl], .slice 86⟩ -- []impl.Box
 | 28 => some ⟨5, 88, [.nilsl, .nilsl, .int .i64 0, .int .i64 0, .nilsl], .struct [(0, 25), (1, 26), (2, 3), (3, 3), (4, 22)]⟩ -- impl.Squad
 | 32 => some ⟨1, 24, [.nilsl], .slice 46⟩ -- [][]impl.Instr
 | 46 => some ⟨1, 24, [.nilsl], .slice 78⟩ -- []impl.Instr
 | 53 => some ⟨3, 56, [.nilsl, .int .i64 0, .nilsl], .struct [(0, 22), (1, 3), (2, 22)]⟩ -- impl.Machine
 | 60 => some ⟨1, 24, [.nilsl], .slice 90⟩ -- []laws.Instr
 | 78 => some ⟨5, 40, [.int .i64 0, .int .i64 0, .int .i64 0, .int .i64 0, .int .i64 0], .struct [(0, 3), (1, 3), (2, 3), (3, 3), (4, 3)]⟩ -- impl.Instr
 | 86 => some ⟨2, 32, [.int .i64 0, .nilsl], .struct [(0, 3), (1, 22)]⟩ -- impl.Box
 | 90 => some ⟨5, 40, [.int .i64 0, .int .i64 0, .int .i64 0, .int .i64 0, .int .i64 0], .struct [(0, 3), (1, 3), (2, 3), (3, 3), (4, 3)]⟩ -- laws.Instr
 | 118 => some ⟨4, 40, [.str emptyS, .int .i64 0, .int .i64 0, .int .i64 0], .struct [(0, 9), (1, 3), (2, 3), (3, 3)]⟩ -- impl.instrRow
 | 119 => some ⟨84, 840, [.str emptyS, .int .i64 0, .int .i64 0, .int .i64 0, .str emptyS, .int .i64 0, .int .i64 0, .int .i64 0, .str emptyS, .int .i64 0, .int .i64 0, .int .i64 0, .str emptyS, .int .i64 0, .int .i64 0, .int .i64 0, .str emptyS, .int .i64 0, .int .i64 0, .int .i64 0, .str emptyS, .int .i64 0, .int .i64 0, .int .i64 0, .str emptyS, .int .i64 0, .int .i64 0, .int .i64 0, .str emptyS, .int .i64 0, .int .i64 0, .int .i64 0, .str emptyS, .int .i64 0, .int .i64 0, .int .i64 0, .str emptyS, .int .i64 0, .int .i64 0, .int .i64 0, .str emptyS, .int .i64 0, .int .i64 0, .int .i64 0, .str emptyS, .int .i64 0, .int .i64 0, .int .i64 0, .str emptyS, .int .i64 0, .int .i64 0, .int .i64 0, .str emptyS, .int .i64 0, .int .i64 0, .int .i64 0, .str emptyS, .int .i64 0, .int .i64 0, .int .i64 0, .str emptyS, .int .i64 0, .int .i64 0, .int .i64 0, .str emptyS, .int .i64 0, .int .i64 0, .int .i64 0, .str emptyS, .int .i64 0, .int .i64 0, .int .i64 0, .str emptyS, .int .i64 0, .int .i64 0, .int .i64 0, .str emptyS, .int .i64 0, .int .i64 0, .int .i64 0, .str emptyS, .int .i64 0, .int .i64 0, .int .i64 0], .array 21 118⟩ -- [21]impl.instrRow
 | 133 => some ⟨1, 4, [.int .u32 0], .int .u32⟩ -- uint32
 | _ => none

@[simp] theorem T_3 : T 3 = some ⟨1, 8, [.int .i64 0], .int .i64⟩ := rfl
@[simp] theorem T_4 : T 4 = some ⟨1, 1, [.bool false], .bool⟩ := rfl
@[simp] theorem T_5 : T 5 = some ⟨1, 1, [.int .u8 0], .int .u8⟩ := rfl
@[simp] theorem T_9 : T 9 = some ⟨1, 16, [.str emptyS], .str⟩ := rfl
@[simp] theorem T_21 : T 21 = some ⟨1, 4, [.int .i32 0], .int .i32⟩ := rfl
@[simp] theorem T_22 : T 22 = some ⟨1, 24, [.nilsl], .slice 3⟩ := rfl
@[simp] theorem T_23 : T 23 = some ⟨1, 24, [.nilsl], .slice 60⟩ := rfl
@[simp] theorem T_25 : T 25 = some ⟨1, 24, [.nilsl], .slice 53⟩ := rfl
@[simp] theorem T_26 : T 26 = some ⟨1, 24, [.nilsl], .slice 86⟩ := rfl
@[simp] theorem T_28 : T 28 = some ⟨5, 88, [.nilsl, .nilsl, .int .i64 0, .int .i64 0, .nilsl], .struct [(0, 25), (1, 26), (2, 3), (3, 3), (4, 22)]⟩ := rfl
@[simp] theorem T_32 : T 32 = some ⟨1, 24, [.nilsl], .slice 46⟩ := rfl
@[simp] theorem T_46 : T 46 = some ⟨1, 24, [.nilsl], .slice 78⟩ := rfl
@[simp] theorem T_53 : T 53 = some ⟨3, 56, [.nilsl, .int .i64 0, .nilsl], .struct [(0, 22), (1, 3), (2, 22)]⟩ := rfl
@[simp] theorem T_60 : T 60 = some ⟨1, 24, [.nilsl], .slice 90⟩ := rfl
@[simp] theorem T_78 : T 78 = some ⟨5, 40, [.int .i64 0, .int .i64 0, .int .i64 0, .int .i64 0, .int .i64 0], .struct [(0, 3), (1, 3), (2, 3), (3, 3), (4, 3)]⟩ := rfl
@[simp] theorem T_86 : T 86 = some ⟨2, 32, [.int .i64 0, .nilsl], .struct [(0, 3), (1, 22)]⟩ := rfl
@[simp] theorem T_90 : T 90 = some ⟨5, 40, [.int .i64 0, .int .i64 0, .int .i64 0, .int .i64 0, .int .i64 0], .struct [(0, 3), (1, 3), (2, 3), (3, 3), (4, 3)]⟩ := rfl
@[simp] theorem T_118 : T 118 = some ⟨4, 40, [.str emptyS, .int .i64 0, .int .i64 0, .int .i64 0], .struct [(0, 9), (1, 3), (2, 3), (3, 3)]⟩ := rfl
@[simp] theorem T_119 : T 119 = some ⟨84, 840, [.str emptyS, .int .i64 0, .int .i64 0, .int .i64 0, .str emptyS, .int .i64 0, .int .i64 0, .int .i64 0, .str emptyS, .int .i64 0, .int .i64 0, .int .i64 0, .str emptyS, .int .i64 0, .int .i64 0, .int .i64 0, .str emptyS, .int .i64 0, .int .i64 0, .int .i64 0, .str emptyS, .int .i64 0, .int .i64 0, .int .i64 0, .str emptyS, .int .i64 0, .int .i64 0, .int .i64 0, .str emptyS, .int .i64 0, .int .i64 0, .int .i64 0, .str emptyS, .int .i64 0, .int .i64 0, .int .i64 0, .str emptyS, .int .i64 0, .int .i64 0, .int .i64 0, .str emptyS, .int .i64 0, .int .i64 0, .int .i64 0, .str emptyS, .int .i64 0, .int .i64 0, .int .i64 0, .str emptyS, .int .i64 0, .int .i64 0, .int .i64 0, .str emptyS, .int .i64 0, .int .i64 0, .int .i64 0, .str emptyS, .int .i64 0, .int .i64 0, .int .i64 0, .str emptyS, .int .i64 0, .int .i64 0, .int .i64 0, .str emptyS, .int .i64 0, .int .i64 0, .int .i64 0, .str emptyS, .int .i64 0, .int .i64 0, .int .i64 0, .str emptyS, .int .i64 0, .int .i64 0, .int .i64 0, .str emptyS, .int .i64 0, .int .i64 0, .int .i64 0, .str emptyS, .int .i64 0, .int .i64 0, .int .i64 0], .array 21 118⟩ := rfl
@[simp] theorem T_133 : T 133 = some ⟨1, 4, [.int .u32 0], .int .u32⟩ := rfl
theorem tok : TOk Tryd.prog T := by
 intro t i h
 unfold T at h
 split at h <;> first | (cases h; done) | skip
 all_goals (cases h; refine ⟨by kernel_rfl, by kernel_rfl, by kernel_rfl, by kernel_rfl, by kernel_rfl⟩)
theorem tokM : Tryd.prog.follows .mixedOrders = true := by kernel_rfl
def G : Globs := fun g => match g with
 | 1 => some (gR rInstrRow instrTab)
 | _ => none
@[simp] theorem G_1 : G 1 = some (gR rInstrRow instrTab) := rfl
@[simp] theorem bin_ii (op : BinOp) (t : TypeId) (k : IntKind) (a b : Int) : bin T op t (.int k a) (.int k b) = ibin op k a b := by simp [bin]
@[simp] theorem bin_shl (t : TypeId) (k k' : IntKind) (a b : Int) : bin T .shl t (.int k a) (.int k' b) = ibin .shl k a b := by simp [bin]
@[simp] theorem bin_shr (t : TypeId) (k k' : IntKind) (a b : Int) : bin T .shr t (.int k a) (.int k' b) = ibin .shr k a b := by simp [bin]
@[simp ↓] theorem sueq_78 (xOp xRd xRs xRt xImm yOp yRd yRs yRt yImm : Int) : bin T .eql 78 (.agg [.int .i64 xOp, .int .i64 xRd, .int .i64 xRs, .int .i64 xRt, .int .i64 xImm]) (.agg [.int .i64 yOp, .int .i64 yRd, .int .i64 yRs, .int .i64 yRt, .int .i64 yImm]) = some (.bool (eqD (⟨xOp, xRd, xRs, xRt, xImm⟩ : gInstr) (⟨yOp, yRd, yRs, yRt, yImm⟩ : gInstr))) := by
 have h : eqAgg T 78 [.int .i64 xOp, .int .i64 xRd, .int .i64 xRs, .int .i64 xRt, .int .i64 xImm] [.int .i64 yOp, .int .i64 yRd, .int .i64 yRs, .int .i64 yRt, .int .i64 yImm] = some (decide ((⟨xOp, xRd, xRs, xRt, xImm⟩ : gInstr) = (⟨yOp, yRd, yRs, yRt, yImm⟩ : gInstr))) := by
  simp [eqAgg, flatT, eqCells, gInstr.mk.injEq, Bool.decide_and, decide_eq_true_eq]
  try rfl
 simp only [bin, h, Option.map_some, bnot, eqD]
@[simp ↓] theorem sune_78 (xOp xRd xRs xRt xImm yOp yRd yRs yRt yImm : Int) : bin T .neq 78 (.agg [.int .i64 xOp, .int .i64 xRd, .int .i64 xRs, .int .i64 xRt, .int .i64 xImm]) (.agg [.int .i64 yOp, .int .i64 yRd, .int .i64 yRs, .int .i64 yRt, .int .i64 yImm]) = some (.bool (bnot (eqD (⟨xOp, xRd, xRs, xRt, xImm⟩ : gInstr) (⟨yOp, yRd, yRs, yRt, yImm⟩ : gInstr)))) := by
 have h : eqAgg T 78 [.int .i64 xOp, .int .i64 xRd, .int .i64 xRs, .int .i64 xRt, .int .i64 xImm] [.int .i64 yOp, .int .i64 yRd, .int .i64 yRs, .int .i64 yRt, .int .i64 yImm] = some (decide ((⟨xOp, xRd, xRs, xRt, xImm⟩ : gInstr) = (⟨yOp, yRd, yRs, yRt, yImm⟩ : gInstr))) := by
  simp [eqAgg, flatT, eqCells, gInstr.mk.injEq, Bool.decide_and, decide_eq_true_eq]
  try rfl
 simp only [bin, h, Option.map_some, bnot, eqD]
@[simp ↓] theorem sueq_90 (xOp xRd xRs xRt xImm yOp yRd yRs yRt yImm : Int) : bin T .eql 90 (.agg [.int .i64 xOp, .int .i64 xRd, .int .i64 xRs, .int .i64 xRt, .int .i64 xImm]) (.agg [.int .i64 yOp, .int .i64 yRd, .int .i64 yRs, .int .i64 yRt, .int .i64 yImm]) = some (.bool (eqD (⟨xOp, xRd, xRs, xRt, xImm⟩ : gInstr) (⟨yOp, yRd, yRs, yRt, yImm⟩ : gInstr))) := by
 have h : eqAgg T 90 [.int .i64 xOp, .int .i64 xRd, .int .i64 xRs, .int .i64 xRt, .int .i64 xImm] [.int .i64 yOp, .int .i64 yRd, .int .i64 yRs, .int .i64 yRt, .int .i64 yImm] = some (decide ((⟨xOp, xRd, xRs, xRt, xImm⟩ : gInstr) = (⟨yOp, yRd, yRs, yRt, yImm⟩ : gInstr))) := by
  simp [eqAgg, flatT, eqCells, gInstr.mk.injEq, Bool.decide_and, decide_eq_true_eq]
  try rfl
 simp only [bin, h, Option.map_some, bnot, eqD]
@[simp ↓] theorem sune_90 (xOp xRd xRs xRt xImm yOp yRd yRs yRt yImm : Int) : bin T .neq 90 (.agg [.int .i64 xOp, .int .i64 xRd, .int .i64 xRs, .int .i64 xRt, .int .i64 xImm]) (.agg [.int .i64 yOp, .int .i64 yRd, .int .i64 yRs, .int .i64 yRt, .int .i64 yImm]) = some (.bool (bnot (eqD (⟨xOp, xRd, xRs, xRt, xImm⟩ : gInstr) (⟨yOp, yRd, yRs, yRt, yImm⟩ : gInstr)))) := by
 have h : eqAgg T 90 [.int .i64 xOp, .int .i64 xRd, .int .i64 xRs, .int .i64 xRt, .int .i64 xImm] [.int .i64 yOp, .int .i64 yRd, .int .i64 yRs, .int .i64 yRt, .int .i64 yImm] = some (decide ((⟨xOp, xRd, xRs, xRt, xImm⟩ : gInstr) = (⟨yOp, yRd, yRs, yRt, yImm⟩ : gInstr))) := by
  simp [eqAgg, flatT, eqCells, gInstr.mk.injEq, Bool.decide_and, decide_eq_true_eq]
  try rfl
 simp only [bin, h, Option.map_some, bnot, eqD]
@[simp] theorem bineq_4 (a b : Bool) : bin T .eql 4 (.bool a) (.bool b) = some (.bool (beqb a b)) := rfl
@[simp] theorem binne_4 (a b : Bool) : bin T .neq 4 (.bool a) (.bool b) = some (.bool (bneb a b)) := rfl
@[simp] theorem conv_3_5 (k : IntKind) (n : Int) : convA T 3 5 (.int k n) = some (.int .u8 (iconv .u8 n)) := rfl
@[simp] theorem conv_3_133 (k : IntKind) (n : Int) : convA T 3 133 (.int k n) = some (.int .u32 (iconv .u32 n)) := rfl
@[simp] theorem conv_3_21 (k : IntKind) (n : Int) : convA T 3 21 (.int k n) = some (.int .i32 (iconv .i32 n)) := rfl
@[simp] theorem conv_5_3 (k : IntKind) (n : Int) : convA T 5 3 (.int k n) = some (.int .i64 (iconv .i64 n)) := rfl
@[simp] theorem conv_5_133 (k : IntKind) (n : Int) : convA T 5 133 (.int k n) = some (.int .u32 (iconv .u32 n)) := rfl
@[simp] theorem conv_5_21 (k : IntKind) (n : Int) : convA T 5 21 (.int k n) = some (.int .i32 (iconv .i32 n)) := rfl
@[simp] theorem conv_133_3 (k : IntKind) (n : Int) : convA T 133 3 (.int k n) = some (.int .i64 (iconv .i64 n)) := rfl
@[simp] theorem conv_133_5 (k : IntKind) (n : Int) : convA T 133 5 (.int k n) = some (.int .u8 (iconv .u8 n)) := rfl
@[simp] theorem conv_133_21 (k : IntKind) (n : Int) : convA T 133 21 (.int k n) = some (.int .i32 (iconv .i32 n)) := rfl
@[simp] theorem conv_21_3 (k : IntKind) (n : Int) : convA T 21 3 (.int k n) = some (.int .i64 (iconv .i64 n)) := rfl
@[simp] theorem conv_21_5 (k : IntKind) (n : Int) : convA T 21 5 (.int k n) = some (.int .u8 (iconv .u8 n)) := rfl
@[simp] theorem conv_21_133 (k : IntKind) (n : Int) : convA T 21 133 (.int k n) = some (.int .u32 (iconv .u32 n)) := rfl
@[simp] theorem len22 (l : List Int) : lenA T 22 (.fsl (encL rI l)) = some (.int .i64 (ilen l)) := lenA_fsl (e := 3) rfl rI l
@[simp] theorem leno22 (o r : Nat) (l : List Int) : lenA T 22 (.sl o r l.length) = some (.int .i64 (ilen l)) := lenA_sl (e := 3) rfl o r l
@[simp] theorem lenn22 : lenA T 22 .nilsl = some (.int .i64 0) := rfl
@[simp] theorem lene22 : lenA T 22 .esl = some (.int .i64 0) := rfl
@[simp] theorem src22 (σ : AHeap) (l : List Int) (z : List AV) (k : TK) : srcA ⟨1, 8, z, k⟩ σ (.fsl (encL rI l)) = some (encL rI l) := srcA_fsl (f := rI) (fun _ => rfl) σ l
@[simp] theorem srco22 {σ : AHeap} {o : Nat} {l : List Int} (z : List AV) (k : TK) (h : σ.objs o = some ⟨3, 1, encL rI l⟩) : srcA ⟨1, 8, z, k⟩ σ (.sl o 0 l.length) = some (encL rI l) := srcA_sl (ti := ⟨1, 8, z, k⟩) (fun _ => rfl) h
theorem ix22 {l : List Int} {i : Int} {v : Int} (h : idx l i = some v) (σ : AHeap) (k : IntKind) : indexAddrA T σ 22 (.fsl (encL rI l)) (.int k i) = some (.fptr (rI v) 0) := ixA_fsl (e := 3) rfl rfl (fun _ => rfl) h σ k
theorem ixo22 {l : List Int} {i : Int} {v : Int} (h : idx l i = some v) {σ : AHeap} {o : Nat} (hs : (σ.objs o).map AObj.sz = some 1) (k : IntKind) : indexAddrA T σ 22 (.sl o 0 l.length) (.int k i) = some (.ptr o i.toNat 0) := ixA_sl (e := 3) rfl rfl h hs k
theorem app22 {l m r : List Int} (h : appx 8 l m = some r) {σ : AHeap} {o : Nat} {x : AV} (id : Nat) (ho : σ.objs o = some ⟨3, 1, encL rI l⟩) (hx : srcA ⟨1, 8, [.int .i64 0], .int .i64⟩ σ x = some (encL rI m)) :
  appendA T 22 id (.sl o 0 l.length) x σ = some (.sl id 0 r.length, (σ.kill o).put id ⟨3, 1, encL rI r⟩) := appA_sl (e := 3) rfl rfl (by decide) h id ho hx
theorem mak22 {n : Int} {r : List Int} (h : makex 8 n (0 : Int) = some r) (σ : AHeap) (id : Nat) (k k' : IntKind) : makeA T 22 false id (.int k n) (.int k' n) σ = some (.sl id 0 r.length, σ.put id ⟨3, 1, encL rI r⟩) := makA_sl (e := 3) (ti := ⟨1, 8, [.int .i64 0], .int .i64⟩) rfl rfl (by decide) (z := (0 : Int)) rfl h σ id k k'
@[simp] theorem len23 (l : List (List gInstr)) : lenA T 23 (.fsl (encL rL_Instr l)) = some (.int .i64 (ilen l)) := lenA_fsl (e := 60) rfl rL_Instr l
@[simp] theorem leno23 (o r : Nat) (l : List (List gInstr)) : lenA T 23 (.sl o r l.length) = some (.int .i64 (ilen l)) := lenA_sl (e := 60) rfl o r l
@[simp] theorem lenn23 : lenA T 23 .nilsl = some (.int .i64 0) := rfl
@[simp] theorem lene23 : lenA T 23 .esl = some (.int .i64 0) := rfl
@[simp] theorem src23 (σ : AHeap) (l : List (List gInstr)) (z : List AV) (k : TK) : srcA ⟨1, 24, z, k⟩ σ (.fsl (encL rL_Instr l)) = some (encL rL_Instr l) := srcA_fsl (f := rL_Instr) (fun _ => rfl) σ l
@[simp] theorem srco23 {σ : AHeap} {o : Nat} {l : List (List gInstr)} (z : List AV) (k : TK) (h : σ.objs o = some ⟨60, 1, encL rL_Instr l⟩) : srcA ⟨1, 24, z, k⟩ σ (.sl o 0 l.length) = some (encL rL_Instr l) := srcA_sl (ti := ⟨1, 24, z, k⟩) (fun _ => rfl) h
theorem ix23 {l : List (List gInstr)} {i : Int} {v : (List gInstr)} (h : idx l i = some v) (σ : AHeap) (k : IntKind) : indexAddrA T σ 23 (.fsl (encL rL_Instr l)) (.int k i) = some (.fptr (rL_Instr v) 0) := ixA_fsl (e := 60) rfl rfl (fun _ => rfl) h σ k
@[simp] theorem len25 (l : List gMachine) : lenA T 25 (.fsl (encL rMachine l)) = some (.int .i64 (ilen l)) := lenA_fsl (e := 53) rfl rMachine l
@[simp] theorem leno25 (o r : Nat) (l : List gMachine) : lenA T 25 (.sl o r l.length) = some (.int .i64 (ilen l)) := lenA_sl (e := 53) rfl o r l
@[simp] theorem lenn25 : lenA T 25 .nilsl = some (.int .i64 0) := rfl
@[simp] theorem lene25 : lenA T 25 .esl = some (.int .i64 0) := rfl
@[simp] theorem src25 (σ : AHeap) (l : List gMachine) (z : List AV) (k : TK) : srcA ⟨3, 56, z, k⟩ σ (.fsl (encL rMachine l)) = some (encL rMachine l) := srcA_fsl (f := rMachine) (fun _ => rfl) σ l
@[simp] theorem srco25 {σ : AHeap} {o : Nat} {l : List gMachine} (z : List AV) (k : TK) (h : σ.objs o = some ⟨53, 3, encL rMachine l⟩) : srcA ⟨3, 56, z, k⟩ σ (.sl o 0 l.length) = some (encL rMachine l) := srcA_sl (ti := ⟨3, 56, z, k⟩) (fun _ => rfl) h
theorem ix25 {l : List gMachine} {i : Int} {v : gMachine} (h : idx l i = some v) (σ : AHeap) (k : IntKind) : indexAddrA T σ 25 (.fsl (encL rMachine l)) (.int k i) = some (.fptr (rMachine v) 0) := ixA_fsl (e := 53) rfl rfl (fun _ => rfl) h σ k
theorem ixo25 {l : List gMachine} {i : Int} {v : gMachine} (h : idx l i = some v) {σ : AHeap} {o : Nat} (hs : (σ.objs o).map AObj.sz = some 3) (k : IntKind) : indexAddrA T σ 25 (.sl o 0 l.length) (.int k i) = some (.ptr o i.toNat 0) := ixA_sl (e := 53) rfl rfl h hs k
theorem app25 {l m r : List gMachine} (h : appx 56 l m = some r) {σ : AHeap} {o : Nat} {x : AV} (id : Nat) (ho : σ.objs o = some ⟨53, 3, encL rMachine l⟩) (hx : srcA ⟨3, 56, [.nilsl, .int .i64 0, .nilsl], .struct [(0, 22), (1, 3), (2, 22)]⟩ σ x = some (encL rMachine m)) :
  appendA T 25 id (.sl o 0 l.length) x σ = some (.sl id 0 r.length, (σ.kill o).put id ⟨53, 3, encL rMachine r⟩) := appA_sl (e := 53) rfl rfl (by decide) h id ho hx
@[simp] theorem len26 (l : List gBox) : lenA T 26 (.fsl (encL rBox l)) = some (.int .i64 (ilen l)) := lenA_fsl (e := 86) rfl rBox l
@[simp] theorem leno26 (o r : Nat) (l : List gBox) : lenA T 26 (.sl o r l.length) = some (.int .i64 (ilen l)) := lenA_sl (e := 86) rfl o r l
@[simp] theorem lenn26 : lenA T 26 .nilsl = some (.int .i64 0) := rfl
@[simp] theorem lene26 : lenA T 26 .esl = some (.int .i64 0) := rfl
@[simp] theorem src26 (σ : AHeap) (l : List gBox) (z : List AV) (k : TK) : srcA ⟨2, 32, z, k⟩ σ (.fsl (encL rBox l)) = some (encL rBox l) := srcA_fsl (f := rBox) (fun _ => rfl) σ l
@[simp] theorem srco26 {σ : AHeap} {o : Nat} {l : List gBox} (z : List AV) (k : TK) (h : σ.objs o = some ⟨86, 2, encL rBox l⟩) : srcA ⟨2, 32, z, k⟩ σ (.sl o 0 l.length) = some (encL rBox l) := srcA_sl (ti := ⟨2, 32, z, k⟩) (fun _ => rfl) h
theorem ix26 {l : List gBox} {i : Int} {v : gBox} (h : idx l i = some v) (σ : AHeap) (k : IntKind) : indexAddrA T σ 26 (.fsl (encL rBox l)) (.int k i) = some (.fptr (rBox v) 0) := ixA_fsl (e := 86) rfl rfl (fun _ => rfl) h σ k
theorem ixo26 {l : List gBox} {i : Int} {v : gBox} (h : idx l i = some v) {σ : AHeap} {o : Nat} (hs : (σ.objs o).map AObj.sz = some 2) (k : IntKind) : indexAddrA T σ 26 (.sl o 0 l.length) (.int k i) = some (.ptr o i.toNat 0) := ixA_sl (e := 86) rfl rfl h hs k
theorem app26 {l m r : List gBox} (h : appx 32 l m = some r) {σ : AHeap} {o : Nat} {x : AV} (id : Nat) (ho : σ.objs o = some ⟨86, 2, encL rBox l⟩) (hx : srcA ⟨2, 32, [.int .i64 0, .nilsl], .struct [(0, 3), (1, 22)]⟩ σ x = some (encL rBox m)) :
  appendA T 26 id (.sl o 0 l.length) x σ = some (.sl id 0 r.length, (σ.kill o).put id ⟨86, 2, encL rBox r⟩) := appA_sl (e := 86) rfl rfl (by decide) h id ho hx
@[simp] theorem len32 (l : List (List gInstr)) : lenA T 32 (.fsl (encL rL_Instr l)) = some (.int .i64 (ilen l)) := lenA_fsl (e := 46) rfl rL_Instr l
@[simp] theorem leno32 (o r : Nat) (l : List (List gInstr)) : lenA T 32 (.sl o r l.length) = some (.int .i64 (ilen l)) := lenA_sl (e := 46) rfl o r l
@[simp] theorem lenn32 : lenA T 32 .nilsl = some (.int .i64 0) := rfl
@[simp] theorem lene32 : lenA T 32 .esl = some (.int .i64 0) := rfl
@[simp] theorem src32 (σ : AHeap) (l : List (List gInstr)) (z : List AV) (k : TK) : srcA ⟨1, 24, z, k⟩ σ (.fsl (encL rL_Instr l)) = some (encL rL_Instr l) := srcA_fsl (f := rL_Instr) (fun _ => rfl) σ l
@[simp] theorem srco32 {σ : AHeap} {o : Nat} {l : List (List gInstr)} (z : List AV) (k : TK) (h : σ.objs o = some ⟨46, 1, encL rL_Instr l⟩) : srcA ⟨1, 24, z, k⟩ σ (.sl o 0 l.length) = some (encL rL_Instr l) := srcA_sl (ti := ⟨1, 24, z, k⟩) (fun _ => rfl) h
theorem ix32 {l : List (List gInstr)} {i : Int} {v : (List gInstr)} (h : idx l i = some v) (σ : AHeap) (k : IntKind) : indexAddrA T σ 32 (.fsl (encL rL_Instr l)) (.int k i) = some (.fptr (rL_Instr v) 0) := ixA_fsl (e := 46) rfl rfl (fun _ => rfl) h σ k
theorem ixo32 {l : List (List gInstr)} {i : Int} {v : (List gInstr)} (h : idx l i = some v) {σ : AHeap} {o : Nat} (hs : (σ.objs o).map AObj.sz = some 1) (k : IntKind) : indexAddrA T σ 32 (.sl o 0 l.length) (.int k i) = some (.ptr o i.toNat 0) := ixA_sl (e := 46) rfl rfl h hs k
theorem makr32 {n : Int} {r : List (List gInstr)} (h : makex 24 n ([] : List gInstr) = some r) (σ : AHeap) (id : Nat) (k k' : IntKind) : makeA T 32 false id (.int k n) (.int k' n) σ = some (.sl id 0 r.length, σ.put id ⟨46, 1, List.replicate n.toNat [.nilsl]⟩) := makA_rep (e := 46) (ti := ⟨1, 24, [.nilsl], .slice 78⟩) rfl rfl (by decide) h σ id k k'
@[simp] theorem len46 (l : List gInstr) : lenA T 46 (.fsl (encL rInstr l)) = some (.int .i64 (ilen l)) := lenA_fsl (e := 78) rfl rInstr l
@[simp] theorem leno46 (o r : Nat) (l : List gInstr) : lenA T 46 (.sl o r l.length) = some (.int .i64 (ilen l)) := lenA_sl (e := 78) rfl o r l
@[simp] theorem lenn46 : lenA T 46 .nilsl = some (.int .i64 0) := rfl
@[simp] theorem lene46 : lenA T 46 .esl = some (.int .i64 0) := rfl
@[simp] theorem src46 (σ : AHeap) (l : List gInstr) (z : List AV) (k : TK) : srcA ⟨5, 40, z, k⟩ σ (.fsl (encL rInstr l)) = some (encL rInstr l) := srcA_fsl (f := rInstr) (fun _ => rfl) σ l
@[simp] theorem srco46 {σ : AHeap} {o : Nat} {l : List gInstr} (z : List AV) (k : TK) (h : σ.objs o = some ⟨78, 5, encL rInstr l⟩) : srcA ⟨5, 40, z, k⟩ σ (.sl o 0 l.length) = some (encL rInstr l) := srcA_sl (ti := ⟨5, 40, z, k⟩) (fun _ => rfl) h
theorem ix46 {l : List gInstr} {i : Int} {v : gInstr} (h : idx l i = some v) (σ : AHeap) (k : IntKind) : indexAddrA T σ 46 (.fsl (encL rInstr l)) (.int k i) = some (.fptr (rInstr v) 0) := ixA_fsl (e := 78) rfl rfl (fun _ => rfl) h σ k
theorem ixo46 {l : List gInstr} {i : Int} {v : gInstr} (h : idx l i = some v) {σ : AHeap} {o : Nat} (hs : (σ.objs o).map AObj.sz = some 5) (k : IntKind) : indexAddrA T σ 46 (.sl o 0 l.length) (.int k i) = some (.ptr o i.toNat 0) := ixA_sl (e := 78) rfl rfl h hs k
theorem mak46 {n : Int} {r : List gInstr} (h : makex 40 n (⟨0, 0, 0, 0, 0⟩ : gInstr) = some r) (σ : AHeap) (id : Nat) (k k' : IntKind) : makeA T 46 false id (.int k n) (.int k' n) σ = some (.sl id 0 r.length, σ.put id ⟨78, 5, encL rInstr r⟩) := makA_sl (e := 78) (ti := ⟨5, 40, [.int .i64 0, .int .i64 0, .int .i64 0, .int .i64 0, .int .i64 0], .struct [(0, 3), (1, 3), (2, 3), (3, 3), (4, 3)]⟩) rfl rfl (by decide) (z := (⟨0, 0, 0, 0, 0⟩ : gInstr)) rfl h σ id k k'
@[simp] theorem len60 (l : List gInstr) : lenA T 60 (.fsl (encL rInstr l)) = some (.int .i64 (ilen l)) := lenA_fsl (e := 90) rfl rInstr l
@[simp] theorem leno60 (o r : Nat) (l : List gInstr) : lenA T 60 (.sl o r l.length) = some (.int .i64 (ilen l)) := lenA_sl (e := 90) rfl o r l
@[simp] theorem lenn60 : lenA T 60 .nilsl = some (.int .i64 0) := rfl
@[simp] theorem lene60 : lenA T 60 .esl = some (.int .i64 0) := rfl
@[simp] theorem src60 (σ : AHeap) (l : List gInstr) (z : List AV) (k : TK) : srcA ⟨5, 40, z, k⟩ σ (.fsl (encL rInstr l)) = some (encL rInstr l) := srcA_fsl (f := rInstr) (fun _ => rfl) σ l
@[simp] theorem srco60 {σ : AHeap} {o : Nat} {l : List gInstr} (z : List AV) (k : TK) (h : σ.objs o = some ⟨90, 5, encL rInstr l⟩) : srcA ⟨5, 40, z, k⟩ σ (.sl o 0 l.length) = some (encL rInstr l) := srcA_sl (ti := ⟨5, 40, z, k⟩) (fun _ => rfl) h
theorem ix60 {l : List gInstr} {i : Int} {v : gInstr} (h : idx l i = some v) (σ : AHeap) (k : IntKind) : indexAddrA T σ 60 (.fsl (encL rInstr l)) (.int k i) = some (.fptr (rInstr v) 0) := ixA_fsl (e := 90) rfl rfl (fun _ => rfl) h σ k
theorem gx119 {l : List gInstrRow} {i : Int} {v : gInstrRow} (h : idx l i = some v) (σ : AHeap) (k : IntKind) (hn : l.length = 21 := by rfl) : indexAddrA T σ 119 (.fptr (gR rInstrRow l) 0) (.int k i) = some (.fptr (rInstrRow v) 0) := gixR (e := 118) rfl rfl (fun _ => rfl) hn h σ k
theorem appz22_3 {l r : List Int} {n : Int} (h : appzx 8 l n 0 = some r) {σ : AHeap} {o : Nat} {kx : IntKind} (id : Nat) (ho : σ.objs o = some ⟨3, 1, encL rI l⟩) : appendZ T 22 3 id (.sl o 0 l.length) (.int kx n) σ = some (.sl id 0 r.length, (σ.kill o).put id ⟨3, 1, encL rI r⟩) := appZ_sl (e := 3) (f := rI) (z := 0) (ti := ⟨1, 8, [.int .i64 0], .int .i64⟩) rfl rfl rfl rfl (by decide) h id ho
theorem apr25 (f : gMachine → List AV) {l r : List gMachine} {v : gMachine} (h : appx 56 l [v] = some r) {σ : AHeap} {o : Nat} (x0 x1 x2 : AV) (id : Nat) (ho : σ.objs o = some ⟨53, 3, encL f l⟩) :
  appendA T 25 id (.sl o 0 l.length) (.fsl [[x0, x1, x2]]) σ = some (.sl id 0 r.length, (σ.kill o).put id ⟨53, 3, encL f l ++ [[x0, x1, x2]]⟩) := aprA_sl (e := 53) (ti := ⟨3, 56, [.nilsl, .int .i64 0, .nilsl], .struct [(0, 22), (1, 3), (2, 22)]⟩) rfl rfl (by decide) h id ho (srcA_raw rfl σ)
theorem apr26 (f : gBox → List AV) {l r : List gBox} {v : gBox} (h : appx 32 l [v] = some r) {σ : AHeap} {o : Nat} (x0 x1 : AV) (id : Nat) (ho : σ.objs o = some ⟨86, 2, encL f l⟩) :
  appendA T 26 id (.sl o 0 l.length) (.fsl [[x0, x1]]) σ = some (.sl id 0 r.length, (σ.kill o).put id ⟨86, 2, encL f l ++ [[x0, x1]]⟩) := aprA_sl (e := 86) (ti := ⟨2, 32, [.int .i64 0, .nilsl], .struct [(0, 3), (1, 22)]⟩) rfl rfl (by decide) h id ho (srcA_raw rfl σ)
theorem nf_rI (n : Nat) (x : Int) : ((rI x).all (AV.nf (n + 1))) = true := by simp [AV.nf, AV.simp1]
def rBox_o (x : gBox) : List AV := [.int .i64 x.Room, .osl 3 1 (encL rI x.Items)]
@[simp] theorem rBox_o_eq (x : gBox) : rBox_o x = [.int .i64 x.Room, .osl 3 1 (encL rI x.Items)] := rfl
theorem nf_rBox_o (n : Nat) (x : gBox) : ((rBox_o x).all (AV.nf (n + 2))) = true := by
 simp only [rBox_o_eq, List.all_cons, List.all_nil, Bool.and_true, Bool.and_eq_true]
 exact ⟨rfl, encL_nf (fun x => nf_rI (n + 0) x) _⟩
@[simp] theorem thawm_rBox_o {D : Nat → Bool} {σ : AHeap} {d : Nat} (l : List gBox) : (encL rBox_o l).map (fun e => e.map (thawA D σ (d + 1))) = encL rBox l := by
 simp only [encL, List.map_map]
 refine List.map_congr_left fun x _ => ?_
 simp [thawA]
theorem set_rBox_o (l : List gBox) (k : Nat) (xRoom : Int) (xItems : (List Int)) : (encL rBox_o l).set k [.int .i64 xRoom, .osl 3 1 (encL rI xItems)] = encL rBox_o (l.set k (⟨xRoom, xItems⟩ : gBox)) := encL_set rBox_o l k (⟨xRoom, xItems⟩ : gBox)
@[simp] theorem len_rBox_o (x : gBox) : (rBox_o x).length = 2 := rfl
def rL_Instr_o (x : (List gInstr)) : List AV := [.osl 78 5 (encL rInstr x)]
@[simp] theorem rL_Instr_o_eq (x : (List gInstr)) : rL_Instr_o x = [.osl 78 5 (encL rInstr x)] := rfl
@[simp] theorem thawm_rL_Instr_o {D : Nat → Bool} {σ : AHeap} {d : Nat} (l : List (List gInstr)) : (encL rL_Instr_o l).map (fun e => e.map (thawA D σ (d + 1))) = encL rL_Instr l := by
 simp only [encL, List.map_map]
 refine List.map_congr_left fun x _ => ?_
 simp [thawA]
@[simp] theorem len_rL_Instr_o (x : (List gInstr)) : (rL_Instr_o x).length = 1 := rfl
def rMachine_of (x : gMachine) : List AV := [.osl 3 1 (encL rI x.Regs), .int .i64 x.Pc, .fsl (encL rI x.Mem)]
@[simp] theorem rMachine_of_eq (x : gMachine) : rMachine_of x = [.osl 3 1 (encL rI x.Regs), .int .i64 x.Pc, .fsl (encL rI x.Mem)] := rfl
@[simp] theorem len_rMachine_of (x : gMachine) : (rMachine_of x).length = 3 := rfl
def rMachine_oo (x : gMachine) : List AV := [.osl 3 1 (encL rI x.Regs), .int .i64 x.Pc, .osl 3 1 (encL rI x.Mem)]
@[simp] theorem rMachine_oo_eq (x : gMachine) : rMachine_oo x = [.osl 3 1 (encL rI x.Regs), .int .i64 x.Pc, .osl 3 1 (encL rI x.Mem)] := rfl
theorem nf_rMachine_oo (n : Nat) (x : gMachine) : ((rMachine_oo x).all (AV.nf (n + 2))) = true := by
 simp only [rMachine_oo_eq, List.all_cons, List.all_nil, Bool.and_true, Bool.and_eq_true]
 exact ⟨encL_nf (fun x => nf_rI (n + 0) x) _, rfl, encL_nf (fun x => nf_rI (n + 0) x) _⟩
@[simp] theorem thawm_rMachine_oo {D : Nat → Bool} {σ : AHeap} {d : Nat} (l : List gMachine) : (encL rMachine_oo l).map (fun e => e.map (thawA D σ (d + 1))) = encL rMachine l := by
 simp only [encL, List.map_map]
 refine List.map_congr_left fun x _ => ?_
 simp [thawA]
@[simp] theorem len_rMachine_oo (x : gMachine) : (rMachine_oo x).length = 3 := rfl
end Go.Proofs.YtlcilhmkbmgkeaaDoor
