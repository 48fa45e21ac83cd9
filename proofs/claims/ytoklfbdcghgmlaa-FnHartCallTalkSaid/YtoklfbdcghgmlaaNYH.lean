/- Words of the proof: YH. No conditions. -/
import Derived.Test.YtoklfbdcghgmlaaNYR0
import Derived.Test.YtoklfbdcghgmlaaProg
import Derived.KernelRfl
set_option linter.unusedSimpArgs false
set_option linter.unusedVariables false
set_option maxRecDepth 20000
namespace Go.Proofs.Ytoklfbdcghgmlaa
open Go Go.Abs Go.RowKit

def T : Types := fun t =>
  match t with
  | 3 => some ⟨1, 8, [.int .i64 0], .int .i64⟩ -- int
  | 4 => some ⟨1, 1, [.bool false], .bool⟩ -- bool
  | 5 => some ⟨1, 1, [.int .u8 0], .int .u8⟩ -- uint8
  | 22 => some ⟨1, 24, [.nilsl], .slice 3⟩ -- []int
  | 24 => some ⟨3, 56, [.nilsl, .int .i64 0, .nilsl], .struct [(0, 22), (1, 3), (2, 22)]⟩ -- laws.Machine
  | 25 => some ⟨1, 24, [.nilsl], .slice 72⟩ -- []laws.Box
  | 28 => some ⟨3, 56, [.nilsl, .int .i64 0, .nilsl], .struct [(0, 22), (1, 3), (2, 22)]⟩ -- impl.Machine
  | 29 => some ⟨1, 24, [.nilsl], .slice 64⟩ -- []impl.Box
  | 41 => some ⟨1, 24, [.nilsl], .slice 24⟩ -- []laws.Machine
  | 43 => some ⟨5, 88, [.nilsl, .nilsl, .int .i64 0, .int .i64 0, .nilsl], .struct [(0, 41), (1, 25), (2, 3), (3, 3), (4, 22)]⟩ -- laws.Squad
  | 45 => some ⟨1, 24, [.nilsl], .slice 22⟩ -- [][]int
  | 46 => some ⟨1, 24, [.nilsl], .slice 4⟩ -- []bool
  | 48 => some ⟨4, 80, [.nilsl, .nilsl, .nilsl, .bool false], .struct [(0, 22), (1, 45), (2, 46), (3, 4)]⟩ -- impl.Outcome
  | 50 => some ⟨1, 24, [.nilsl], .slice 28⟩ -- []impl.Machine
  | 52 => some ⟨5, 88, [.nilsl, .nilsl, .int .i64 0, .int .i64 0, .nilsl], .struct [(0, 50), (1, 29), (2, 3), (3, 3), (4, 22)]⟩ -- impl.Squad
  | 59 => some ⟨1, 24, [.nilsl], .slice 5⟩ -- []uint8
  | 64 => some ⟨2, 32, [.int .i64 0, .nilsl], .struct [(0, 3), (1, 22)]⟩ -- impl.Box
  | 72 => some ⟨2, 32, [.int .i64 0, .nilsl], .struct [(0, 3), (1, 22)]⟩ -- laws.Box
  | 76 => some ⟨1, 8, [.nilp], .ptr⟩ -- *impl.Machine
  | 84 => some ⟨1, 8, [.nilp], .ptr⟩ -- *[]int
  | 96 => some ⟨1, 8, [.nilp], .ptr⟩ -- *spec.l6Rd
  | 100 => some ⟨1, 24, [.nilsl], .slice 131⟩ -- []impl.Instr
  | 102 => some ⟨1, 24, [.nilsl], .slice 123⟩ -- []impl.Quad
  | 118 => some ⟨2, 32, [.nilsl, .int .i64 0], .struct [(0, 59), (1, 3)]⟩ -- spec.l6Rd
  | 123 => some ⟨5, 40, [.int .i64 0, .int .i64 0, .int .i64 0, .int .i64 0, .int .i64 0], .struct [(0, 3), (1, 3), (2, 3), (3, 3), (4, 3)]⟩ -- impl.Quad
  | 127 => some ⟨1, 8, [.nilp], .ptr⟩ -- *impl.Box
  | 131 => some ⟨5, 40, [.int .i64 0, .int .i64 0, .int .i64 0, .int .i64 0, .int .i64 0], .struct [(0, 3), (1, 3), (2, 3), (3, 3), (4, 3)]⟩ -- impl.Instr
  | _ => none

@[simp] theorem T_3 : T 3 = some ⟨1, 8, [.int .i64 0], .int .i64⟩ := rfl
@[simp] theorem T_4 : T 4 = some ⟨1, 1, [.bool false], .bool⟩ := rfl
@[simp] theorem T_5 : T 5 = some ⟨1, 1, [.int .u8 0], .int .u8⟩ := rfl
@[simp] theorem T_22 : T 22 = some ⟨1, 24, [.nilsl], .slice 3⟩ := rfl
@[simp] theorem T_24 : T 24 = some ⟨3, 56, [.nilsl, .int .i64 0, .nilsl], .struct [(0, 22), (1, 3), (2, 22)]⟩ := rfl
@[simp] theorem T_25 : T 25 = some ⟨1, 24, [.nilsl], .slice 72⟩ := rfl
@[simp] theorem T_28 : T 28 = some ⟨3, 56, [.nilsl, .int .i64 0, .nilsl], .struct [(0, 22), (1, 3), (2, 22)]⟩ := rfl
@[simp] theorem T_29 : T 29 = some ⟨1, 24, [.nilsl], .slice 64⟩ := rfl
@[simp] theorem T_41 : T 41 = some ⟨1, 24, [.nilsl], .slice 24⟩ := rfl
@[simp] theorem T_43 : T 43 = some ⟨5, 88, [.nilsl, .nilsl, .int .i64 0, .int .i64 0, .nilsl], .struct [(0, 41), (1, 25), (2, 3), (3, 3), (4, 22)]⟩ := rfl
@[simp] theorem T_45 : T 45 = some ⟨1, 24, [.nilsl], .slice 22⟩ := rfl
@[simp] theorem T_46 : T 46 = some ⟨1, 24, [.nilsl], .slice 4⟩ := rfl
@[simp] theorem T_48 : T 48 = some ⟨4, 80, [.nilsl, .nilsl, .nilsl, .bool false], .struct [(0, 22), (1, 45), (2, 46), (3, 4)]⟩ := rfl
@[simp] theorem T_50 : T 50 = some ⟨1, 24, [.nilsl], .slice 28⟩ := rfl
@[simp] theorem T_52 : T 52 = some ⟨5, 88, [.nilsl, .nilsl, .int .i64 0, .int .i64 0, .nilsl], .struct [(0, 50), (1, 29), (2, 3), (3, 3), (4, 22)]⟩ := rfl
@[simp] theorem T_59 : T 59 = some ⟨1, 24, [.nilsl], .slice 5⟩ := rfl
@[simp] theorem T_64 : T 64 = some ⟨2, 32, [.int .i64 0, .nilsl], .struct [(0, 3), (1, 22)]⟩ := rfl
@[simp] theorem T_72 : T 72 = some ⟨2, 32, [.int .i64 0, .nilsl], .struct [(0, 3), (1, 22)]⟩ := rfl
@[simp] theorem T_76 : T 76 = some ⟨1, 8, [.nilp], .ptr⟩ := rfl
@[simp] theorem T_84 : T 84 = some ⟨1, 8, [.nilp], .ptr⟩ := rfl
@[simp] theorem T_96 : T 96 = some ⟨1, 8, [.nilp], .ptr⟩ := rfl
@[simp] theorem T_100 : T 100 = some ⟨1, 24, [.nilsl], .slice 131⟩ := rfl
@[simp] theorem T_102 : T 102 = some ⟨1, 24, [.nilsl], .slice 123⟩ := rfl
@[simp] theorem T_118 : T 118 = some ⟨2, 32, [.nilsl, .int .i64 0], .struct [(0, 59), (1, 3)]⟩ := rfl
@[simp] theorem T_123 : T 123 = some ⟨5, 40, [.int .i64 0, .int .i64 0, .int .i64 0, .int .i64 0, .int .i64 0], .struct [(0, 3), (1, 3), (2, 3), (3, 3), (4, 3)]⟩ := rfl
@[simp] theorem T_127 : T 127 = some ⟨1, 8, [.nilp], .ptr⟩ := rfl
@[simp] theorem T_131 : T 131 = some ⟨5, 40, [.int .i64 0, .int .i64 0, .int .i64 0, .int .i64 0, .int .i64 0], .struct [(0, 3), (1, 3), (2, 3), (3, 3), (4, 3)]⟩ := rfl
theorem tok : TOk Try.prog T := by
  intro t i h
  unfold T at h
  split at h <;> first | (cases h; done) | skip
  all_goals (cases h; refine ⟨by kernel_rfl, by kernel_rfl, by kernel_rfl, by kernel_rfl, by kernel_rfl⟩)
theorem tokM : Try.prog.follows .mixedOrders = true := by kernel_rfl
abbrev G : Globs := fun _ => none
@[simp] theorem bin_ii (op : BinOp) (t : TypeId) (k : IntKind) (a b : Int) : bin T op t (.int k a) (.int k b) = ibin op k a b := by simp [bin]
@[simp] theorem bin_shl (t : TypeId) (k k' : IntKind) (a b : Int) : bin T .shl t (.int k a) (.int k' b) = ibin .shl k a b := by simp [bin]
@[simp] theorem bin_shr (t : TypeId) (k k' : IntKind) (a b : Int) : bin T .shr t (.int k a) (.int k' b) = ibin .shr k a b := by simp [bin]
@[simp ↓] theorem sueq_131 (xOp xRd xRs xRt xImm yOp yRd yRs yRt yImm : Int) : bin T .eql 131 (.agg [.int .i64 xOp, .int .i64 xRd, .int .i64 xRs, .int .i64 xRt, .int .i64 xImm]) (.agg [.int .i64 yOp, .int .i64 yRd, .int .i64 yRs, .int .i64 yRt, .int .i64 yImm]) = some (.bool (eqD (⟨xOp, xRd, xRs, xRt, xImm⟩ : gInstr) (⟨yOp, yRd, yRs, yRt, yImm⟩ : gInstr))) := by
  have h : eqAgg T 131 [.int .i64 xOp, .int .i64 xRd, .int .i64 xRs, .int .i64 xRt, .int .i64 xImm] [.int .i64 yOp, .int .i64 yRd, .int .i64 yRs, .int .i64 yRt, .int .i64 yImm] = some (decide ((⟨xOp, xRd, xRs, xRt, xImm⟩ : gInstr) = (⟨yOp, yRd, yRs, yRt, yImm⟩ : gInstr))) := by
    simp [eqAgg, flatT, eqCells, gInstr.mk.injEq, Bool.decide_and, decide_eq_true_eq]
    try rfl
  simp only [bin, h, Option.map_some, bnot, eqD]
@[simp ↓] theorem sune_131 (xOp xRd xRs xRt xImm yOp yRd yRs yRt yImm : Int) : bin T .neq 131 (.agg [.int .i64 xOp, .int .i64 xRd, .int .i64 xRs, .int .i64 xRt, .int .i64 xImm]) (.agg [.int .i64 yOp, .int .i64 yRd, .int .i64 yRs, .int .i64 yRt, .int .i64 yImm]) = some (.bool (bnot (eqD (⟨xOp, xRd, xRs, xRt, xImm⟩ : gInstr) (⟨yOp, yRd, yRs, yRt, yImm⟩ : gInstr)))) := by
  have h : eqAgg T 131 [.int .i64 xOp, .int .i64 xRd, .int .i64 xRs, .int .i64 xRt, .int .i64 xImm] [.int .i64 yOp, .int .i64 yRd, .int .i64 yRs, .int .i64 yRt, .int .i64 yImm] = some (decide ((⟨xOp, xRd, xRs, xRt, xImm⟩ : gInstr) = (⟨yOp, yRd, yRs, yRt, yImm⟩ : gInstr))) := by
    simp [eqAgg, flatT, eqCells, gInstr.mk.injEq, Bool.decide_and, decide_eq_true_eq]
    try rfl
  simp only [bin, h, Option.map_some, bnot, eqD]
@[simp ↓] theorem sueq_123 (xOp xDst xA xB xN yOp yDst yA yB yN : Int) : bin T .eql 123 (.agg [.int .i64 xOp, .int .i64 xDst, .int .i64 xA, .int .i64 xB, .int .i64 xN]) (.agg [.int .i64 yOp, .int .i64 yDst, .int .i64 yA, .int .i64 yB, .int .i64 yN]) = some (.bool (eqD (⟨xOp, xDst, xA, xB, xN⟩ : gQuad) (⟨yOp, yDst, yA, yB, yN⟩ : gQuad))) := by
  have h : eqAgg T 123 [.int .i64 xOp, .int .i64 xDst, .int .i64 xA, .int .i64 xB, .int .i64 xN] [.int .i64 yOp, .int .i64 yDst, .int .i64 yA, .int .i64 yB, .int .i64 yN] = some (decide ((⟨xOp, xDst, xA, xB, xN⟩ : gQuad) = (⟨yOp, yDst, yA, yB, yN⟩ : gQuad))) := by
    simp [eqAgg, flatT, eqCells, gQuad.mk.injEq, Bool.decide_and, decide_eq_true_eq]
    try rfl
  simp only [bin, h, Option.map_some, bnot, eqD]
@[simp ↓] theorem sune_123 (xOp xDst xA xB xN yOp yDst yA yB yN : Int) : bin T .neq 123 (.agg [.int .i64 xOp, .int .i64 xDst, .int .i64 xA, .int .i64 xB, .int .i64 xN]) (.agg [.int .i64 yOp, .int .i64 yDst, .int .i64 yA, .int .i64 yB, .int .i64 yN]) = some (.bool (bnot (eqD (⟨xOp, xDst, xA, xB, xN⟩ : gQuad) (⟨yOp, yDst, yA, yB, yN⟩ : gQuad)))) := by
  have h : eqAgg T 123 [.int .i64 xOp, .int .i64 xDst, .int .i64 xA, .int .i64 xB, .int .i64 xN] [.int .i64 yOp, .int .i64 yDst, .int .i64 yA, .int .i64 yB, .int .i64 yN] = some (decide ((⟨xOp, xDst, xA, xB, xN⟩ : gQuad) = (⟨yOp, yDst, yA, yB, yN⟩ : gQuad))) := by
    simp [eqAgg, flatT, eqCells, gQuad.mk.injEq, Bool.decide_and, decide_eq_true_eq]
    try rfl
  simp only [bin, h, Option.map_some, bnot, eqD]
@[simp] theorem bineq_4 (a b : Bool) : bin T .eql 4 (.bool a) (.bool b) = some (.bool (beqb a b)) := rfl
@[simp] theorem binne_4 (a b : Bool) : bin T .neq 4 (.bool a) (.bool b) = some (.bool (bneb a b)) := rfl
@[simp] theorem conv_3_5 (k : IntKind) (n : Int) : convA T 3 5 (.int k n) = some (.int .u8 (iconv .u8 n)) := rfl
@[simp] theorem conv_5_3 (k : IntKind) (n : Int) : convA T 5 3 (.int k n) = some (.int .i64 (iconv .i64 n)) := rfl
@[simp] theorem len22 (l : List Int) : lenA T 22 (.fsl (encL rI l)) = some (.int .i64 (ilen l)) := lenA_fsl (e := 3) rfl rI l
@[simp] theorem leno22 (o r : Nat) (l : List Int) : lenA T 22 (.sl o r l.length) = some (.int .i64 (ilen l)) := lenA_sl (e := 3) rfl o r l
@[simp] theorem lenn22 : lenA T 22 .nilsl = some (.int .i64 0) := rfl
@[simp] theorem lene22 : lenA T 22 .esl = some (.int .i64 0) := rfl
@[simp] theorem src22 (σ : AHeap) (l : List Int) (z : List AV) (k : TK) : srcA ⟨1, 8, z, k⟩ σ (.fsl (encL rI l)) = some (encL rI l) := srcA_fsl (f := rI) (fun _ => rfl) σ l
@[simp] theorem srco22 {σ : AHeap} {o : Nat} {l : List Int} (z : List AV) (k : TK) (h : σ.objs o = some ⟨3, 1, encL rI l⟩) : srcA ⟨1, 8, z, k⟩ σ (.sl o 0 l.length) = some (encL rI l) := srcA_sl (ti := ⟨1, 8, z, k⟩) (fun _ => rfl) h
theorem ix22 {l : List Int} {i : Int} {v : Int} (h : idx l i = some v) (σ : AHeap) (k : IntKind) : indexAddrA T σ 22 (.fsl (encL rI l)) (.int k i) = some (.fptr (rI v) 0) := ixA_fsl (e := 3) rfl rfl (fun _ => rfl) h σ k
theorem ixo22 {l : List Int} {i : Int} {v : Int} (h : idx l i = some v) {σ : AHeap} {o : Nat} (hs : (σ.objs o).map AObj.sz = some 1) (k : IntKind) : indexAddrA T σ 22 (.sl o 0 l.length) (.int k i) = some (.ptr o i.toNat 0) := ixA_sl (e := 3) rfl rfl h hs k
theorem app22 {l m r : List Int} (h : appx 8 l m = some r) {σ : AHeap} {o : Nat} {x : AV} (id : Nat) (ho : σ.objs o = some ⟨3, 1, encL rI l⟩) (hx : srcA ⟨1, 8, [.int .i64 0], .int .i64⟩ σ x = some (encL rI m)) :
    appendA T 22 id (.sl o 0 l.length) x σ = some (.sl id 0 r.length, (σ.kill o).put id ⟨3, 1, encL rI r⟩) := appA_sl (e := 3) rfl rfl (by decide) h id ho hx
theorem appe22 {m r : List Int} (h : appx 8 [] m = some r) {σ : AHeap} {x : AV} (id : Nat) (hx : srcA ⟨1, 8, [.int .i64 0], .int .i64⟩ σ x = some (encL rI m)) :
    appendA T 22 id .esl x σ = some (.sl id 0 r.length, σ.put id ⟨3, 1, encL rI r⟩) := appA_esl (e := 3) rfl rfl (by decide) h id hx
theorem appf22 {m r : List Int} (h : appx 8 [] m = some r) {σ : AHeap} {s x : AV} (hs : s.noRoom = true) (hx : srcA ⟨1, 8, [.int .i64 0], .int .i64⟩ σ x = some (encL rI m)) :
    appendF T 22 s x σ = some (.fsl (encL rI r), σ) := appF_nil (e := 3) (ti := ⟨1, 8, [.int .i64 0], .int .i64⟩) rfl rfl (by decide) h hs hx
theorem mak22 {n : Int} {r : List Int} (h : makex 8 n (0 : Int) = some r) (σ : AHeap) (id : Nat) (k k' : IntKind) : makeA T 22 false id (.int k n) (.int k' n) σ = some (.sl id 0 r.length, σ.put id ⟨3, 1, encL rI r⟩) := makA_sl (e := 3) (ti := ⟨1, 8, [.int .i64 0], .int .i64⟩) rfl rfl (by decide) (z := (0 : Int)) rfl h σ id k k'
theorem cutl_22 {l r : List Int} {a : Int} (h : cutx l a (ilen l) = some r) (σ : AHeap) {ka : IntKind} : cutA T σ 22 (.fsl (encL rI l)) (some (.int ka a)) none = some (.fsl (encL rI r)) := cutA_fsl (e := 3) rfl rfl (fun _ => rfl) rfl rfl h σ
@[simp] theorem len25 (l : List gBox) : lenA T 25 (.fsl (encL rBox l)) = some (.int .i64 (ilen l)) := lenA_fsl (e := 72) rfl rBox l
@[simp] theorem leno25 (o r : Nat) (l : List gBox) : lenA T 25 (.sl o r l.length) = some (.int .i64 (ilen l)) := lenA_sl (e := 72) rfl o r l
@[simp] theorem lenn25 : lenA T 25 .nilsl = some (.int .i64 0) := rfl
@[simp] theorem lene25 : lenA T 25 .esl = some (.int .i64 0) := rfl
@[simp] theorem src25 (σ : AHeap) (l : List gBox) (z : List AV) (k : TK) : srcA ⟨2, 32, z, k⟩ σ (.fsl (encL rBox l)) = some (encL rBox l) := srcA_fsl (f := rBox) (fun _ => rfl) σ l
@[simp] theorem srco25 {σ : AHeap} {o : Nat} {l : List gBox} (z : List AV) (k : TK) (h : σ.objs o = some ⟨72, 2, encL rBox l⟩) : srcA ⟨2, 32, z, k⟩ σ (.sl o 0 l.length) = some (encL rBox l) := srcA_sl (ti := ⟨2, 32, z, k⟩) (fun _ => rfl) h
@[simp] theorem len29 (l : List gBox) : lenA T 29 (.fsl (encL rBox l)) = some (.int .i64 (ilen l)) := lenA_fsl (e := 64) rfl rBox l
@[simp] theorem leno29 (o r : Nat) (l : List gBox) : lenA T 29 (.sl o r l.length) = some (.int .i64 (ilen l)) := lenA_sl (e := 64) rfl o r l
@[simp] theorem lenn29 : lenA T 29 .nilsl = some (.int .i64 0) := rfl
@[simp] theorem lene29 : lenA T 29 .esl = some (.int .i64 0) := rfl
@[simp] theorem src29 (σ : AHeap) (l : List gBox) (z : List AV) (k : TK) : srcA ⟨2, 32, z, k⟩ σ (.fsl (encL rBox l)) = some (encL rBox l) := srcA_fsl (f := rBox) (fun _ => rfl) σ l
@[simp] theorem srco29 {σ : AHeap} {o : Nat} {l : List gBox} (z : List AV) (k : TK) (h : σ.objs o = some ⟨64, 2, encL rBox l⟩) : srcA ⟨2, 32, z, k⟩ σ (.sl o 0 l.length) = some (encL rBox l) := srcA_sl (ti := ⟨2, 32, z, k⟩) (fun _ => rfl) h
theorem ix29 {l : List gBox} {i : Int} {v : gBox} (h : idx l i = some v) (σ : AHeap) (k : IntKind) : indexAddrA T σ 29 (.fsl (encL rBox l)) (.int k i) = some (.fptr (rBox v) 0) := ixA_fsl (e := 64) rfl rfl (fun _ => rfl) h σ k
theorem ixo29 {l : List gBox} {i : Int} {v : gBox} (h : idx l i = some v) {σ : AHeap} {o : Nat} (hs : (σ.objs o).map AObj.sz = some 2) (k : IntKind) : indexAddrA T σ 29 (.sl o 0 l.length) (.int k i) = some (.ptr o i.toNat 0) := ixA_sl (e := 64) rfl rfl h hs k
theorem app29 {l m r : List gBox} (h : appx 32 l m = some r) {σ : AHeap} {o : Nat} {x : AV} (id : Nat) (ho : σ.objs o = some ⟨64, 2, encL rBox l⟩) (hx : srcA ⟨2, 32, [.int .i64 0, .nilsl], .struct [(0, 3), (1, 22)]⟩ σ x = some (encL rBox m)) :
    appendA T 29 id (.sl o 0 l.length) x σ = some (.sl id 0 r.length, (σ.kill o).put id ⟨64, 2, encL rBox r⟩) := appA_sl (e := 64) rfl rfl (by decide) h id ho hx
@[simp] theorem len41 (l : List gMachine) : lenA T 41 (.fsl (encL rMachine l)) = some (.int .i64 (ilen l)) := lenA_fsl (e := 24) rfl rMachine l
@[simp] theorem leno41 (o r : Nat) (l : List gMachine) : lenA T 41 (.sl o r l.length) = some (.int .i64 (ilen l)) := lenA_sl (e := 24) rfl o r l
@[simp] theorem lenn41 : lenA T 41 .nilsl = some (.int .i64 0) := rfl
@[simp] theorem lene41 : lenA T 41 .esl = some (.int .i64 0) := rfl
@[simp] theorem src41 (σ : AHeap) (l : List gMachine) (z : List AV) (k : TK) : srcA ⟨3, 56, z, k⟩ σ (.fsl (encL rMachine l)) = some (encL rMachine l) := srcA_fsl (f := rMachine) (fun _ => rfl) σ l
@[simp] theorem srco41 {σ : AHeap} {o : Nat} {l : List gMachine} (z : List AV) (k : TK) (h : σ.objs o = some ⟨24, 3, encL rMachine l⟩) : srcA ⟨3, 56, z, k⟩ σ (.sl o 0 l.length) = some (encL rMachine l) := srcA_sl (ti := ⟨3, 56, z, k⟩) (fun _ => rfl) h
@[simp] theorem len45 (l : List (List Int)) : lenA T 45 (.fsl (encL rL_I l)) = some (.int .i64 (ilen l)) := lenA_fsl (e := 22) rfl rL_I l
@[simp] theorem leno45 (o r : Nat) (l : List (List Int)) : lenA T 45 (.sl o r l.length) = some (.int .i64 (ilen l)) := lenA_sl (e := 22) rfl o r l
@[simp] theorem lenn45 : lenA T 45 .nilsl = some (.int .i64 0) := rfl
@[simp] theorem lene45 : lenA T 45 .esl = some (.int .i64 0) := rfl
@[simp] theorem src45 (σ : AHeap) (l : List (List Int)) (z : List AV) (k : TK) : srcA ⟨1, 24, z, k⟩ σ (.fsl (encL rL_I l)) = some (encL rL_I l) := srcA_fsl (f := rL_I) (fun _ => rfl) σ l
@[simp] theorem srco45 {σ : AHeap} {o : Nat} {l : List (List Int)} (z : List AV) (k : TK) (h : σ.objs o = some ⟨22, 1, encL rL_I l⟩) : srcA ⟨1, 24, z, k⟩ σ (.sl o 0 l.length) = some (encL rL_I l) := srcA_sl (ti := ⟨1, 24, z, k⟩) (fun _ => rfl) h
@[simp] theorem len46 (l : List Bool) : lenA T 46 (.fsl (encL rB l)) = some (.int .i64 (ilen l)) := lenA_fsl (e := 4) rfl rB l
@[simp] theorem leno46 (o r : Nat) (l : List Bool) : lenA T 46 (.sl o r l.length) = some (.int .i64 (ilen l)) := lenA_sl (e := 4) rfl o r l
@[simp] theorem lenn46 : lenA T 46 .nilsl = some (.int .i64 0) := rfl
@[simp] theorem lene46 : lenA T 46 .esl = some (.int .i64 0) := rfl
@[simp] theorem src46 (σ : AHeap) (l : List Bool) (z : List AV) (k : TK) : srcA ⟨1, 1, z, k⟩ σ (.fsl (encL rB l)) = some (encL rB l) := srcA_fsl (f := rB) (fun _ => rfl) σ l
@[simp] theorem srco46 {σ : AHeap} {o : Nat} {l : List Bool} (z : List AV) (k : TK) (h : σ.objs o = some ⟨4, 1, encL rB l⟩) : srcA ⟨1, 1, z, k⟩ σ (.sl o 0 l.length) = some (encL rB l) := srcA_sl (ti := ⟨1, 1, z, k⟩) (fun _ => rfl) h
@[simp] theorem len50 (l : List gMachine) : lenA T 50 (.fsl (encL rMachine l)) = some (.int .i64 (ilen l)) := lenA_fsl (e := 28) rfl rMachine l
@[simp] theorem leno50 (o r : Nat) (l : List gMachine) : lenA T 50 (.sl o r l.length) = some (.int .i64 (ilen l)) := lenA_sl (e := 28) rfl o r l
@[simp] theorem lenn50 : lenA T 50 .nilsl = some (.int .i64 0) := rfl
@[simp] theorem lene50 : lenA T 50 .esl = some (.int .i64 0) := rfl
@[simp] theorem src50 (σ : AHeap) (l : List gMachine) (z : List AV) (k : TK) : srcA ⟨3, 56, z, k⟩ σ (.fsl (encL rMachine l)) = some (encL rMachine l) := srcA_fsl (f := rMachine) (fun _ => rfl) σ l
@[simp] theorem srco50 {σ : AHeap} {o : Nat} {l : List gMachine} (z : List AV) (k : TK) (h : σ.objs o = some ⟨28, 3, encL rMachine l⟩) : srcA ⟨3, 56, z, k⟩ σ (.sl o 0 l.length) = some (encL rMachine l) := srcA_sl (ti := ⟨3, 56, z, k⟩) (fun _ => rfl) h
@[simp] theorem len59 (l : List Int) : lenA T 59 (.fsl (encL rI_u8 l)) = some (.int .i64 (ilen l)) := lenA_fsl (e := 5) rfl rI_u8 l
@[simp] theorem leno59 (o r : Nat) (l : List Int) : lenA T 59 (.sl o r l.length) = some (.int .i64 (ilen l)) := lenA_sl (e := 5) rfl o r l
@[simp] theorem lenn59 : lenA T 59 .nilsl = some (.int .i64 0) := rfl
@[simp] theorem lene59 : lenA T 59 .esl = some (.int .i64 0) := rfl
@[simp] theorem src59 (σ : AHeap) (l : List Int) (z : List AV) (k : TK) : srcA ⟨1, 1, z, k⟩ σ (.fsl (encL rI_u8 l)) = some (encL rI_u8 l) := srcA_fsl (f := rI_u8) (fun _ => rfl) σ l
@[simp] theorem srco59 {σ : AHeap} {o : Nat} {l : List Int} (z : List AV) (k : TK) (h : σ.objs o = some ⟨5, 1, encL rI_u8 l⟩) : srcA ⟨1, 1, z, k⟩ σ (.sl o 0 l.length) = some (encL rI_u8 l) := srcA_sl (ti := ⟨1, 1, z, k⟩) (fun _ => rfl) h
theorem ix59 {l : List Int} {i : Int} {v : Int} (h : idx l i = some v) (σ : AHeap) (k : IntKind) : indexAddrA T σ 59 (.fsl (encL rI_u8 l)) (.int k i) = some (.fptr (rI_u8 v) 0) := ixA_fsl (e := 5) rfl rfl (fun _ => rfl) h σ k
theorem cuth_59 {l r : List Int} {b : Int} (h : cutx l 0 b = some r) (σ : AHeap) {kb : IntKind} : cutA T σ 59 (.fsl (encL rI_u8 l)) none (some (.int kb b)) = some (.fsl (encL rI_u8 r)) := cutA_fsl (e := 5) rfl rfl (fun _ => rfl) rfl rfl h σ
@[simp] theorem len100 (l : List gInstr) : lenA T 100 (.fsl (encL rInstr l)) = some (.int .i64 (ilen l)) := lenA_fsl (e := 131) rfl rInstr l
@[simp] theorem leno100 (o r : Nat) (l : List gInstr) : lenA T 100 (.sl o r l.length) = some (.int .i64 (ilen l)) := lenA_sl (e := 131) rfl o r l
@[simp] theorem lenn100 : lenA T 100 .nilsl = some (.int .i64 0) := rfl
@[simp] theorem lene100 : lenA T 100 .esl = some (.int .i64 0) := rfl
@[simp] theorem src100 (σ : AHeap) (l : List gInstr) (z : List AV) (k : TK) : srcA ⟨5, 40, z, k⟩ σ (.fsl (encL rInstr l)) = some (encL rInstr l) := srcA_fsl (f := rInstr) (fun _ => rfl) σ l
@[simp] theorem srco100 {σ : AHeap} {o : Nat} {l : List gInstr} (z : List AV) (k : TK) (h : σ.objs o = some ⟨131, 5, encL rInstr l⟩) : srcA ⟨5, 40, z, k⟩ σ (.sl o 0 l.length) = some (encL rInstr l) := srcA_sl (ti := ⟨5, 40, z, k⟩) (fun _ => rfl) h
theorem ix100 {l : List gInstr} {i : Int} {v : gInstr} (h : idx l i = some v) (σ : AHeap) (k : IntKind) : indexAddrA T σ 100 (.fsl (encL rInstr l)) (.int k i) = some (.fptr (rInstr v) 0) := ixA_fsl (e := 131) rfl rfl (fun _ => rfl) h σ k
theorem app100 {l m r : List gInstr} (h : appx 40 l m = some r) {σ : AHeap} {o : Nat} {x : AV} (id : Nat) (ho : σ.objs o = some ⟨131, 5, encL rInstr l⟩) (hx : srcA ⟨5, 40, [.int .i64 0, .int .i64 0, .int .i64 0, .int .i64 0, .int .i64 0], .struct [(0, 3), (1, 3), (2, 3), (3, 3), (4, 3)]⟩ σ x = some (encL rInstr m)) :
    appendA T 100 id (.sl o 0 l.length) x σ = some (.sl id 0 r.length, (σ.kill o).put id ⟨131, 5, encL rInstr r⟩) := appA_sl (e := 131) rfl rfl (by decide) h id ho hx
@[simp] theorem len102 (l : List gQuad) : lenA T 102 (.fsl (encL rQuad l)) = some (.int .i64 (ilen l)) := lenA_fsl (e := 123) rfl rQuad l
@[simp] theorem leno102 (o r : Nat) (l : List gQuad) : lenA T 102 (.sl o r l.length) = some (.int .i64 (ilen l)) := lenA_sl (e := 123) rfl o r l
@[simp] theorem lenn102 : lenA T 102 .nilsl = some (.int .i64 0) := rfl
@[simp] theorem lene102 : lenA T 102 .esl = some (.int .i64 0) := rfl
@[simp] theorem src102 (σ : AHeap) (l : List gQuad) (z : List AV) (k : TK) : srcA ⟨5, 40, z, k⟩ σ (.fsl (encL rQuad l)) = some (encL rQuad l) := srcA_fsl (f := rQuad) (fun _ => rfl) σ l
@[simp] theorem srco102 {σ : AHeap} {o : Nat} {l : List gQuad} (z : List AV) (k : TK) (h : σ.objs o = some ⟨123, 5, encL rQuad l⟩) : srcA ⟨5, 40, z, k⟩ σ (.sl o 0 l.length) = some (encL rQuad l) := srcA_sl (ti := ⟨5, 40, z, k⟩) (fun _ => rfl) h
theorem ix102 {l : List gQuad} {i : Int} {v : gQuad} (h : idx l i = some v) (σ : AHeap) (k : IntKind) : indexAddrA T σ 102 (.fsl (encL rQuad l)) (.int k i) = some (.fptr (rQuad v) 0) := ixA_fsl (e := 123) rfl rfl (fun _ => rfl) h σ k
theorem app102 {l m r : List gQuad} (h : appx 40 l m = some r) {σ : AHeap} {o : Nat} {x : AV} (id : Nat) (ho : σ.objs o = some ⟨123, 5, encL rQuad l⟩) (hx : srcA ⟨5, 40, [.int .i64 0, .int .i64 0, .int .i64 0, .int .i64 0, .int .i64 0], .struct [(0, 3), (1, 3), (2, 3), (3, 3), (4, 3)]⟩ σ x = some (encL rQuad m)) :
    appendA T 102 id (.sl o 0 l.length) x σ = some (.sl id 0 r.length, (σ.kill o).put id ⟨123, 5, encL rQuad r⟩) := appA_sl (e := 123) rfl rfl (by decide) h id ho hx
theorem cutoh_22 {l r : List Int} {b : Int} (h : cutx l 0 b = some r) {σ : AHeap} {o : Nat} {kb : IntKind} (hs : (σ.objs o).map AObj.sz = some 1) : cutA T σ 22 (.sl o 0 l.length) none (some (.int kb b)) = some (.sl o 0 r.length) := cutA_sl (e := 3) rfl rfl rfl rfl h hs
theorem cutol_22 {l r : List Int} {a : Int} (h : cutx l a (ilen l) = some r) {σ : AHeap} {o : Nat} {ka : IntKind} (hs : (σ.objs o).map AObj.sz = some 1) : cutA T σ 22 (.sl o 0 l.length) (some (.int ka a)) none = some (.sl o a.toNat r.length) := cutA_sl (e := 3) rfl rfl rfl rfl h hs
theorem appz22_3 {l r : List Int} {n : Int} (h : appzx 8 l n 0 = some r) {σ : AHeap} {o : Nat} {kx : IntKind} (id : Nat) (ho : σ.objs o = some ⟨3, 1, encL rI l⟩) : appendZ T 22 3 id (.sl o 0 l.length) (.int kx n) σ = some (.sl id 0 r.length, (σ.kill o).put id ⟨3, 1, encL rI r⟩) := appZ_sl (e := 3) (f := rI) (z := 0) (ti := ⟨1, 8, [.int .i64 0], .int .i64⟩) rfl rfl rfl rfl (by decide) h id ho
theorem appv22 {l l' m r : List Int} {b : Int} (hc : cutx l 0 b = some l') (h : appx 8 l' m = some r) {σ : AHeap} {o : Nat} {x : AV} (id : Nat) (ho : σ.objs o = some ⟨3, 1, encL rI l⟩) (hx : srcA ⟨1, 8, [.int .i64 0], .int .i64⟩ σ x = some (encL rI m)) :
    appendA T 22 id (.sl o 0 l'.length) x σ = some (.sl id 0 r.length, (σ.kill o).put id ⟨3, 1, encL rI r⟩) := appA_slv (e := 3) (ti := ⟨1, 8, [.int .i64 0], .int .i64⟩) rfl rfl (by decide) hc h id ho hx
theorem srcv22 {l r : List Int} {a b : Int} (hv : cutx l a b = some r) {σ : AHeap} {o : Nat} (z : List AV) (k : TK) (h : σ.objs o = some ⟨3, 1, encL rI l⟩) : srcA ⟨1, 8, z, k⟩ σ (.sl o a.toNat r.length) = some (encL rI r) := srcA_slv (ti := ⟨1, 8, z, k⟩) (fun _ => rfl) hv h
theorem srcvn22 {l r : List Int} {a b : Int} (n : Nat) (hv : cutx l a b = some r) (hn : a.toNat = n) {σ : AHeap} {o : Nat} (z : List AV) (k : TK) (h : σ.objs o = some ⟨3, 1, encL rI l⟩) : srcA ⟨1, 8, z, k⟩ σ (.sl o n r.length) = some (encL rI r) := hn ▸ srcv22 hv z k h
theorem apr29 (f : gBox → List AV) {l r : List gBox} {v : gBox} (h : appx 32 l [v] = some r) {σ : AHeap} {o : Nat} (x0 x1 : AV) (id : Nat) (ho : σ.objs o = some ⟨64, 2, encL f l⟩) :
    appendA T 29 id (.sl o 0 l.length) (.fsl [[x0, x1]]) σ = some (.sl id 0 r.length, (σ.kill o).put id ⟨64, 2, encL f l ++ [[x0, x1]]⟩) := aprA_sl (e := 64) (ti := ⟨2, 32, [.int .i64 0, .nilsl], .struct [(0, 3), (1, 22)]⟩) rfl rfl (by decide) h id ho (srcA_raw rfl σ)
def rBox_o (x : gBox) : List AV := [.int .i64 x.Room, .osl 3 1 (encL rI x.Items)]
@[simp] theorem rBox_o_eq (x : gBox) : rBox_o x = [.int .i64 x.Room, .osl 3 1 (encL rI x.Items)] := rfl
@[simp] theorem thawm_rBox_o {D : Nat → Bool} {σ : AHeap} {d : Nat} (l : List gBox) : (encL rBox_o l).map (fun e => e.map (thawA D σ (d + 1))) = encL rBox l := by
  simp only [encL, List.map_map]
  refine List.map_congr_left fun x _ => ?_
  simp [thawA]
theorem set_rBox_o (l : List gBox) (k : Nat) (xRoom : Int) (xItems : (List Int)) : (encL rBox_o l).set k [.int .i64 xRoom, .osl 3 1 (encL rI xItems)] = encL rBox_o (l.set k (⟨xRoom, xItems⟩ : gBox)) := encL_set rBox_o l k (⟨xRoom, xItems⟩ : gBox)
@[simp] theorem len_rBox_o (x : gBox) : (rBox_o x).length = 2 := rfl
def rL_I_o (x : (List Int)) : List AV := [.osl 3 1 (encL rI x)]
@[simp] theorem rL_I_o_eq (x : (List Int)) : rL_I_o x = [.osl 3 1 (encL rI x)] := rfl
@[simp] theorem thawm_rL_I_o {D : Nat → Bool} {σ : AHeap} {d : Nat} (l : List (List Int)) : (encL rL_I_o l).map (fun e => e.map (thawA D σ (d + 1))) = encL rL_I l := by
  simp only [encL, List.map_map]
  refine List.map_congr_left fun x _ => ?_
  simp [thawA]
@[simp] theorem len_rL_I_o (x : (List Int)) : (rL_I_o x).length = 1 := rfl
def rMachine_of (x : gMachine) : List AV := [.osl 3 1 (encL rI x.Regs), .int .i64 x.Pc, .fsl (encL rI x.Mem)]
@[simp] theorem rMachine_of_eq (x : gMachine) : rMachine_of x = [.osl 3 1 (encL rI x.Regs), .int .i64 x.Pc, .fsl (encL rI x.Mem)] := rfl
@[simp] theorem len_rMachine_of (x : gMachine) : (rMachine_of x).length = 3 := rfl
def rMachine_oo (x : gMachine) : List AV := [.osl 3 1 (encL rI x.Regs), .int .i64 x.Pc, .osl 3 1 (encL rI x.Mem)]
@[simp] theorem rMachine_oo_eq (x : gMachine) : rMachine_oo x = [.osl 3 1 (encL rI x.Regs), .int .i64 x.Pc, .osl 3 1 (encL rI x.Mem)] := rfl
@[simp] theorem thawm_rMachine_oo {D : Nat → Bool} {σ : AHeap} {d : Nat} (l : List gMachine) : (encL rMachine_oo l).map (fun e => e.map (thawA D σ (d + 1))) = encL rMachine l := by
  simp only [encL, List.map_map]
  refine List.map_congr_left fun x _ => ?_
  simp [thawA]
@[simp] theorem len_rMachine_oo (x : gMachine) : (rMachine_oo x).length = 3 := rfl
end Go.Proofs.Ytoklfbdcghgmlaa
