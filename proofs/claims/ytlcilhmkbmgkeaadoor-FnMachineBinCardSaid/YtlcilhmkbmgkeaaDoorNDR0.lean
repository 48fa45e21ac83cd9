/- The rows of the program's types. -/
import Derived.Test.YtlcilhmkbmgkeaaDoorNAbsN
set_option linter.unusedSimpArgs false
set_option linter.unusedVariables false
namespace Go.Abs
open Go

def rI (n : Int) : List AV := [.int .i64 n]
@[simp] theorem rI_eq (n : Int) : rI n = [.int .i64 n] := rfl
def rI_u8 (n : Int) : List AV := [.int .u8 n]
@[simp] theorem rI_u8_eq (n : Int) : rI_u8 n = [.int .u8 n] := rfl
def rI_u16 (n : Int) : List AV := [.int .u16 n]
@[simp] theorem rI_u16_eq (n : Int) : rI_u16 n = [.int .u16 n] := rfl
def rI_u32 (n : Int) : List AV := [.int .u32 n]
@[simp] theorem rI_u32_eq (n : Int) : rI_u32 n = [.int .u32 n] := rfl
def rI_i32 (n : Int) : List AV := [.int .i32 n]
@[simp] theorem rI_i32_eq (n : Int) : rI_i32 n = [.int .i32 n] := rfl
def rI_u64 (n : Int) : List AV := [.int .u64 n]
@[simp] theorem rI_u64_eq (n : Int) : rI_u64 n = [.int .u64 n] := rfl
def rB (n : Bool) : List AV := [.bool n]
@[simp] theorem rB_eq (n : Bool) : rB n = [.bool n] := rfl
def rS (n : ByteArray) : List AV := [.str n]
@[simp] theorem rS_eq (n : ByteArray) : rS n = [.str n] := rfl
structure gQuad where
 Op : Int
 Dst : Int
 A : Int
 B : Int
 N : Int
 deriving DecidableEq
def rQuad (x : gQuad) : List AV := [.int .i64 x.Op, .int .i64 x.Dst, .int .i64 x.A, .int .i64 x.B, .int .i64 x.N]
@[simp] theorem rQuad_eq (x : gQuad) : rQuad x = [.int .i64 x.Op, .int .i64 x.Dst, .int .i64 x.A, .int .i64 x.B, .int .i64 x.N] := rfl
structure gInstr where
 Op : Int
 Rd : Int
 Rs : Int
 Rt : Int
 Imm : Int
 deriving DecidableEq
def rInstr (x : gInstr) : List AV := [.int .i64 x.Op, .int .i64 x.Rd, .int .i64 x.Rs, .int .i64 x.Rt, .int .i64 x.Imm]
@[simp] theorem rInstr_eq (x : gInstr) : rInstr x = [.int .i64 x.Op, .int .i64 x.Rd, .int .i64 x.Rs, .int .i64 x.Rt, .int .i64 x.Imm] := rfl
def rL_I (x : (List Int)) : List AV := [.fsl (encL rI x)]
@[simp] theorem rL_I_eq (x : (List Int)) : rL_I x = [.fsl (encL rI x)] := rfl
structure gMachine where
 Regs : (List Int)
 Pc : Int
 Mem : (List Int)
 deriving DecidableEq
def rMachine (x : gMachine) : List AV := [.fsl (encL rI x.Regs), .int .i64 x.Pc, .fsl (encL rI x.Mem)]
@[simp] theorem rMachine_eq (x : gMachine) : rMachine x = [.fsl (encL rI x.Regs), .int .i64 x.Pc, .fsl (encL rI x.Mem)] := rfl
def rL_I_u8 (x : (List Int)) : List AV := [.fsl (encL rI_u8 x)]
@[simp] theorem rL_I_u8_eq (x : (List Int)) : rL_I_u8 x = [.fsl (encL rI_u8 x)] := rfl
structure gL6Rd where
 b : (List Int)
 p : Int
 deriving DecidableEq
def rL6Rd (x : gL6Rd) : List AV := [.fsl (encL rI_u8 x.b), .int .i64 x.p]
@[simp] theorem rL6Rd_eq (x : gL6Rd) : rL6Rd x = [.fsl (encL rI_u8 x.b), .int .i64 x.p] := rfl
def rL_Instr (x : (List gInstr)) : List AV := [.fsl (encL rInstr x)]
@[simp] theorem rL_Instr_eq (x : (List gInstr)) : rL_Instr x = [.fsl (encL rInstr x)] := rfl
structure gEmitter where
 colors : Int
 list : (List gInstr)
 deriving DecidableEq
def rEmitter (x : gEmitter) : List AV := [.int .i64 x.colors, .fsl (encL rInstr x.list)]
@[simp] theorem rEmitter_eq (x : gEmitter) : rEmitter x = [.int .i64 x.colors, .fsl (encL rInstr x.list)] := rfl
structure gInstrRow where
 name : ByteArray
 opcode : Int
 funct3 : Int
 funct7 : Int
 deriving DecidableEq
def rInstrRow (x : gInstrRow) : List AV := [.str x.name, .int .i64 x.opcode, .int .i64 x.funct3, .int .i64 x.funct7]
@[simp] theorem rInstrRow_eq (x : gInstrRow) : rInstrRow x = [.str x.name, .int .i64 x.opcode, .int .i64 x.funct3, .int .i64 x.funct7] := rfl
@[simp] theorem snoc_rI (l : List Int) (x : Int) (R : List (List AV)) : encL rI l ++ ([.int .i64 x] :: R) = encL rI (l ++ [x]) ++ R := encL_snoc rI l x R
@[simp] theorem set_rI (l : List Int) (k : Nat) (x : Int) : (encL rI l).set k [.int .i64 x] = encL rI (l.set k x) := encL_set rI l k x
@[simp] theorem len_rI (x : Int) : (rI x).length = 1 := rfl
@[simp] theorem snoc_rI_u8 (l : List Int) (x : Int) (R : List (List AV)) : encL rI_u8 l ++ ([.int .u8 x] :: R) = encL rI_u8 (l ++ [x]) ++ R := encL_snoc rI_u8 l x R
@[simp] theorem set_rI_u8 (l : List Int) (k : Nat) (x : Int) : (encL rI_u8 l).set k [.int .u8 x] = encL rI_u8 (l.set k x) := encL_set rI_u8 l k x
@[simp] theorem len_rI_u8 (x : Int) : (rI_u8 x).length = 1 := rfl
@[simp] theorem snoc_rInstr (l : List gInstr) (xOp : Int) (xRd : Int) (xRs : Int) (xRt : Int) (xImm : Int) (R : List (List AV)) : encL rInstr l ++ ([.int .i64 xOp, .int .i64 xRd, .int .i64 xRs, .int .i64 xRt, .int .i64 xImm] :: R) = encL rInstr (l ++ [⟨xOp, xRd, xRs, xRt, xImm⟩]) ++ R := encL_snoc rInstr l ⟨xOp, xRd, xRs, xRt, xImm⟩ R
@[simp] theorem set_rInstr (l : List gInstr) (k : Nat) (xOp : Int) (xRd : Int) (xRs : Int) (xRt : Int) (xImm : Int) : (encL rInstr l).set k [.int .i64 xOp, .int .i64 xRd, .int .i64 xRs, .int .i64 xRt, .int .i64 xImm] = encL rInstr (l.set k ⟨xOp, xRd, xRs, xRt, xImm⟩) := encL_set rInstr l k ⟨xOp, xRd, xRs, xRt, xImm⟩
@[simp] theorem len_rInstr (x : gInstr) : (rInstr x).length = 5 := rfl
@[simp] theorem thaw1_rI {D : Nat → Bool} {σ : AHeap} {d : Nat} (x : Int) : (rI x).map (thawA D σ d) = rI x := by cases d <;> simp
@[simp] theorem thaw_rI {D : Nat → Bool} {σ : AHeap} {d : Nat} (l : List Int) : (encL rI l).map (fun e => e.map (thawA D σ d)) = encL rI l := encL_thaw (fun x => thaw1_rI x) l
theorem below1_rI {N : Nat} (x : Int) : ∀ y ∈ rI x, Below N y := by simp
@[simp] theorem below_rI {N : Nat} (l : List Int) : (∀ e ∈ encL rI l, ∀ x ∈ e, Below N x) ↔ True := iff_true_intro (encL_below (fun x => below1_rI x) l)
@[simp] theorem thaw1_rI_u8 {D : Nat → Bool} {σ : AHeap} {d : Nat} (x : Int) : (rI_u8 x).map (thawA D σ d) = rI_u8 x := by cases d <;> simp
@[simp] theorem thaw_rI_u8 {D : Nat → Bool} {σ : AHeap} {d : Nat} (l : List Int) : (encL rI_u8 l).map (fun e => e.map (thawA D σ d)) = encL rI_u8 l := encL_thaw (fun x => thaw1_rI_u8 x) l
theorem below1_rI_u8 {N : Nat} (x : Int) : ∀ y ∈ rI_u8 x, Below N y := by simp
@[simp] theorem below_rI_u8 {N : Nat} (l : List Int) : (∀ e ∈ encL rI_u8 l, ∀ x ∈ e, Below N x) ↔ True := iff_true_intro (encL_below (fun x => below1_rI_u8 x) l)
@[simp] theorem thaw1_rInstr {D : Nat → Bool} {σ : AHeap} {d : Nat} (x : gInstr) : (rInstr x).map (thawA D σ d) = rInstr x := by cases d <;> simp
@[simp] theorem thaw_rInstr {D : Nat → Bool} {σ : AHeap} {d : Nat} (l : List gInstr) : (encL rInstr l).map (fun e => e.map (thawA D σ d)) = encL rInstr l := encL_thaw (fun x => thaw1_rInstr x) l
theorem below1_rInstr {N : Nat} (x : gInstr) : ∀ y ∈ rInstr x, Below N y := by simp
@[simp] theorem below_rInstr {N : Nat} (l : List gInstr) : (∀ e ∈ encL rInstr l, ∀ x ∈ e, Below N x) ↔ True := iff_true_intro (encL_below (fun x => below1_rInstr x) l)
def gI (l : List Int) : List AV := l.map (AV.int .i64)
def gR {α : Type} (f : α → List AV) : List α → List AV
 | [] => []
 | x :: l => f x ++ gR f l
theorem gR_win {α : Type} {f : α → List AV} {sz : Nat} (hf : ∀ x, (f x).length = sz) : ∀ {l : List α} {i : Nat} {v : α}, l[i]? = some v → ((gR f l).drop (i * sz)).take sz = f v
 | x :: l, 0, v, h => by
  cases h
  show ((f x ++ gR f l).drop (0 * sz)).take sz = f x
  rw [Nat.zero_mul, List.drop_zero, List.take_left' (hf x)]
 | x :: l, i + 1, v, h => by
  show ((f x ++ gR f l).drop ((i + 1) * sz)).take sz = f v
  rw [Nat.add_mul, Nat.one_mul, Nat.add_comm, ← List.drop_drop, List.drop_left' (hf x)]
  exact gR_win hf (by simpa using h)
theorem gixR {T : Types} {t e : TypeId} {n : Nat} {ti : TI} (ht : T.kind t = some (.array n e)) (he : T e = some ti) {α : Type} {f : α → List AV} (hf : ∀ x, (f x).length = ti.sz) {l : List α} (hn : l.length = n) {i : Int} {v : α} (h : idx l i = some v) (σ : AHeap) (k : IntKind) :
  indexAddrA T σ t (.fptr (gR f l) 0) (.int k i) = some (.fptr (f v) 0) := by
 have := idx_lt3 h
 simp only [indexAddrA, ht, he, Option.bind_some, Nat.zero_add]
 rw [if_pos ⟨this.1, by omega⟩, gR_win hf this.2.2]
theorem gI_eq : ∀ l : List Int, gI l = gR rI l
 | [] => rfl
 | x :: l => by show AV.int .i64 x :: gI l = rI x ++ gR rI l; rw [gI_eq l]; rfl

def instrTab : List gInstrRow := [⟨⟨#[97, 100, 100]⟩, 51, 0, 0⟩, ⟨⟨#[115, 117, 98]⟩, 51, 0, 32⟩, ⟨⟨#[109, 117, 108]⟩, 51, 0, 1⟩, ⟨⟨#[100, 105, 118]⟩, 51, 4, 1⟩, ⟨⟨#[114, 101, 109]⟩, 51, 6, 1⟩, ⟨⟨#[97, 110, 100]⟩, 51, 7, 0⟩, ⟨⟨#[111, 114]⟩, 51, 6, 0⟩, ⟨⟨#[120, 111, 114]⟩, 51, 4, 0⟩, ⟨⟨#[115, 108, 108]⟩, 51, 1, 0⟩, ⟨⟨#[115, 114, 97]⟩, 51, 5, 32⟩, ⟨⟨#[115, 108, 116]⟩, 51, 2, 0⟩, ⟨⟨#[97, 100, 100, 105]⟩, 19, 0, 0⟩, ⟨⟨#[115, 108, 116, 105, 117]⟩, 19, 3, 0⟩, ⟨⟨#[108, 119]⟩, 3, 2, 0⟩, ⟨⟨#[106, 97, 108, 114]⟩, 103, 0, 0⟩, ⟨⟨#[115, 119]⟩, 35, 2, 0⟩, ⟨⟨#[98, 101, 113]⟩, 99, 0, 0⟩, ⟨⟨#[98, 110, 101]⟩, 99, 1, 0⟩, ⟨⟨#[108, 117, 105]⟩, 55, 0, 0⟩, ⟨⟨#[106, 97, 108]⟩, 111, 0, 0⟩, ⟨⟨#[101, 99, 97, 108, 108]⟩, 115, 0, 0⟩]

end Go.Abs
