/- The rows of the program's types. -/
import Derived.Test.YtlcilhmkbmgkeaaGreatDoorNAbsN
set_option linter.unusedSimpArgs false
set_option linter.unusedVariables false
namespace Go.Abs
open Go

def rI (n : Int) : List AV := [.int .i64 n]
@[simp] theorem rI_eq (n : Int) : rI n = [.int .i64 n] := rfl
def rI_u8 (n : Int) : List AV := [.int .u8 n]
@[simp] theorem rI_u8_eq (n : Int) : rI_u8 n = [.int .u8 n] := rfl
def rI_u16 (n : Int) : List AV := [.int .u16 n]
@[simp] theorem rI_u16_eq (n : Int) : rI_u16 n = [.int .u16 n] := rfl
def rI_u32 (n : Int) : List AV := [.int .u32 n]
@[simp] theorem rI_u32_eq (n : Int) : rI_u32 n = [.int .u32 n] := rfl
def rI_i32 (n : Int) : List AV := [.int .i32 n]
@[simp] theorem rI_i32_eq (n : Int) : rI_i32 n = [.int .i32 n] := rfl
def rI_u64 (n : Int) : List AV := [.int .u64 n]
@[simp] theorem rI_u64_eq (n : Int) : rI_u64 n = [.int .u64 n] := rfl
def rB (n : Bool) : List AV := [.bool n]
@[simp] theorem rB_eq (n : Bool) : rB n = [.bool n] := rfl
def rS (n : ByteArray) : List AV := [.str n]
@[simp] theorem rS_eq (n : ByteArray) : rS n = [.str n] := rfl
def rL_I (x : (List Int)) : List AV := [.fsl (encL rI x)]
@[simp] theorem rL_I_eq (x : (List Int)) : rL_I x = [.fsl (encL rI x)] := rfl
structure gMachine where
 Regs : (List Int)
 Pc : Int
 Mem : (List Int)
 deriving DecidableEq
def rMachine (x : gMachine) : List AV := [.fsl (encL rI x.Regs), .int .i64 x.Pc, .fsl (encL rI x.Mem)]
@[simp] theorem rMachine_eq (x : gMachine) : rMachine x = [.fsl (encL rI x.Regs), .int .i64 x.Pc, .fsl (encL rI x.Mem)] := rfl
structure gBox where
 Room : Int
 Items : (List Int)
 deriving DecidableEq
def rBox (x : gBox) : List AV := [.int .i64 x.Room, .fsl (encL rI x.Items)]
@[simp] theorem rBox_eq (x : gBox) : rBox x = [.int .i64 x.Room, .fsl (encL rI x.Items)] := rfl
def rL_Machine (x : (List gMachine)) : List AV := [.fsl (encL rMachine x)]
@[simp] theorem rL_Machine_eq (x : (List gMachine)) : rL_Machine x = [.fsl (encL rMachine x)] := rfl
def rL_Box (x : (List gBox)) : List AV := [.fsl (encL rBox x)]
@[simp] theorem rL_Box_eq (x : (List gBox)) : rL_Box x = [.fsl (encL rBox x)] := rfl
structure gSquad where
 Harts : (List gMachine)
 Boxes : (List gBox)
 Turn : Int
 Idle : Int
 Out : (List Int)
 deriving DecidableEq
def rSquad (x : gSquad) : List AV := [.fsl (encL rMachine x.Harts), .fsl (encL rBox x.Boxes), .int .i64 x.Turn, .int .i64 x.Idle, .fsl (encL rI x.Out)]
@[simp] theorem rSquad_eq (x : gSquad) : rSquad x = [.fsl (encL rMachine x.Harts), .fsl (encL rBox x.Boxes), .int .i64 x.Turn, .int .i64 x.Idle, .fsl (encL rI x.Out)] := rfl
structure gInstr where
 Op : Int
 Rd : Int
 Rs : Int
 Rt : Int
 Imm : Int
 deriving DecidableEq
def rInstr (x : gInstr) : List AV := [.int .i64 x.Op, .int .i64 x.Rd, .int .i64 x.Rs, .int .i64 x.Rt, .int .i64 x.Imm]
@[simp] theorem rInstr_eq (x : gInstr) : rInstr x = [.int .i64 x.Op, .int .i64 x.Rd, .int .i64 x.Rs, .int .i64 x.Rt, .int .i64 x.Imm] := rfl
structure gInstrRow where
 name : ByteArray
 opcode : Int
 funct3 : Int
 funct7 : Int
 deriving DecidableEq
def rInstrRow (x : gInstrRow) : List AV := [.str x.name, .int .i64 x.opcode, .int .i64 x.funct3, .int .i64 x.funct7]
@[simp] theorem rInstrRow_eq (x : gInstrRow) : rInstrRow x = [.str x.name, .int .i64 x.opcode, .int .i64 x.funct3, .int .i64 x.funct7] := rfl
@[simp] theorem snoc_rMachine (l : List gMachine) (xRegs : (List Int)) (xPc : Int) (xMem : (List Int)) (R : List (List AV)) : encL rMachine l ++ ([.fsl (encL rI xRegs), .int .i64 xPc, .fsl (encL rI xMem)] :: R) = encL rMachine (l ++ [⟨xRegs, xPc, xMem⟩]) ++ R := encL_snoc rMachine l ⟨xRegs, xPc, xMem⟩ R
@[simp] theorem set_rMachine (l : List gMachine) (k : Nat) (xRegs : (List Int)) (xPc : Int) (xMem : (List Int)) : (encL rMachine l).set k [.fsl (encL rI xRegs), .int .i64 xPc, .fsl (encL rI xMem)] = encL rMachine (l.set k ⟨xRegs, xPc, xMem⟩) := encL_set rMachine l k ⟨xRegs, xPc, xMem⟩
@[simp] theorem len_rMachine (x : gMachine) : (rMachine x).length = 3 := rfl
@[simp] theorem snoc_rBox (l : List gBox) (xRoom : Int) (xItems : (List Int)) (R : List (List AV)) : encL rBox l ++ ([.int .i64 xRoom, .fsl (encL rI xItems)] :: R) = encL rBox (l ++ [⟨xRoom, xItems⟩]) ++ R := encL_snoc rBox l ⟨xRoom, xItems⟩ R
@[simp] theorem set_rBox (l : List gBox) (k : Nat) (xRoom : Int) (xItems : (List Int)) : (encL rBox l).set k [.int .i64 xRoom, .fsl (encL rI xItems)] = encL rBox (l.set k ⟨xRoom, xItems⟩) := encL_set rBox l k ⟨xRoom, xItems⟩
@[simp] theorem len_rBox (x : gBox) : (rBox x).length = 2 := rfl
@[simp] theorem snoc_rI (l : List Int) (x : Int) (R : List (List AV)) : encL rI l ++ ([.int .i64 x] :: R) = encL rI (l ++ [x]) ++ R := encL_snoc rI l x R
@[simp] theorem set_rI (l : List Int) (k : Nat) (x : Int) : (encL rI l).set k [.int .i64 x] = encL rI (l.set k x) := encL_set rI l k x
@[simp] theorem len_rI (x : Int) : (rI x).length = 1 := rfl
@[simp] theorem thaw1_rI {D : Nat → Bool} {σ : AHeap} {d : Nat} (x : Int) : (rI x).map (thawA D σ d) = rI x := by cases d <;> simp
@[simp] theorem thaw_rI {D : Nat → Bool} {σ : AHeap} {d : Nat} (l : List Int) : (encL rI l).map (fun e => e.map (thawA D σ d)) = encL rI l := encL_thaw (fun x => thaw1_rI x) l
theorem below1_rI {N : Nat} (x : Int) : ∀ y ∈ rI x, Below N y := by simp
@[simp] theorem below_rI {N : Nat} (l : List Int) : (∀ e ∈ encL rI l, ∀ x ∈ e, Below N x) ↔ True := iff_true_intro (encL_below (fun x => below1_rI x) l)
@[simp] theorem thaw1_rL_I {D : Nat → Bool} {σ : AHeap} {d : Nat} (x : (List Int)) : (rL_I x).map (thawA D σ d) = rL_I x := by cases d <;> simp
@[simp] theorem thaw_rL_I {D : Nat → Bool} {σ : AHeap} {d : Nat} (l : List (List Int)) : (encL rL_I l).map (fun e => e.map (thawA D σ d)) = encL rL_I l := encL_thaw (fun x => thaw1_rL_I x) l
theorem below1_rL_I {N : Nat} (x : (List Int)) : ∀ y ∈ rL_I x, Below N y := by simp
@[simp] theorem below_rL_I {N : Nat} (l : List (List Int)) : (∀ e ∈ encL rL_I l, ∀ x ∈ e, Below N x) ↔ True := iff_true_intro (encL_below (fun x => below1_rL_I x) l)
@[simp] theorem thaw1_rMachine {D : Nat → Bool} {σ : AHeap} {d : Nat} (x : gMachine) : (rMachine x).map (thawA D σ d) = rMachine x := by cases d <;> simp
@[simp] theorem thaw_rMachine {D : Nat → Bool} {σ : AHeap} {d : Nat} (l : List gMachine) : (encL rMachine l).map (fun e => e.map (thawA D σ d)) = encL rMachine l := encL_thaw (fun x => thaw1_rMachine x) l
theorem below1_rMachine {N : Nat} (x : gMachine) : ∀ y ∈ rMachine x, Below N y := by simp
@[simp] theorem below_rMachine {N : Nat} (l : List gMachine) : (∀ e ∈ encL rMachine l, ∀ x ∈ e, Below N x) ↔ True := iff_true_intro (encL_below (fun x => below1_rMachine x) l)
@[simp] theorem thaw1_rBox {D : Nat → Bool} {σ : AHeap} {d : Nat} (x : gBox) : (rBox x).map (thawA D σ d) = rBox x := by cases d <;> simp
@[simp] theorem thaw_rBox {D : Nat → Bool} {σ : AHeap} {d : Nat} (l : List gBox) : (encL rBox l).map (fun e => e.map (thawA D σ d)) = encL rBox l := encL_thaw (fun x => thaw1_rBox x) l
theorem below1_rBox {N : Nat} (x : gBox) : ∀ y ∈ rBox x, Below N y := by simp
@[simp] theorem below_rBox {N : Nat} (l : List gBox) : (∀ e ∈ encL rBox l, ∀ x ∈ e, Below N x) ↔ True := iff_true_intro (encL_below (fun x => below1_rBox x) l)
def gI (l : List Int) : List AV := l.map (AV.int .i64)
def gR {α : Type} (f : α → List AV) : List α → List AV
 | [] => []
 | x :: l => f x ++ gR f l
theorem gR_win {α : Type} {f : α → List AV} {sz : Nat} (hf : ∀ x, (f x).length = sz) : ∀ {l : List α} {i : Nat} {v : α}, l[i]? = some v → ((gR f l).drop (i * sz)).take sz = f v
 | x :: l, 0, v, h => by
  cases h
  show ((f x ++ gR f l).drop (0 * sz)).take sz = f x
  rw [Nat.zero_mul, List.drop_zero, List.take_left' (hf x)]
 | x :: l, i + 1, v, h => by
  show ((f x ++ gR f l).drop ((i + 1) * sz)).take sz = f v
  rw [Nat.add_mul, Nat.one_mul, Nat.add_comm, ← List.drop_drop, List.drop_left' (hf x)]
  exact gR_win hf (by simpa using h)
theorem gixR {T : Types} {t e : TypeId} {n : Nat} {ti : TI} (ht : T.kind t = some (.array n e)) (he : T e = some ti) {α : Type} {f : α → List AV} (hf : ∀ x, (f x).length = ti.sz) {l : List α} (hn : l.length = n) {i : Int} {v : α} (h : idx l i = some v) (σ : AHeap) (k : IntKind) :
  indexAddrA T σ t (.fptr (gR f l) 0) (.int k i) = some (.fptr (f v) 0) := by
 have := idx_lt3 h
 simp only [indexAddrA, ht, he, Option.bind_some, Nat.zero_add]
 rw [if_pos ⟨this.1, by omega⟩, gR_win hf this.2.2]
theorem gI_eq : ∀ l : List Int, gI l = gR rI l
 | [] => rfl
 | x :: l => by show AV.int .i64 x :: gI l = rI x ++ gR rI l; rw [gI_eq l]; rfl

def instrTab : List gInstrRow := [⟨⟨#[97, 100, 100]⟩, 51, 0, 0⟩, ⟨⟨#[115, 117, 98]⟩, 51, 0, 32⟩, ⟨⟨#[109, 117, 108]⟩, 51, 0, 1⟩, ⟨⟨#[100, 105, 118]⟩, 51, 4, 1⟩, ⟨⟨#[114, 101, 109]⟩, 51, 6, 1⟩, ⟨⟨#[97, 110, 100]⟩, 51, 7, 0⟩, ⟨⟨#[111, 114]⟩, 51, 6, 0⟩, ⟨⟨#[120, 111, 114]⟩, 51, 4, 0⟩, ⟨⟨#[115, 108, 108]⟩, 51, 1, 0⟩, ⟨⟨#[115, 114, 97]⟩, 51, 5, 32⟩, ⟨⟨#[115, 108, 116]⟩, 51, 2, 0⟩, ⟨⟨#[97, 100, 100, 105]⟩, 19, 0, 0⟩, ⟨⟨#[115, 108, 116, 105, 117]⟩, 19, 3, 0⟩, ⟨⟨#[108, 119]⟩, 3, 2, 0⟩, ⟨⟨#[106, 97, 108, 114]⟩, 103, 0, 0⟩, ⟨⟨#[115, 119]⟩, 35, 2, 0⟩, ⟨⟨#[98, 101, 113]⟩, 99, 0, 0⟩, ⟨⟨#[98, 110, 101]⟩, 99, 1, 0⟩, ⟨⟨#[108, 117, 105]⟩, 55, 0, 0⟩, ⟨⟨#[106, 97, 108]⟩, 111, 0, 0⟩, ⟨⟨#[101, 99, 97, 108, 108]⟩, 115, 0, 0⟩]

end Go.Abs
