/- The rows of the program's types. -/
import Derived.Test.YtoklfbdcghgmlaaNAbsC
set_option linter.unusedSimpArgs false
set_option linter.unusedVariables false
namespace Go.Abs
open Go

def rI (n : Int) : List AV := [.int .i64 n]
@[simp] theorem rI_eq (n : Int) : rI n = [.int .i64 n] := rfl
def rI_u8 (n : Int) : List AV := [.int .u8 n]
@[simp] theorem rI_u8_eq (n : Int) : rI_u8 n = [.int .u8 n] := rfl
def rI_u16 (n : Int) : List AV := [.int .u16 n]
@[simp] theorem rI_u16_eq (n : Int) : rI_u16 n = [.int .u16 n] := rfl
def rI_u32 (n : Int) : List AV := [.int .u32 n]
@[simp] theorem rI_u32_eq (n : Int) : rI_u32 n = [.int .u32 n] := rfl
def rI_i32 (n : Int) : List AV := [.int .i32 n]
@[simp] theorem rI_i32_eq (n : Int) : rI_i32 n = [.int .i32 n] := rfl
def rI_u64 (n : Int) : List AV := [.int .u64 n]
@[simp] theorem rI_u64_eq (n : Int) : rI_u64 n = [.int .u64 n] := rfl
def rB (n : Bool) : List AV := [.bool n]
@[simp] theorem rB_eq (n : Bool) : rB n = [.bool n] := rfl
def rS (n : ByteArray) : List AV := [.str n]
@[simp] theorem rS_eq (n : ByteArray) : rS n = [.str n] := rfl
def rL_I (x : (List Int)) : List AV := [.fsl (encL rI x)]
@[simp] theorem rL_I_eq (x : (List Int)) : rL_I x = [.fsl (encL rI x)] := rfl
structure gMachine where
  Regs : (List Int)
  Pc : Int
  Mem : (List Int)
  deriving DecidableEq
def rMachine (x : gMachine) : List AV := [.fsl (encL rI x.Regs), .int .i64 x.Pc, .fsl (encL rI x.Mem)]
@[simp] theorem rMachine_eq (x : gMachine) : rMachine x = [.fsl (encL rI x.Regs), .int .i64 x.Pc, .fsl (encL rI x.Mem)] := rfl
structure gBox where
  Room : Int
  Items : (List Int)
  deriving DecidableEq
def rBox (x : gBox) : List AV := [.int .i64 x.Room, .fsl (encL rI x.Items)]
@[simp] theorem rBox_eq (x : gBox) : rBox x = [.int .i64 x.Room, .fsl (encL rI x.Items)] := rfl
def rL_Machine (x : (List gMachine)) : List AV := [.fsl (encL rMachine x)]
@[simp] theorem rL_Machine_eq (x : (List gMachine)) : rL_Machine x = [.fsl (encL rMachine x)] := rfl
def rL_Box (x : (List gBox)) : List AV := [.fsl (encL rBox x)]
@[simp] theorem rL_Box_eq (x : (List gBox)) : rL_Box x = [.fsl (encL rBox x)] := rfl
structure gSquad where
  Harts : (List gMachine)
  Boxes : (List gBox)
  Turn : Int
  Idle : Int
  Out : (List Int)
  deriving DecidableEq
def rSquad (x : gSquad) : List AV := [.fsl (encL rMachine x.Harts), .fsl (encL rBox x.Boxes), .int .i64 x.Turn, .int .i64 x.Idle, .fsl (encL rI x.Out)]
@[simp] theorem rSquad_eq (x : gSquad) : rSquad x = [.fsl (encL rMachine x.Harts), .fsl (encL rBox x.Boxes), .int .i64 x.Turn, .int .i64 x.Idle, .fsl (encL rI x.Out)] := rfl
def rL_L_I (x : (List (List Int))) : List AV := [.fsl (encL rL_I x)]
@[simp] theorem rL_L_I_eq (x : (List (List Int))) : rL_L_I x = [.fsl (encL rL_I x)] := rfl
def rL_B (x : (List Bool)) : List AV := [.fsl (encL rB x)]
@[simp] theorem rL_B_eq (x : (List Bool)) : rL_B x = [.fsl (encL rB x)] := rfl
structure gOutcome where
  Out : (List Int)
  Items : (List (List Int))
  Ended : (List Bool)
  Rest : Bool
  deriving DecidableEq
def rOutcome (x : gOutcome) : List AV := [.fsl (encL rI x.Out), .fsl (encL rL_I x.Items), .fsl (encL rB x.Ended), .bool x.Rest]
@[simp] theorem rOutcome_eq (x : gOutcome) : rOutcome x = [.fsl (encL rI x.Out), .fsl (encL rL_I x.Items), .fsl (encL rB x.Ended), .bool x.Rest] := rfl
structure gInstr where
  Op : Int
  Rd : Int
  Rs : Int
  Rt : Int
  Imm : Int
  deriving DecidableEq
def rInstr (x : gInstr) : List AV := [.int .i64 x.Op, .int .i64 x.Rd, .int .i64 x.Rs, .int .i64 x.Rt, .int .i64 x.Imm]
@[simp] theorem rInstr_eq (x : gInstr) : rInstr x = [.int .i64 x.Op, .int .i64 x.Rd, .int .i64 x.Rs, .int .i64 x.Rt, .int .i64 x.Imm] := rfl
structure gQuad where
  Op : Int
  Dst : Int
  A : Int
  B : Int
  N : Int
  deriving DecidableEq
def rQuad (x : gQuad) : List AV := [.int .i64 x.Op, .int .i64 x.Dst, .int .i64 x.A, .int .i64 x.B, .int .i64 x.N]
@[simp] theorem rQuad_eq (x : gQuad) : rQuad x = [.int .i64 x.Op, .int .i64 x.Dst, .int .i64 x.A, .int .i64 x.B, .int .i64 x.N] := rfl
def rL_I_u8 (x : (List Int)) : List AV := [.fsl (encL rI_u8 x)]
@[simp] theorem rL_I_u8_eq (x : (List Int)) : rL_I_u8 x = [.fsl (encL rI_u8 x)] := rfl
structure gL6Rd where
  b : (List Int)
  p : Int
  deriving DecidableEq
def rL6Rd (x : gL6Rd) : List AV := [.fsl (encL rI_u8 x.b), .int .i64 x.p]
@[simp] theorem rL6Rd_eq (x : gL6Rd) : rL6Rd x = [.fsl (encL rI_u8 x.b), .int .i64 x.p] := rfl
@[simp] theorem snoc_rI (l : List Int) (x : Int) (R : List (List AV)) : encL rI l ++ ([.int .i64 x] :: R) = encL rI (l ++ [x]) ++ R := encL_snoc rI l x R
@[simp] theorem set_rI (l : List Int) (k : Nat) (x : Int) : (encL rI l).set k [.int .i64 x] = encL rI (l.set k x) := encL_set rI l k x
@[simp] theorem len_rI (x : Int) : (rI x).length = 1 := rfl
@[simp] theorem snoc_rBox (l : List gBox) (xRoom : Int) (xItems : (List Int)) (R : List (List AV)) : encL rBox l ++ ([.int .i64 xRoom, .fsl (encL rI xItems)] :: R) = encL rBox (l ++ [⟨xRoom, xItems⟩]) ++ R := encL_snoc rBox l ⟨xRoom, xItems⟩ R
@[simp] theorem set_rBox (l : List gBox) (k : Nat) (xRoom : Int) (xItems : (List Int)) : (encL rBox l).set k [.int .i64 xRoom, .fsl (encL rI xItems)] = encL rBox (l.set k ⟨xRoom, xItems⟩) := encL_set rBox l k ⟨xRoom, xItems⟩
@[simp] theorem len_rBox (x : gBox) : (rBox x).length = 2 := rfl
@[simp] theorem snoc_rMachine (l : List gMachine) (xRegs : (List Int)) (xPc : Int) (xMem : (List Int)) (R : List (List AV)) : encL rMachine l ++ ([.fsl (encL rI xRegs), .int .i64 xPc, .fsl (encL rI xMem)] :: R) = encL rMachine (l ++ [⟨xRegs, xPc, xMem⟩]) ++ R := encL_snoc rMachine l ⟨xRegs, xPc, xMem⟩ R
@[simp] theorem set_rMachine (l : List gMachine) (k : Nat) (xRegs : (List Int)) (xPc : Int) (xMem : (List Int)) : (encL rMachine l).set k [.fsl (encL rI xRegs), .int .i64 xPc, .fsl (encL rI xMem)] = encL rMachine (l.set k ⟨xRegs, xPc, xMem⟩) := encL_set rMachine l k ⟨xRegs, xPc, xMem⟩
@[simp] theorem len_rMachine (x : gMachine) : (rMachine x).length = 3 := rfl
@[simp] theorem snoc_rL_I (l : List (List Int)) (x : (List Int)) (R : List (List AV)) : encL rL_I l ++ ([.fsl (encL rI x)] :: R) = encL rL_I (l ++ [x]) ++ R := encL_snoc rL_I l x R
@[simp] theorem set_rL_I (l : List (List Int)) (k : Nat) (x : (List Int)) : (encL rL_I l).set k [.fsl (encL rI x)] = encL rL_I (l.set k x) := encL_set rL_I l k x
@[simp] theorem len_rL_I (x : (List Int)) : (rL_I x).length = 1 := rfl
@[simp] theorem snoc_rB (l : List Bool) (x : Bool) (R : List (List AV)) : encL rB l ++ ([.bool x] :: R) = encL rB (l ++ [x]) ++ R := encL_snoc rB l x R
@[simp] theorem set_rB (l : List Bool) (k : Nat) (x : Bool) : (encL rB l).set k [.bool x] = encL rB (l.set k x) := encL_set rB l k x
@[simp] theorem len_rB (x : Bool) : (rB x).length = 1 := rfl
@[simp] theorem snoc_rI_u8 (l : List Int) (x : Int) (R : List (List AV)) : encL rI_u8 l ++ ([.int .u8 x] :: R) = encL rI_u8 (l ++ [x]) ++ R := encL_snoc rI_u8 l x R
@[simp] theorem set_rI_u8 (l : List Int) (k : Nat) (x : Int) : (encL rI_u8 l).set k [.int .u8 x] = encL rI_u8 (l.set k x) := encL_set rI_u8 l k x
@[simp] theorem len_rI_u8 (x : Int) : (rI_u8 x).length = 1 := rfl
@[simp] theorem snoc_rInstr (l : List gInstr) (xOp : Int) (xRd : Int) (xRs : Int) (xRt : Int) (xImm : Int) (R : List (List AV)) : encL rInstr l ++ ([.int .i64 xOp, .int .i64 xRd, .int .i64 xRs, .int .i64 xRt, .int .i64 xImm] :: R) = encL rInstr (l ++ [⟨xOp, xRd, xRs, xRt, xImm⟩]) ++ R := encL_snoc rInstr l ⟨xOp, xRd, xRs, xRt, xImm⟩ R
@[simp] theorem set_rInstr (l : List gInstr) (k : Nat) (xOp : Int) (xRd : Int) (xRs : Int) (xRt : Int) (xImm : Int) : (encL rInstr l).set k [.int .i64 xOp, .int .i64 xRd, .int .i64 xRs, .int .i64 xRt, .int .i64 xImm] = encL rInstr (l.set k ⟨xOp, xRd, xRs, xRt, xImm⟩) := encL_set rInstr l k ⟨xOp, xRd, xRs, xRt, xImm⟩
@[simp] theorem len_rInstr (x : gInstr) : (rInstr x).length = 5 := rfl
@[simp] theorem snoc_rQuad (l : List gQuad) (xOp : Int) (xDst : Int) (xA : Int) (xB : Int) (xN : Int) (R : List (List AV)) : encL rQuad l ++ ([.int .i64 xOp, .int .i64 xDst, .int .i64 xA, .int .i64 xB, .int .i64 xN] :: R) = encL rQuad (l ++ [⟨xOp, xDst, xA, xB, xN⟩]) ++ R := encL_snoc rQuad l ⟨xOp, xDst, xA, xB, xN⟩ R
@[simp] theorem set_rQuad (l : List gQuad) (k : Nat) (xOp : Int) (xDst : Int) (xA : Int) (xB : Int) (xN : Int) : (encL rQuad l).set k [.int .i64 xOp, .int .i64 xDst, .int .i64 xA, .int .i64 xB, .int .i64 xN] = encL rQuad (l.set k ⟨xOp, xDst, xA, xB, xN⟩) := encL_set rQuad l k ⟨xOp, xDst, xA, xB, xN⟩
@[simp] theorem len_rQuad (x : gQuad) : (rQuad x).length = 5 := rfl
@[simp] theorem thaw1_rI {D : Nat → Bool} {σ : AHeap} {d : Nat} (x : Int) : (rI x).map (thawA D σ d) = rI x := by cases d <;> simp
@[simp] theorem thaw_rI {D : Nat → Bool} {σ : AHeap} {d : Nat} (l : List Int) : (encL rI l).map (fun e => e.map (thawA D σ d)) = encL rI l := encL_thaw (fun x => thaw1_rI x) l
theorem below1_rI {N : Nat} (x : Int) : ∀ y ∈ rI x, Below N y := by simp
@[simp] theorem below_rI {N : Nat} (l : List Int) : (∀ e ∈ encL rI l, ∀ x ∈ e, Below N x) ↔ True := iff_true_intro (encL_below (fun x => below1_rI x) l)
@[simp] theorem thaw1_rL_I {D : Nat → Bool} {σ : AHeap} {d : Nat} (x : (List Int)) : (rL_I x).map (thawA D σ d) = rL_I x := by cases d <;> simp
@[simp] theorem thaw_rL_I {D : Nat → Bool} {σ : AHeap} {d : Nat} (l : List (List Int)) : (encL rL_I l).map (fun e => e.map (thawA D σ d)) = encL rL_I l := encL_thaw (fun x => thaw1_rL_I x) l
theorem below1_rL_I {N : Nat} (x : (List Int)) : ∀ y ∈ rL_I x, Below N y := by simp
@[simp] theorem below_rL_I {N : Nat} (l : List (List Int)) : (∀ e ∈ encL rL_I l, ∀ x ∈ e, Below N x) ↔ True := iff_true_intro (encL_below (fun x => below1_rL_I x) l)
@[simp] theorem thaw1_rBox {D : Nat → Bool} {σ : AHeap} {d : Nat} (x : gBox) : (rBox x).map (thawA D σ d) = rBox x := by cases d <;> simp
@[simp] theorem thaw_rBox {D : Nat → Bool} {σ : AHeap} {d : Nat} (l : List gBox) : (encL rBox l).map (fun e => e.map (thawA D σ d)) = encL rBox l := encL_thaw (fun x => thaw1_rBox x) l
theorem below1_rBox {N : Nat} (x : gBox) : ∀ y ∈ rBox x, Below N y := by simp
@[simp] theorem below_rBox {N : Nat} (l : List gBox) : (∀ e ∈ encL rBox l, ∀ x ∈ e, Below N x) ↔ True := iff_true_intro (encL_below (fun x => below1_rBox x) l)
@[simp] theorem thaw1_rMachine {D : Nat → Bool} {σ : AHeap} {d : Nat} (x : gMachine) : (rMachine x).map (thawA D σ d) = rMachine x := by cases d <;> simp
@[simp] theorem thaw_rMachine {D : Nat → Bool} {σ : AHeap} {d : Nat} (l : List gMachine) : (encL rMachine l).map (fun e => e.map (thawA D σ d)) = encL rMachine l := encL_thaw (fun x => thaw1_rMachine x) l
theorem below1_rMachine {N : Nat} (x : gMachine) : ∀ y ∈ rMachine x, Below N y := by simp
@[simp] theorem below_rMachine {N : Nat} (l : List gMachine) : (∀ e ∈ encL rMachine l, ∀ x ∈ e, Below N x) ↔ True := iff_true_intro (encL_below (fun x => below1_rMachine x) l)
@[simp] theorem thaw1_rB {D : Nat → Bool} {σ : AHeap} {d : Nat} (x : Bool) : (rB x).map (thawA D σ d) = rB x := by cases d <;> simp
@[simp] theorem thaw_rB {D : Nat → Bool} {σ : AHeap} {d : Nat} (l : List Bool) : (encL rB l).map (fun e => e.map (thawA D σ d)) = encL rB l := encL_thaw (fun x => thaw1_rB x) l
theorem below1_rB {N : Nat} (x : Bool) : ∀ y ∈ rB x, Below N y := by simp
@[simp] theorem below_rB {N : Nat} (l : List Bool) : (∀ e ∈ encL rB l, ∀ x ∈ e, Below N x) ↔ True := iff_true_intro (encL_below (fun x => below1_rB x) l)
@[simp] theorem thaw1_rI_u8 {D : Nat → Bool} {σ : AHeap} {d : Nat} (x : Int) : (rI_u8 x).map (thawA D σ d) = rI_u8 x := by cases d <;> simp
@[simp] theorem thaw_rI_u8 {D : Nat → Bool} {σ : AHeap} {d : Nat} (l : List Int) : (encL rI_u8 l).map (fun e => e.map (thawA D σ d)) = encL rI_u8 l := encL_thaw (fun x => thaw1_rI_u8 x) l
theorem below1_rI_u8 {N : Nat} (x : Int) : ∀ y ∈ rI_u8 x, Below N y := by simp
@[simp] theorem below_rI_u8 {N : Nat} (l : List Int) : (∀ e ∈ encL rI_u8 l, ∀ x ∈ e, Below N x) ↔ True := iff_true_intro (encL_below (fun x => below1_rI_u8 x) l)
@[simp] theorem thaw1_rInstr {D : Nat → Bool} {σ : AHeap} {d : Nat} (x : gInstr) : (rInstr x).map (thawA D σ d) = rInstr x := by cases d <;> simp
@[simp] theorem thaw_rInstr {D : Nat → Bool} {σ : AHeap} {d : Nat} (l : List gInstr) : (encL rInstr l).map (fun e => e.map (thawA D σ d)) = encL rInstr l := encL_thaw (fun x => thaw1_rInstr x) l
theorem below1_rInstr {N : Nat} (x : gInstr) : ∀ y ∈ rInstr x, Below N y := by simp
@[simp] theorem below_rInstr {N : Nat} (l : List gInstr) : (∀ e ∈ encL rInstr l, ∀ x ∈ e, Below N x) ↔ True := iff_true_intro (encL_below (fun x => below1_rInstr x) l)
@[simp] theorem thaw1_rQuad {D : Nat → Bool} {σ : AHeap} {d : Nat} (x : gQuad) : (rQuad x).map (thawA D σ d) = rQuad x := by cases d <;> simp
@[simp] theorem thaw_rQuad {D : Nat → Bool} {σ : AHeap} {d : Nat} (l : List gQuad) : (encL rQuad l).map (fun e => e.map (thawA D σ d)) = encL rQuad l := encL_thaw (fun x => thaw1_rQuad x) l
theorem below1_rQuad {N : Nat} (x : gQuad) : ∀ y ∈ rQuad x, Below N y := by simp
@[simp] theorem below_rQuad {N : Nat} (l : List gQuad) : (∀ e ∈ encL rQuad l, ∀ x ∈ e, Below N x) ↔ True := iff_true_intro (encL_below (fun x => below1_rQuad x) l)
/-- a table of numbers of a package -/
def gI (l : List Int) : List AV := l.map (AV.int .i64)
/-- a table of rows of a package -/
def gR {α : Type} (f : α → List AV) : List α → List AV
  | [] => []
  | x :: l => f x ++ gR f l
theorem gR_win {α : Type} {f : α → List AV} {sz : Nat} (hf : ∀ x, (f x).length = sz) : ∀ {l : List α} {i : Nat} {v : α}, l[i]? = some v → ((gR f l).drop (i * sz)).take sz = f v
  | x :: l, 0, v, h => by
    cases h
    show ((f x ++ gR f l).drop (0 * sz)).take sz = f x
    rw [Nat.zero_mul, List.drop_zero, List.take_left' (hf x)]
  | x :: l, i + 1, v, h => by
    show ((f x ++ gR f l).drop ((i + 1) * sz)).take sz = f v
    rw [Nat.add_mul, Nat.one_mul, Nat.add_comm, ← List.drop_drop, List.drop_left' (hf x)]
    exact gR_win hf (by simpa using h)
theorem gixR {T : Types} {t e : TypeId} {n : Nat} {ti : TI} (ht : T.kind t = some (.array n e)) (he : T e = some ti) {α : Type} {f : α → List AV} (hf : ∀ x, (f x).length = ti.sz) {l : List α} (hn : l.length = n) {i : Int} {v : α} (h : idx l i = some v) (σ : AHeap) (k : IntKind) :
    indexAddrA T σ t (.fptr (gR f l) 0) (.int k i) = some (.fptr (f v) 0) := by
  have := idx_lt3 h
  simp only [indexAddrA, ht, he, Option.bind_some, Nat.zero_add]
  rw [if_pos ⟨this.1, by omega⟩, gR_win hf this.2.2]
theorem gI_eq : ∀ l : List Int, gI l = gR rI l
  | [] => rfl
  | x :: l => by show AV.int .i64 x :: gI l = rI x ++ gR rI l; rw [gI_eq l]; rfl

end Go.Abs
