/- The rows of the program's types. -/
import Derived.Test.YtlcilhmkbmgkeaaGreatDoorNAbsN
set_option linter.unusedSimpArgs false
set_option linter.unusedVariables false
namespace Go.Abs
open Go

def rI (n:Int):List AV:=[.int .i64 n]
@[simp] theorem rI_eq (n:Int):rI n=[.int .i64 n]:=rfl
def rI_u8 (n:Int):List AV:=[.int .u8 n]
@[simp] theorem rI_u8_eq (n:Int):rI_u8 n=[.int .u8 n]:=rfl
def rI_u16 (n:Int):List AV:=[.int .u16 n]
@[simp] theorem rI_u16_eq (n:Int):rI_u16 n=[.int .u16 n]:=rfl
def rI_u32 (n:Int):List AV:=[.int .u32 n]
@[simp] theorem rI_u32_eq (n:Int):rI_u32 n=[.int .u32 n]:=rfl
def rI_i32 (n:Int):List AV:=[.int .i32 n]
@[simp] theorem rI_i32_eq (n:Int):rI_i32 n=[.int .i32 n]:=rfl
def rI_u64 (n:Int):List AV:=[.int .u64 n]
@[simp] theorem rI_u64_eq (n:Int):rI_u64 n=[.int .u64 n]:=rfl
def rB (n:Bool):List AV:=[.bool n]
@[simp] theorem rB_eq (n:Bool):rB n=[.bool n]:=rfl
def rS (n:ByteArray):List AV:=[.str n]
@[simp] theorem rS_eq (n:ByteArray):rS n=[.str n]:=rfl
structure gQuad where
 Op:Int
 Dst:Int
 A:Int
 B:Int
 N:Int
 deriving DecidableEq
def rQuad (x:gQuad):List AV:=[.int .i64 x.Op,.int .i64 x.Dst,.int .i64 x.A,.int .i64 x.B,.int .i64 x.N]
@[simp] theorem rQuad_eq (x:gQuad):rQuad x=[.int .i64 x.Op,.int .i64 x.Dst,.int .i64 x.A,.int .i64 x.B,.int .i64 x.N]:=rfl
structure gInstr where
 Op:Int
 Rd:Int
 Rs:Int
 Rt:Int
 Imm:Int
 deriving DecidableEq
def rInstr (x:gInstr):List AV:=[.int .i64 x.Op,.int .i64 x.Rd,.int .i64 x.Rs,.int .i64 x.Rt,.int .i64 x.Imm]
@[simp] theorem rInstr_eq (x:gInstr):rInstr x=[.int .i64 x.Op,.int .i64 x.Rd,.int .i64 x.Rs,.int .i64 x.Rt,.int .i64 x.Imm]:=rfl
def rL_Instr (x:(List gInstr)):List AV:=[.fsl (encL rInstr x)]
@[simp] theorem rL_Instr_eq (x:(List gInstr)):rL_Instr x=[.fsl (encL rInstr x)]:=rfl
structure gEmitter where
 colors:Int
 list:(List gInstr)
 deriving DecidableEq
def rEmitter (x:gEmitter):List AV:=[.int .i64 x.colors,.fsl (encL rInstr x.list)]
@[simp] theorem rEmitter_eq (x:gEmitter):rEmitter x=[.int .i64 x.colors,.fsl (encL rInstr x.list)]:=rfl
def rL_I_u8 (x:(List Int)):List AV:=[.fsl (encL rI_u8 x)]
@[simp] theorem rL_I_u8_eq (x:(List Int)):rL_I_u8 x=[.fsl (encL rI_u8 x)]:=rfl
structure gL6Rd where
 b:(List Int)
 p:Int
 deriving DecidableEq
def rL6Rd (x:gL6Rd):List AV:=[.fsl (encL rI_u8 x.b),.int .i64 x.p]
@[simp] theorem rL6Rd_eq (x:gL6Rd):rL6Rd x=[.fsl (encL rI_u8 x.b),.int .i64 x.p]:=rfl
structure gExpr where
 Op:Int
 N:Int
 Args:(List gExpr)
mutual
def rExpr:gExpr→List AV
 |⟨Op,N,Args⟩=>[.int .i64 Op,.int .i64 N,.fsl (rExpr_l Args)]
def rExpr_l:List gExpr→List (List AV)
 |[]=>[]
 |x::l=>rExpr x::rExpr_l l
end
theorem rExpr_ll:∀l:List gExpr,rExpr_l l=encL rExpr l
 |[]=>by simp[rExpr_l,encL]
 |x::l=>by simp[rExpr_l,rExpr_ll l,encL]
@[simp] theorem rExpr_eq (x:gExpr):rExpr x=[.int .i64 x.Op,.int .i64 x.N,.fsl (encL rExpr x.Args)]:=by cases x;simp only[rExpr,rExpr_ll]
def rL_Expr (x:(List gExpr)):List AV:=[.fsl (encL rExpr x)]
@[simp] theorem rL_Expr_eq (x:(List gExpr)):rL_Expr x=[.fsl (encL rExpr x)]:=rfl
structure gStmt where
 Kind:Int
 Var:Int
 Box:Int
 Expr:gExpr
 Body:(List gStmt)
 Else:(List gStmt)
mutual
def rStmt:gStmt→List AV
 |⟨Kind,Var,Box,Expr,Body,Else⟩=>[.int .i64 Kind,.int .i64 Var,.int .i64 Box,.int .i64 Expr.Op,.int .i64 Expr.N,.fsl (encL rExpr Expr.Args),.fsl (rStmt_l Body),.fsl (rStmt_l Else)]
def rStmt_l:List gStmt→List (List AV)
 |[]=>[]
 |x::l=>rStmt x::rStmt_l l
end
theorem rStmt_ll:∀l:List gStmt,rStmt_l l=encL rStmt l
 |[]=>by simp[rStmt_l,encL]
 |x::l=>by simp[rStmt_l,rStmt_ll l,encL]
@[simp] theorem rStmt_eq (x:gStmt):rStmt x=[.int .i64 x.Kind,.int .i64 x.Var,.int .i64 x.Box,.int .i64 x.Expr.Op,.int .i64 x.Expr.N,.fsl (encL rExpr x.Expr.Args),.fsl (encL rStmt x.Body),.fsl (encL rStmt x.Else)]:=by cases x;simp only[rStmt,rStmt_ll]
def rL_Stmt (x:(List gStmt)):List AV:=[.fsl (encL rStmt x)]
@[simp] theorem rL_Stmt_eq (x:(List gStmt)):rL_Stmt x=[.fsl (encL rStmt x)]:=rfl
structure gFact where
 Kind:Int
 N:Int
 deriving DecidableEq
def rFact (x:gFact):List AV:=[.int .i64 x.Kind,.int .i64 x.N]
@[simp] theorem rFact_eq (x:gFact):rFact x=[.int .i64 x.Kind,.int .i64 x.N]:=rfl
def rL_Fact (x:(List gFact)):List AV:=[.fsl (encL rFact x)]
@[simp] theorem rL_Fact_eq (x:(List gFact)):rL_Fact x=[.fsl (encL rFact x)]:=rfl
def rL_I (x:(List Int)):List AV:=[.fsl (encL rI x)]
@[simp] theorem rL_I_eq (x:(List Int)):rL_I x=[.fsl (encL rI x)]:=rfl
def rL_B (x:(List Bool)):List AV:=[.fsl (encL rB x)]
@[simp] theorem rL_B_eq (x:(List Bool)):rL_B x=[.fsl (encL rB x)]:=rfl
@[simp] theorem snoc_rI (l:List Int) (x:Int) (R:List (List AV)):encL rI l++([.int .i64 x]::R)=encL rI (l++[x])++R:=encL_snoc rI l x R
@[simp] theorem set_rI (l:List Int) (k:Nat) (x:Int):(encL rI l).set k [.int .i64 x]=encL rI (l.set k x):=encL_set rI l k x
@[simp] theorem len_rI (x:Int):(rI x).length=1:=rfl
@[simp] theorem snoc_rI_u8 (l:List Int) (x:Int) (R:List (List AV)):encL rI_u8 l++([.int .u8 x]::R)=encL rI_u8 (l++[x])++R:=encL_snoc rI_u8 l x R
@[simp] theorem set_rI_u8 (l:List Int) (k:Nat) (x:Int):(encL rI_u8 l).set k [.int .u8 x]=encL rI_u8 (l.set k x):=encL_set rI_u8 l k x
@[simp] theorem len_rI_u8 (x:Int):(rI_u8 x).length=1:=rfl
@[simp] theorem snoc_rQuad (l:List gQuad) (xOp:Int) (xDst:Int) (xA:Int) (xB:Int) (xN:Int) (R:List (List AV)):encL rQuad l++([.int .i64 xOp,.int .i64 xDst,.int .i64 xA,.int .i64 xB,.int .i64 xN]::R)=encL rQuad (l++[⟨xOp,xDst,xA,xB,xN⟩])++R:=encL_snoc rQuad l ⟨xOp,xDst,xA,xB,xN⟩ R
@[simp] theorem set_rQuad (l:List gQuad) (k:Nat) (xOp:Int) (xDst:Int) (xA:Int) (xB:Int) (xN:Int):(encL rQuad l).set k [.int .i64 xOp,.int .i64 xDst,.int .i64 xA,.int .i64 xB,.int .i64 xN]=encL rQuad (l.set k ⟨xOp,xDst,xA,xB,xN⟩):=encL_set rQuad l k ⟨xOp,xDst,xA,xB,xN⟩
@[simp] theorem len_rQuad (x:gQuad):(rQuad x).length=5:=rfl
@[simp] theorem snoc_rInstr (l:List gInstr) (xOp:Int) (xRd:Int) (xRs:Int) (xRt:Int) (xImm:Int) (R:List (List AV)):encL rInstr l++([.int .i64 xOp,.int .i64 xRd,.int .i64 xRs,.int .i64 xRt,.int .i64 xImm]::R)=encL rInstr (l++[⟨xOp,xRd,xRs,xRt,xImm⟩])++R:=encL_snoc rInstr l ⟨xOp,xRd,xRs,xRt,xImm⟩ R
@[simp] theorem set_rInstr (l:List gInstr) (k:Nat) (xOp:Int) (xRd:Int) (xRs:Int) (xRt:Int) (xImm:Int):(encL rInstr l).set k [.int .i64 xOp,.int .i64 xRd,.int .i64 xRs,.int .i64 xRt,.int .i64 xImm]=encL rInstr (l.set k ⟨xOp,xRd,xRs,xRt,xImm⟩):=encL_set rInstr l k ⟨xOp,xRd,xRs,xRt,xImm⟩
@[simp] theorem len_rInstr (x:gInstr):(rInstr x).length=5:=rfl
@[simp] theorem snoc_rStmt (l:List gStmt) (xKind:Int) (xVar:Int) (xBox:Int) (xExprOp:Int) (xExprN:Int) (xExprArgs:(List gExpr)) (xBody:(List gStmt)) (xElse:(List gStmt)) (R:List (List AV)):encL rStmt l++([.int .i64 xKind,.int .i64 xVar,.int .i64 xBox,.int .i64 xExprOp,.int .i64 xExprN,.fsl (encL rExpr xExprArgs),.fsl (encL rStmt xBody),.fsl (encL rStmt xElse)]::R)=encL rStmt (l++[⟨xKind,xVar,xBox,⟨xExprOp,xExprN,xExprArgs⟩,xBody,xElse⟩])++R:=by have h:=encL_snoc rStmt l ⟨xKind,xVar,xBox,⟨xExprOp,xExprN,xExprArgs⟩,xBody,xElse⟩ R;rw[rStmt_eq] at h;exact h
@[simp] theorem set_rStmt (l:List gStmt) (k:Nat) (xKind:Int) (xVar:Int) (xBox:Int) (xExprOp:Int) (xExprN:Int) (xExprArgs:(List gExpr)) (xBody:(List gStmt)) (xElse:(List gStmt)):(encL rStmt l).set k [.int .i64 xKind,.int .i64 xVar,.int .i64 xBox,.int .i64 xExprOp,.int .i64 xExprN,.fsl (encL rExpr xExprArgs),.fsl (encL rStmt xBody),.fsl (encL rStmt xElse)]=encL rStmt (l.set k ⟨xKind,xVar,xBox,⟨xExprOp,xExprN,xExprArgs⟩,xBody,xElse⟩):=by have h:=encL_set rStmt l k ⟨xKind,xVar,xBox,⟨xExprOp,xExprN,xExprArgs⟩,xBody,xElse⟩;rw[rStmt_eq] at h;exact h
@[simp] theorem len_rStmt (x:gStmt):(rStmt x).length=8:=by rw[rStmt_eq];rfl
theorem lin_rStmt (x:gStmt):(rStmt x).all AV.lin1=true:=by rw[rStmt_eq];rfl
@[simp] theorem snoc_rExpr (l:List gExpr) (xOp:Int) (xN:Int) (xArgs:(List gExpr)) (R:List (List AV)):encL rExpr l++([.int .i64 xOp,.int .i64 xN,.fsl (encL rExpr xArgs)]::R)=encL rExpr (l++[⟨xOp,xN,xArgs⟩])++R:=by have h:=encL_snoc rExpr l ⟨xOp,xN,xArgs⟩ R;rw[rExpr_eq] at h;exact h
@[simp] theorem set_rExpr (l:List gExpr) (k:Nat) (xOp:Int) (xN:Int) (xArgs:(List gExpr)):(encL rExpr l).set k [.int .i64 xOp,.int .i64 xN,.fsl (encL rExpr xArgs)]=encL rExpr (l.set k ⟨xOp,xN,xArgs⟩):=by have h:=encL_set rExpr l k ⟨xOp,xN,xArgs⟩;rw[rExpr_eq] at h;exact h
@[simp] theorem len_rExpr (x:gExpr):(rExpr x).length=3:=by rw[rExpr_eq];rfl
theorem lin_rExpr (x:gExpr):(rExpr x).all AV.lin1=true:=by rw[rExpr_eq];rfl
@[simp] theorem snoc_rL_Fact (l:List (List gFact)) (x:(List gFact)) (R:List (List AV)):encL rL_Fact l++([.fsl (encL rFact x)]::R)=encL rL_Fact (l++[x])++R:=encL_snoc rL_Fact l x R
@[simp] theorem set_rL_Fact (l:List (List gFact)) (k:Nat) (x:(List gFact)):(encL rL_Fact l).set k [.fsl (encL rFact x)]=encL rL_Fact (l.set k x):=encL_set rL_Fact l k x
@[simp] theorem len_rL_Fact (x:(List gFact)):(rL_Fact x).length=1:=rfl
@[simp] theorem snoc_rFact (l:List gFact) (xKind:Int) (xN:Int) (R:List (List AV)):encL rFact l++([.int .i64 xKind,.int .i64 xN]::R)=encL rFact (l++[⟨xKind,xN⟩])++R:=encL_snoc rFact l ⟨xKind,xN⟩ R
@[simp] theorem set_rFact (l:List gFact) (k:Nat) (xKind:Int) (xN:Int):(encL rFact l).set k [.int .i64 xKind,.int .i64 xN]=encL rFact (l.set k ⟨xKind,xN⟩):=encL_set rFact l k ⟨xKind,xN⟩
@[simp] theorem len_rFact (x:gFact):(rFact x).length=2:=rfl
@[simp] theorem snoc_rL_I (l:List (List Int)) (x:(List Int)) (R:List (List AV)):encL rL_I l++([.fsl (encL rI x)]::R)=encL rL_I (l++[x])++R:=encL_snoc rL_I l x R
@[simp] theorem set_rL_I (l:List (List Int)) (k:Nat) (x:(List Int)):(encL rL_I l).set k [.fsl (encL rI x)]=encL rL_I (l.set k x):=encL_set rL_I l k x
@[simp] theorem len_rL_I (x:(List Int)):(rL_I x).length=1:=rfl
@[simp] theorem snoc_rL_B (l:List (List Bool)) (x:(List Bool)) (R:List (List AV)):encL rL_B l++([.fsl (encL rB x)]::R)=encL rL_B (l++[x])++R:=encL_snoc rL_B l x R
@[simp] theorem set_rL_B (l:List (List Bool)) (k:Nat) (x:(List Bool)):(encL rL_B l).set k [.fsl (encL rB x)]=encL rL_B (l.set k x):=encL_set rL_B l k x
@[simp] theorem len_rL_B (x:(List Bool)):(rL_B x).length=1:=rfl
@[simp] theorem snoc_rB (l:List Bool) (x:Bool) (R:List (List AV)):encL rB l++([.bool x]::R)=encL rB (l++[x])++R:=encL_snoc rB l x R
@[simp] theorem set_rB (l:List Bool) (k:Nat) (x:Bool):(encL rB l).set k [.bool x]=encL rB (l.set k x):=encL_set rB l k x
@[simp] theorem len_rB (x:Bool):(rB x).length=1:=rfl
@[simp] theorem thaw1_rI {D:Nat→Bool} {σ:AHeap} {d:Nat} (x:Int):(rI x).map (thawA D σ d)=rI x:=by cases d<;>simp
@[simp] theorem thaw_rI {D:Nat→Bool} {σ:AHeap} {d:Nat} (l:List Int):(encL rI l).map (fun e=>e.map (thawA D σ d))=encL rI l:=encL_thaw (fun x=>thaw1_rI x) l
theorem below1_rI {N:Nat} (x:Int):∀y∈rI x,Below N y:=by simp
@[simp] theorem below_rI {N:Nat} (l:List Int):(∀e∈encL rI l,∀x∈e,Below N x)↔True:=iff_true_intro (encL_below (fun x=>below1_rI x) l)
@[simp] theorem thaw1_rI_u8 {D:Nat→Bool} {σ:AHeap} {d:Nat} (x:Int):(rI_u8 x).map (thawA D σ d)=rI_u8 x:=by cases d<;>simp
@[simp] theorem thaw_rI_u8 {D:Nat→Bool} {σ:AHeap} {d:Nat} (l:List Int):(encL rI_u8 l).map (fun e=>e.map (thawA D σ d))=encL rI_u8 l:=encL_thaw (fun x=>thaw1_rI_u8 x) l
theorem below1_rI_u8 {N:Nat} (x:Int):∀y∈rI_u8 x,Below N y:=by simp
@[simp] theorem below_rI_u8 {N:Nat} (l:List Int):(∀e∈encL rI_u8 l,∀x∈e,Below N x)↔True:=iff_true_intro (encL_below (fun x=>below1_rI_u8 x) l)
@[simp] theorem thaw1_rQuad {D:Nat→Bool} {σ:AHeap} {d:Nat} (x:gQuad):(rQuad x).map (thawA D σ d)=rQuad x:=by cases d<;>simp
@[simp] theorem thaw_rQuad {D:Nat→Bool} {σ:AHeap} {d:Nat} (l:List gQuad):(encL rQuad l).map (fun e=>e.map (thawA D σ d))=encL rQuad l:=encL_thaw (fun x=>thaw1_rQuad x) l
theorem below1_rQuad {N:Nat} (x:gQuad):∀y∈rQuad x,Below N y:=by simp
@[simp] theorem below_rQuad {N:Nat} (l:List gQuad):(∀e∈encL rQuad l,∀x∈e,Below N x)↔True:=iff_true_intro (encL_below (fun x=>below1_rQuad x) l)
@[simp] theorem thaw1_rInstr {D:Nat→Bool} {σ:AHeap} {d:Nat} (x:gInstr):(rInstr x).map (thawA D σ d)=rInstr x:=by cases d<;>simp
@[simp] theorem thaw_rInstr {D:Nat→Bool} {σ:AHeap} {d:Nat} (l:List gInstr):(encL rInstr l).map (fun e=>e.map (thawA D σ d))=encL rInstr l:=encL_thaw (fun x=>thaw1_rInstr x) l
theorem below1_rInstr {N:Nat} (x:gInstr):∀y∈rInstr x,Below N y:=by simp
@[simp] theorem below_rInstr {N:Nat} (l:List gInstr):(∀e∈encL rInstr l,∀x∈e,Below N x)↔True:=iff_true_intro (encL_below (fun x=>below1_rInstr x) l)
@[simp] theorem thaw1_rExpr {D:Nat→Bool} {σ:AHeap} {d:Nat} (x:gExpr):(rExpr x).map (thawA D σ d)=rExpr x:=by cases d<;>simp
@[simp] theorem thaw_rExpr {D:Nat→Bool} {σ:AHeap} {d:Nat} (l:List gExpr):(encL rExpr l).map (fun e=>e.map (thawA D σ d))=encL rExpr l:=encL_thaw (fun x=>thaw1_rExpr x) l
mutual
theorem below1_rExpr {N:Nat}:∀(x:gExpr),∀y∈rExpr x,Below N y
 |⟨xOp,xN,xArgs⟩=>by
  have h0:=below1l_rExpr (N:=N) xArgs
  simp only[rExpr_eq]
  simp
  exact h0
theorem below1l_rExpr {N:Nat}:∀(l:List gExpr),∀e∈encL rExpr l,∀x∈e,Below N x
 |[]=>by simp[encL]
 |a::l=>by
  intro e he x hx
  simp only[encL,List.map_cons,List.mem_cons] at he
  rcases he with rfl|he
  ·exact below1_rExpr a x hx
  ·exact below1l_rExpr l e he x hx
end
@[simp] theorem below_rExpr {N:Nat} (l:List gExpr):(∀e∈encL rExpr l,∀x∈e,Below N x)↔True:=iff_true_intro (below1l_rExpr l)
@[simp] theorem thaw1_rStmt {D:Nat→Bool} {σ:AHeap} {d:Nat} (x:gStmt):(rStmt x).map (thawA D σ d)=rStmt x:=by cases d<;>simp
@[simp] theorem thaw_rStmt {D:Nat→Bool} {σ:AHeap} {d:Nat} (l:List gStmt):(encL rStmt l).map (fun e=>e.map (thawA D σ d))=encL rStmt l:=encL_thaw (fun x=>thaw1_rStmt x) l
mutual
theorem below1_rStmt {N:Nat}:∀(x:gStmt),∀y∈rStmt x,Below N y
 |⟨xKind,xVar,xBox,xExpr,xBody,xElse⟩=>by
  have h0:=below1l_rStmt (N:=N) xBody
  have h1:=below1l_rStmt (N:=N) xElse
  simp only[rStmt_eq]
  simp
  exact⟨h0,h1⟩
theorem below1l_rStmt {N:Nat}:∀(l:List gStmt),∀e∈encL rStmt l,∀x∈e,Below N x
 |[]=>by simp[encL]
 |a::l=>by
  intro e he x hx
  simp only[encL,List.map_cons,List.mem_cons] at he
  rcases he with rfl|he
  ·exact below1_rStmt a x hx
  ·exact below1l_rStmt l e he x hx
end
@[simp] theorem below_rStmt {N:Nat} (l:List gStmt):(∀e∈encL rStmt l,∀x∈e,Below N x)↔True:=iff_true_intro (below1l_rStmt l)
@[simp] theorem thaw1_rL_Expr {D:Nat→Bool} {σ:AHeap} {d:Nat} (x:(List gExpr)):(rL_Expr x).map (thawA D σ d)=rL_Expr x:=by cases d<;>simp
@[simp] theorem thaw_rL_Expr {D:Nat→Bool} {σ:AHeap} {d:Nat} (l:List (List gExpr)):(encL rL_Expr l).map (fun e=>e.map (thawA D σ d))=encL rL_Expr l:=encL_thaw (fun x=>thaw1_rL_Expr x) l
theorem below1_rL_Expr {N:Nat} (x:(List gExpr)):∀y∈rL_Expr x,Below N y:=by simp
@[simp] theorem below_rL_Expr {N:Nat} (l:List (List gExpr)):(∀e∈encL rL_Expr l,∀x∈e,Below N x)↔True:=iff_true_intro (encL_below (fun x=>below1_rL_Expr x) l)
@[simp] theorem thaw1_rL_Stmt {D:Nat→Bool} {σ:AHeap} {d:Nat} (x:(List gStmt)):(rL_Stmt x).map (thawA D σ d)=rL_Stmt x:=by cases d<;>simp
@[simp] theorem thaw_rL_Stmt {D:Nat→Bool} {σ:AHeap} {d:Nat} (l:List (List gStmt)):(encL rL_Stmt l).map (fun e=>e.map (thawA D σ d))=encL rL_Stmt l:=encL_thaw (fun x=>thaw1_rL_Stmt x) l
theorem below1_rL_Stmt {N:Nat} (x:(List gStmt)):∀y∈rL_Stmt x,Below N y:=by simp
@[simp] theorem below_rL_Stmt {N:Nat} (l:List (List gStmt)):(∀e∈encL rL_Stmt l,∀x∈e,Below N x)↔True:=iff_true_intro (encL_below (fun x=>below1_rL_Stmt x) l)
@[simp] theorem thaw1_rFact {D:Nat→Bool} {σ:AHeap} {d:Nat} (x:gFact):(rFact x).map (thawA D σ d)=rFact x:=by cases d<;>simp
@[simp] theorem thaw_rFact {D:Nat→Bool} {σ:AHeap} {d:Nat} (l:List gFact):(encL rFact l).map (fun e=>e.map (thawA D σ d))=encL rFact l:=encL_thaw (fun x=>thaw1_rFact x) l
theorem below1_rFact {N:Nat} (x:gFact):∀y∈rFact x,Below N y:=by simp
@[simp] theorem below_rFact {N:Nat} (l:List gFact):(∀e∈encL rFact l,∀x∈e,Below N x)↔True:=iff_true_intro (encL_below (fun x=>below1_rFact x) l)
@[simp] theorem thaw1_rL_Fact {D:Nat→Bool} {σ:AHeap} {d:Nat} (x:(List gFact)):(rL_Fact x).map (thawA D σ d)=rL_Fact x:=by cases d<;>simp
@[simp] theorem thaw_rL_Fact {D:Nat→Bool} {σ:AHeap} {d:Nat} (l:List (List gFact)):(encL rL_Fact l).map (fun e=>e.map (thawA D σ d))=encL rL_Fact l:=encL_thaw (fun x=>thaw1_rL_Fact x) l
theorem below1_rL_Fact {N:Nat} (x:(List gFact)):∀y∈rL_Fact x,Below N y:=by simp
@[simp] theorem below_rL_Fact {N:Nat} (l:List (List gFact)):(∀e∈encL rL_Fact l,∀x∈e,Below N x)↔True:=iff_true_intro (encL_below (fun x=>below1_rL_Fact x) l)
@[simp] theorem thaw1_rL_I {D:Nat→Bool} {σ:AHeap} {d:Nat} (x:(List Int)):(rL_I x).map (thawA D σ d)=rL_I x:=by cases d<;>simp
@[simp] theorem thaw_rL_I {D:Nat→Bool} {σ:AHeap} {d:Nat} (l:List (List Int)):(encL rL_I l).map (fun e=>e.map (thawA D σ d))=encL rL_I l:=encL_thaw (fun x=>thaw1_rL_I x) l
theorem below1_rL_I {N:Nat} (x:(List Int)):∀y∈rL_I x,Below N y:=by simp
@[simp] theorem below_rL_I {N:Nat} (l:List (List Int)):(∀e∈encL rL_I l,∀x∈e,Below N x)↔True:=iff_true_intro (encL_below (fun x=>below1_rL_I x) l)
@[simp] theorem thaw1_rB {D:Nat→Bool} {σ:AHeap} {d:Nat} (x:Bool):(rB x).map (thawA D σ d)=rB x:=by cases d<;>simp
@[simp] theorem thaw_rB {D:Nat→Bool} {σ:AHeap} {d:Nat} (l:List Bool):(encL rB l).map (fun e=>e.map (thawA D σ d))=encL rB l:=encL_thaw (fun x=>thaw1_rB x) l
theorem below1_rB {N:Nat} (x:Bool):∀y∈rB x,Below N y:=by simp
@[simp] theorem below_rB {N:Nat} (l:List Bool):(∀e∈encL rB l,∀x∈e,Below N x)↔True:=iff_true_intro (encL_below (fun x=>below1_rB x) l)
@[simp] theorem thaw1_rL_B {D:Nat→Bool} {σ:AHeap} {d:Nat} (x:(List Bool)):(rL_B x).map (thawA D σ d)=rL_B x:=by cases d<;>simp
@[simp] theorem thaw_rL_B {D:Nat→Bool} {σ:AHeap} {d:Nat} (l:List (List Bool)):(encL rL_B l).map (fun e=>e.map (thawA D σ d))=encL rL_B l:=encL_thaw (fun x=>thaw1_rL_B x) l
theorem below1_rL_B {N:Nat} (x:(List Bool)):∀y∈rL_B x,Below N y:=by simp
@[simp] theorem below_rL_B {N:Nat} (l:List (List Bool)):(∀e∈encL rL_B l,∀x∈e,Below N x)↔True:=iff_true_intro (encL_below (fun x=>below1_rL_B x) l)
def gI (l:List Int):List AV:=l.map (AV.int .i64)
def gR {α:Type} (f:α→List AV):List α→List AV
 |[]=>[]
 |x::l=>f x++gR f l
theorem gR_win {α:Type} {f:α→List AV} {sz:Nat} (hf:∀x,(f x).length=sz):∀{l:List α} {i:Nat} {v:α},l[i]? =some v→((gR f l).drop (i*sz)).take sz=f v
 |x::l,0,v,h=>by
  cases h
  show((f x++gR f l).drop (0*sz)).take sz=f x
  rw[Nat.zero_mul,List.drop_zero,List.take_left' (hf x)]
 |x::l,i+1,v,h=>by
  show((f x++gR f l).drop ((i+1)*sz)).take sz=f v
  rw[Nat.add_mul,Nat.one_mul,Nat.add_comm,← List.drop_drop,List.drop_left' (hf x)]
  exact gR_win hf (by simpa using h)
theorem gixR {T:Types} {t e:TypeId} {n:Nat} {ti:TI} (ht:T.kind t=some (.array n e)) (he:T e=some ti) {α:Type} {f:α→List AV} (hf:∀x,(f x).length=ti.sz) {l:List α} (hn:l.length=n) {i:Int} {v:α} (h:idx l i=some v) (σ:AHeap) (k:IntKind):
  indexAddrA T σ t (.fptr (gR f l) 0) (.int k i)=some (.fptr (f v) 0):=by
 have:=idx_lt3 h
 simp only[indexAddrA,ht,he,Option.bind_some,Nat.zero_add]
 rw[if_pos ⟨this.1,by omega⟩,gR_win hf this.2.2]
theorem gI_eq:∀l:List Int,gI l=gR rI l
 |[]=>rfl
 |x::l=>by show AV.int .i64 x::gI l=rI x++gR rI l;rw[gI_eq l];rfl

end Go.Abs
