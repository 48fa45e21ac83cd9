/- The rows of the program's types. -/
import Derived.Test.YtolmjhgondilhaaGreatNAbsN
set_option linter.unusedSimpArgs false
set_option linter.unusedVariables false
namespace Go.Abs
open Go

def rI (n:Int):List AV:=[.int .i64 n]
@[simp] theorem rI_eq (n:Int):rI n=[.int .i64 n]:=rfl
def rU8 (n:Int):List AV:=[.int .u8 n]
@[simp] theorem rI_u8_eq (n:Int):rU8 n=[.int .u8 n]:=rfl
def rI_u16 (n:Int):List AV:=[.int .u16 n]
@[simp] theorem rI_u16_eq (n:Int):rI_u16 n=[.int .u16 n]:=rfl
def rI_u32 (n:Int):List AV:=[.int .u32 n]
@[simp] theorem rI_u32_eq (n:Int):rI_u32 n=[.int .u32 n]:=rfl
def rI_i32 (n:Int):List AV:=[.int .i32 n]
@[simp] theorem rI_i32_eq (n:Int):rI_i32 n=[.int .i32 n]:=rfl
def rI_u64 (n:Int):List AV:=[.int .u64 n]
@[simp] theorem rI_u64_eq (n:Int):rI_u64 n=[.int .u64 n]:=rfl
def rB (n:Bool):List AV:=[.bool n]
@[simp] theorem rB_eq (n:Bool):rB n=[.bool n]:=rfl
def rS (n:ByteArray):List AV:=[.str n]
@[simp] theorem rS_eq (n:ByteArray):rS n=[.str n]:=rfl
structure gQuad where
 Op:Int
 Dst:Int
 A:Int
 B:Int
 N:Int
 deriving DecidableEq
def rQuad (x:gQuad):List AV:=[.int .i64 x.Op,.int .i64 x.Dst,.int .i64 x.A,.int .i64 x.B,.int .i64 x.N]
@[simp] theorem rQuad_eq (x:gQuad):rQuad x=[.int .i64 x.Op,.int .i64 x.Dst,.int .i64 x.A,.int .i64 x.B,.int .i64 x.N]:=rfl
def zA (x:List gQuad):List AV:=[.fsl (eL rQuad x)]
@[simp] theorem rL_Quad_eq (x:List gQuad):zA x=[.fsl (eL rQuad x)]:=rfl
def rL_I (x:List Int):List AV:=[.fsl (eL rI x)]
@[simp] theorem rL_I_eq (x:List Int):rL_I x=[.fsl (eL rI x)]:=rfl
structure gThread where
 Regs:(List Int)
 Pc:Int
 deriving DecidableEq
def zB (x:gThread):List AV:=[.fsl (eL rI x.Regs),.int .i64 x.Pc]
@[simp] theorem rThread_eq (x:gThread):zB x=[.fsl (eL rI x.Regs),.int .i64 x.Pc]:=rfl
structure gBox where
 Room:Int
 Items:(List Int)
 deriving DecidableEq
def rBox (x:gBox):List AV:=[.int .i64 x.Room,.fsl (eL rI x.Items)]
@[simp] theorem rBox_eq (x:gBox):rBox x=[.int .i64 x.Room,.fsl (eL rI x.Items)]:=rfl
def rL_L_Quad (x:(List (List gQuad))):List AV:=[.fsl (eL zA x)]
@[simp] theorem rL_L_Quad_eq (x:(List (List gQuad))):rL_L_Quad x=[.fsl (eL zA x)]:=rfl
def rL_Thread (x:List gThread):List AV:=[.fsl (eL zB x)]
@[simp] theorem rL_Thread_eq (x:List gThread):rL_Thread x=[.fsl (eL zB x)]:=rfl
def rL_Box (x:List gBox):List AV:=[.fsl (eL rBox x)]
@[simp] theorem rL_Box_eq (x:List gBox):rL_Box x=[.fsl (eL rBox x)]:=rfl
structure gCrew where
 Codes:(List (List gQuad))
 Threads:(List gThread)
 Boxes:(List gBox)
 Turn:Int
 Idle:Int
 Out:(List Int)
 deriving DecidableEq
def rCrew (x:gCrew):List AV:=[.fsl (eL zA x.Codes),.fsl (eL zB x.Threads),.fsl (eL rBox x.Boxes),.int .i64 x.Turn,.int .i64 x.Idle,.fsl (eL rI x.Out)]
@[simp] theorem rCrew_eq (x:gCrew):rCrew x=[.fsl (eL zA x.Codes),.fsl (eL zB x.Threads),.fsl (eL rBox x.Boxes),.int .i64 x.Turn,.int .i64 x.Idle,.fsl (eL rI x.Out)]:=rfl
def rL_B (x:List Bool):List AV:=[.fsl (eL rB x)]
@[simp] theorem rL_B_eq (x:List Bool):rL_B x=[.fsl (eL rB x)]:=rfl
def rL_I_u8 (x:List Int):List AV:=[.fsl (eL rU8 x)]
@[simp] theorem rL_I_u8_eq (x:List Int):rL_I_u8 x=[.fsl (eL rU8 x)]:=rfl
structure gL6Rd where
 b:(List Int)
 p:Int
 deriving DecidableEq
def rL6Rd (x:gL6Rd):List AV:=[.fsl (eL rU8 x.b),.int .i64 x.p]
@[simp] theorem rL6Rd_eq (x:gL6Rd):rL6Rd x=[.fsl (eL rU8 x.b),.int .i64 x.p]:=rfl
structure gExpr where
 Op:Int
 N:Int
 Args:(List gExpr)
mutual
def rExpr:gExpr->List AV
 |⟨Op,N,Args⟩=>[.int .i64 Op,.int .i64 N,.fsl (rExpr_l Args)]
def rExpr_l:List gExpr->List (List AV)
 |[]=>[]
 |x::l=>rExpr x::rExpr_l l
end
theorem rExpr_ll:∀l:List gExpr,rExpr_l l=eL rExpr l
 |[]=>by simp[rExpr_l,eL]
 |x::l=>by simp[rExpr_l,rExpr_ll l,eL]
@[simp] theorem gA (x:gExpr):rExpr x=[.int .i64 x.Op,.int .i64 x.N,.fsl (eL rExpr x.Args)]:=by cases x;simp only[rExpr,rExpr_ll]
def gY (x:List gExpr):List AV:=[.fsl (eL rExpr x)]
@[simp] theorem rL_Expr_eq (x:List gExpr):gY x=[.fsl (eL rExpr x)]:=rfl
structure gStmt where
 Kind:Int
 Var:Int
 Box:Int
 Expr:gExpr
 Body:(List gStmt)
 Else:(List gStmt)
mutual
def rStmt:gStmt->List AV
 |⟨Kind,Var,Box,Expr,Body,Else⟩=>[.int .i64 Kind,.int .i64 Var,.int .i64 Box,.int .i64 Expr.Op,.int .i64 Expr.N,.fsl (eL rExpr Expr.Args),.fsl (dQ Body),.fsl (dQ Else)]
def dQ:List gStmt->List (List AV)
 |[]=>[]
 |x::l=>rStmt x::dQ l
end
theorem rStmt_ll:∀l:List gStmt,dQ l=eL rStmt l
 |[]=>by simp[dQ,eL]
 |x::l=>by simp[dQ,rStmt_ll l,eL]
@[simp] theorem xI (x:gStmt):rStmt x=[.int .i64 x.Kind,.int .i64 x.Var,.int .i64 x.Box,.int .i64 x.Expr.Op,.int .i64 x.Expr.N,.fsl (eL rExpr x.Expr.Args),.fsl (eL rStmt x.Body),.fsl (eL rStmt x.Else)]:=by cases x;simp only[rStmt,rStmt_ll]
def gX (x:List gStmt):List AV:=[.fsl (eL rStmt x)]
@[simp] theorem rL_Stmt_eq (x:List gStmt):gX x=[.fsl (eL rStmt x)]:=rfl
structure gFact where
 Kind:Int
 N:Int
 deriving DecidableEq
def rFact (x:gFact):List AV:=[.int .i64 x.Kind,.int .i64 x.N]
@[simp] theorem rFact_eq (x:gFact):rFact x=[.int .i64 x.Kind,.int .i64 x.N]:=rfl
def kR (x:List gFact):List AV:=[.fsl (eL rFact x)]
@[simp] theorem rL_Fact_eq (x:List gFact):kR x=[.fsl (eL rFact x)]:=rfl
@[simp] theorem snoc_rI_u8 (l:List Int)(x:Int)(R:List (List AV)):eL rU8 l++([.int .u8 x]::R)=eL rU8 (l++[x])++R:=yO rU8 l x R
@[simp] theorem set_rI_u8 (l:List Int)(k:Nat)(x:Int):(eL rU8 l).set k [.int .u8 x]=eL rU8 (l.set k x):=zY rU8 l k x
@[simp] theorem len_rI_u8 (x:Int):(rU8 x).length=1:=rfl
@[simp] theorem snoc_rI (l:List Int)(x:Int)(R:List (List AV)):eL rI l++([.int .i64 x]::R)=eL rI (l++[x])++R:=yO rI l x R
@[simp] theorem set_rI (l:List Int)(k:Nat)(x:Int):(eL rI l).set k [.int .i64 x]=eL rI (l.set k x):=zY rI l k x
@[simp] theorem len_rI (x:Int):(rI x).length=1:=rfl
@[simp] theorem snoc_rL_Quad (l:List (List gQuad))(x:List gQuad)(R:List (List AV)):eL zA l++([.fsl (eL rQuad x)]::R)=eL zA (l++[x])++R:=yO zA l x R
@[simp] theorem set_rL_Quad (l:List (List gQuad))(k:Nat)(x:List gQuad):(eL zA l).set k [.fsl (eL rQuad x)]=eL zA (l.set k x):=zY zA l k x
@[simp] theorem len_rL_Quad (x:List gQuad):(zA x).length=1:=rfl
@[simp] theorem snoc_rThread (l:List gThread)(xRegs:List Int)(xPc:Int)(R:List (List AV)):eL zB l++([.fsl (eL rI xRegs),.int .i64 xPc]::R)=eL zB (l++[⟨xRegs,xPc⟩])++R:=yO zB l ⟨xRegs,xPc⟩ R
@[simp] theorem set_rThread (l:List gThread)(k:Nat)(xRegs:List Int)(xPc:Int):(eL zB l).set k [.fsl (eL rI xRegs),.int .i64 xPc]=eL zB (l.set k ⟨xRegs,xPc⟩):=zY zB l k ⟨xRegs,xPc⟩
@[simp] theorem len_rThread (x:gThread):(zB x).length=2:=rfl
@[simp] theorem snoc_rBox (l:List gBox)(xRoom:Int)(xItems:List Int)(R:List (List AV)):eL rBox l++([.int .i64 xRoom,.fsl (eL rI xItems)]::R)=eL rBox (l++[⟨xRoom,xItems⟩])++R:=yO rBox l ⟨xRoom,xItems⟩ R
@[simp] theorem set_rBox (l:List gBox)(k:Nat)(xRoom:Int)(xItems:List Int):(eL rBox l).set k [.int .i64 xRoom,.fsl (eL rI xItems)]=eL rBox (l.set k ⟨xRoom,xItems⟩):=zY rBox l k ⟨xRoom,xItems⟩
@[simp] theorem len_rBox (x:gBox):(rBox x).length=2:=rfl
@[simp] theorem snoc_rQuad (l:List gQuad)(xOp:Int)(xDst:Int)(xA:Int)(xB:Int)(xN:Int)(R:List (List AV)):eL rQuad l++([.int .i64 xOp,.int .i64 xDst,.int .i64 xA,.int .i64 xB,.int .i64 xN]::R)=eL rQuad (l++[⟨xOp,xDst,xA,xB,xN⟩])++R:=yO rQuad l ⟨xOp,xDst,xA,xB,xN⟩ R
@[simp] theorem set_rQuad (l:List gQuad)(k:Nat)(xOp:Int)(xDst:Int)(xA:Int)(xB:Int)(xN:Int):(eL rQuad l).set k [.int .i64 xOp,.int .i64 xDst,.int .i64 xA,.int .i64 xB,.int .i64 xN]=eL rQuad (l.set k ⟨xOp,xDst,xA,xB,xN⟩):=zY rQuad l k ⟨xOp,xDst,xA,xB,xN⟩
@[simp] theorem len_rQuad (x:gQuad):(rQuad x).length=5:=rfl
@[simp] theorem snoc_rB (l:List Bool)(x:Bool)(R:List (List AV)):eL rB l++([.bool x]::R)=eL rB (l++[x])++R:=yO rB l x R
@[simp] theorem set_rB (l:List Bool)(k:Nat)(x:Bool):(eL rB l).set k [.bool x]=eL rB (l.set k x):=zY rB l k x
@[simp] theorem len_rB (x:Bool):(rB x).length=1:=rfl
@[simp] theorem snoc_rL_B (l:List (List Bool))(x:List Bool)(R:List (List AV)):eL rL_B l++([.fsl (eL rB x)]::R)=eL rL_B (l++[x])++R:=yO rL_B l x R
@[simp] theorem set_rL_B (l:List (List Bool))(k:Nat)(x:List Bool):(eL rL_B l).set k [.fsl (eL rB x)]=eL rL_B (l.set k x):=zY rL_B l k x
@[simp] theorem len_rL_B (x:List Bool):(rL_B x).length=1:=rfl
@[simp] theorem snoc_rL_I (l:List (List Int))(x:List Int)(R:List (List AV)):eL rL_I l++([.fsl (eL rI x)]::R)=eL rL_I (l++[x])++R:=yO rL_I l x R
@[simp] theorem set_rL_I (l:List (List Int))(k:Nat)(x:List Int):(eL rL_I l).set k [.fsl (eL rI x)]=eL rL_I (l.set k x):=zY rL_I l k x
@[simp] theorem len_rL_I (x:List Int):(rL_I x).length=1:=rfl
@[simp] theorem snoc_rStmt (l:List gStmt)(xKind:Int)(xVar:Int)(xBox:Int)(xExprOp:Int)(xExprN:Int)(xExprArgs:List gExpr)(xBody:List gStmt)(xElse:List gStmt)(R:List (List AV)):eL rStmt l++([.int .i64 xKind,.int .i64 xVar,.int .i64 xBox,.int .i64 xExprOp,.int .i64 xExprN,.fsl (eL rExpr xExprArgs),.fsl (eL rStmt xBody),.fsl (eL rStmt xElse)]::R)=eL rStmt (l++[⟨xKind,xVar,xBox,⟨xExprOp,xExprN,xExprArgs⟩,xBody,xElse⟩])++R:=by have h:=yO rStmt l ⟨xKind,xVar,xBox,⟨xExprOp,xExprN,xExprArgs⟩,xBody,xElse⟩ R;rw[xI] at h;exact h
@[simp] theorem set_rStmt (l:List gStmt)(k:Nat)(xKind:Int)(xVar:Int)(xBox:Int)(xExprOp:Int)(xExprN:Int)(xExprArgs:List gExpr)(xBody:List gStmt)(xElse:List gStmt):(eL rStmt l).set k [.int .i64 xKind,.int .i64 xVar,.int .i64 xBox,.int .i64 xExprOp,.int .i64 xExprN,.fsl (eL rExpr xExprArgs),.fsl (eL rStmt xBody),.fsl (eL rStmt xElse)]=eL rStmt (l.set k ⟨xKind,xVar,xBox,⟨xExprOp,xExprN,xExprArgs⟩,xBody,xElse⟩):=by have h:=zY rStmt l k ⟨xKind,xVar,xBox,⟨xExprOp,xExprN,xExprArgs⟩,xBody,xElse⟩;rw[xI] at h;exact h
@[simp] theorem len_rStmt (x:gStmt):(rStmt x).length=8:=by rw[xI];rfl
theorem lin_rStmt (x:gStmt):(rStmt x).all AV.lin1=true:=by rw[xI];rfl
@[simp] theorem snoc_rExpr (l:List gExpr)(xOp:Int)(xN:Int)(xArgs:List gExpr)(R:List (List AV)):eL rExpr l++([.int .i64 xOp,.int .i64 xN,.fsl (eL rExpr xArgs)]::R)=eL rExpr (l++[⟨xOp,xN,xArgs⟩])++R:=by have h:=yO rExpr l ⟨xOp,xN,xArgs⟩ R;rw[gA] at h;exact h
@[simp] theorem set_rExpr (l:List gExpr)(k:Nat)(xOp:Int)(xN:Int)(xArgs:List gExpr):(eL rExpr l).set k [.int .i64 xOp,.int .i64 xN,.fsl (eL rExpr xArgs)]=eL rExpr (l.set k ⟨xOp,xN,xArgs⟩):=by have h:=zY rExpr l k ⟨xOp,xN,xArgs⟩;rw[gA] at h;exact h
@[simp] theorem len_rExpr (x:gExpr):(rExpr x).length=3:=by rw[gA];rfl
theorem lin_rExpr (x:gExpr):(rExpr x).all AV.lin1=true:=by rw[gA];rfl
@[simp] theorem snoc_rL_Fact (l:List (List gFact))(x:List gFact)(R:List (List AV)):eL kR l++([.fsl (eL rFact x)]::R)=eL kR (l++[x])++R:=yO kR l x R
@[simp] theorem set_rL_Fact (l:List (List gFact))(k:Nat)(x:List gFact):(eL kR l).set k [.fsl (eL rFact x)]=eL kR (l.set k x):=zY kR l k x
@[simp] theorem len_rL_Fact (x:List gFact):(kR x).length=1:=rfl
@[simp] theorem snoc_rFact (l:List gFact)(xKind:Int)(xN:Int)(R:List (List AV)):eL rFact l++([.int .i64 xKind,.int .i64 xN]::R)=eL rFact (l++[⟨xKind,xN⟩])++R:=yO rFact l ⟨xKind,xN⟩ R
@[simp] theorem set_rFact (l:List gFact)(k:Nat)(xKind:Int)(xN:Int):(eL rFact l).set k [.int .i64 xKind,.int .i64 xN]=eL rFact (l.set k ⟨xKind,xN⟩):=zY rFact l k ⟨xKind,xN⟩
@[simp] theorem len_rFact (x:gFact):(rFact x).length=2:=rfl
@[simp] theorem thaw1_rI_u8 {D:Nat->Bool}{J:AHeap}{d:Nat}(x:Int):(rU8 x).map (thawA D J d)=rU8 x:=by cases d<;>simp
@[simp] theorem thaw_rI_u8 {D:Nat->Bool}{J:AHeap}{d:Nat}(l:List Int):(eL rU8 l).map (fun e=>e.map (thawA D J d))=eL rU8 l:=yE (fun x=>thaw1_rI_u8 x) l
theorem below1_rI_u8 {N:Nat}(x:Int):∀y∈rU8 x,Below N y:=by simp
@[simp] theorem below_rI_u8 {N:Nat}(l:List Int):(∀e∈eL rU8 l,∀x∈e,Below N x)<->True:=iff_true_intro (kZ (fun x=>below1_rI_u8 x) l)
@[simp] theorem thaw1_rI {D:Nat->Bool}{J:AHeap}{d:Nat}(x:Int):(rI x).map (thawA D J d)=rI x:=by cases d<;>simp
@[simp] theorem thaw_rI {D:Nat->Bool}{J:AHeap}{d:Nat}(l:List Int):(eL rI l).map (fun e=>e.map (thawA D J d))=eL rI l:=yE (fun x=>thaw1_rI x) l
theorem below1_rI {N:Nat}(x:Int):∀y∈rI x,Below N y:=by simp
@[simp] theorem below_rI {N:Nat}(l:List Int):(∀e∈eL rI l,∀x∈e,Below N x)<->True:=iff_true_intro (kZ (fun x=>below1_rI x) l)
@[simp] theorem thaw1_rQuad {D:Nat->Bool}{J:AHeap}{d:Nat}(x:gQuad):(rQuad x).map (thawA D J d)=rQuad x:=by cases d<;>simp
@[simp] theorem thaw_rQuad {D:Nat->Bool}{J:AHeap}{d:Nat}(l:List gQuad):(eL rQuad l).map (fun e=>e.map (thawA D J d))=eL rQuad l:=yE (fun x=>thaw1_rQuad x) l
theorem below1_rQuad {N:Nat}(x:gQuad):∀y∈rQuad x,Below N y:=by simp
@[simp] theorem below_rQuad {N:Nat}(l:List gQuad):(∀e∈eL rQuad l,∀x∈e,Below N x)<->True:=iff_true_intro (kZ (fun x=>below1_rQuad x) l)
@[simp] theorem thaw1_rL_Quad {D:Nat->Bool}{J:AHeap}{d:Nat}(x:List gQuad):(zA x).map (thawA D J d)=zA x:=by cases d<;>simp
@[simp] theorem thaw_rL_Quad {D:Nat->Bool}{J:AHeap}{d:Nat}(l:List (List gQuad)):(eL zA l).map (fun e=>e.map (thawA D J d))=eL zA l:=yE (fun x=>thaw1_rL_Quad x) l
theorem below1_rL_Quad {N:Nat}(x:List gQuad):∀y∈zA x,Below N y:=by simp
@[simp] theorem below_rL_Quad {N:Nat}(l:List (List gQuad)):(∀e∈eL zA l,∀x∈e,Below N x)<->True:=iff_true_intro (kZ (fun x=>below1_rL_Quad x) l)
@[simp] theorem thaw1_rThread {D:Nat->Bool}{J:AHeap}{d:Nat}(x:gThread):(zB x).map (thawA D J d)=zB x:=by cases d<;>simp
@[simp] theorem thaw_rThread {D:Nat->Bool}{J:AHeap}{d:Nat}(l:List gThread):(eL zB l).map (fun e=>e.map (thawA D J d))=eL zB l:=yE (fun x=>thaw1_rThread x) l
theorem below1_rThread {N:Nat}(x:gThread):∀y∈zB x,Below N y:=by simp
@[simp] theorem below_rThread {N:Nat}(l:List gThread):(∀e∈eL zB l,∀x∈e,Below N x)<->True:=iff_true_intro (kZ (fun x=>below1_rThread x) l)
@[simp] theorem thaw1_rL_I {D:Nat->Bool}{J:AHeap}{d:Nat}(x:List Int):(rL_I x).map (thawA D J d)=rL_I x:=by cases d<;>simp
@[simp] theorem thaw_rL_I {D:Nat->Bool}{J:AHeap}{d:Nat}(l:List (List Int)):(eL rL_I l).map (fun e=>e.map (thawA D J d))=eL rL_I l:=yE (fun x=>thaw1_rL_I x) l
theorem below1_rL_I {N:Nat}(x:List Int):∀y∈rL_I x,Below N y:=by simp
@[simp] theorem below_rL_I {N:Nat}(l:List (List Int)):(∀e∈eL rL_I l,∀x∈e,Below N x)<->True:=iff_true_intro (kZ (fun x=>below1_rL_I x) l)
@[simp] theorem thaw1_rBox {D:Nat->Bool}{J:AHeap}{d:Nat}(x:gBox):(rBox x).map (thawA D J d)=rBox x:=by cases d<;>simp
@[simp] theorem thaw_rBox {D:Nat->Bool}{J:AHeap}{d:Nat}(l:List gBox):(eL rBox l).map (fun e=>e.map (thawA D J d))=eL rBox l:=yE (fun x=>thaw1_rBox x) l
theorem below1_rBox {N:Nat}(x:gBox):∀y∈rBox x,Below N y:=by simp
@[simp] theorem below_rBox {N:Nat}(l:List gBox):(∀e∈eL rBox l,∀x∈e,Below N x)<->True:=iff_true_intro (kZ (fun x=>below1_rBox x) l)
@[simp] theorem thaw1_rB {D:Nat->Bool}{J:AHeap}{d:Nat}(x:Bool):(rB x).map (thawA D J d)=rB x:=by cases d<;>simp
@[simp] theorem thaw_rB {D:Nat->Bool}{J:AHeap}{d:Nat}(l:List Bool):(eL rB l).map (fun e=>e.map (thawA D J d))=eL rB l:=yE (fun x=>thaw1_rB x) l
theorem below1_rB {N:Nat}(x:Bool):∀y∈rB x,Below N y:=by simp
@[simp] theorem below_rB {N:Nat}(l:List Bool):(∀e∈eL rB l,∀x∈e,Below N x)<->True:=iff_true_intro (kZ (fun x=>below1_rB x) l)
@[simp] theorem thaw1_rL_B {D:Nat->Bool}{J:AHeap}{d:Nat}(x:List Bool):(rL_B x).map (thawA D J d)=rL_B x:=by cases d<;>simp
@[simp] theorem thaw_rL_B {D:Nat->Bool}{J:AHeap}{d:Nat}(l:List (List Bool)):(eL rL_B l).map (fun e=>e.map (thawA D J d))=eL rL_B l:=yE (fun x=>thaw1_rL_B x) l
theorem below1_rL_B {N:Nat}(x:List Bool):∀y∈rL_B x,Below N y:=by simp
@[simp] theorem below_rL_B {N:Nat}(l:List (List Bool)):(∀e∈eL rL_B l,∀x∈e,Below N x)<->True:=iff_true_intro (kZ (fun x=>below1_rL_B x) l)
@[simp] theorem thaw1_rExpr {D:Nat->Bool}{J:AHeap}{d:Nat}(x:gExpr):(rExpr x).map (thawA D J d)=rExpr x:=by cases d<;>simp
@[simp] theorem thaw_rExpr {D:Nat->Bool}{J:AHeap}{d:Nat}(l:List gExpr):(eL rExpr l).map (fun e=>e.map (thawA D J d))=eL rExpr l:=yE (fun x=>thaw1_rExpr x) l
mutual
theorem below1_rExpr {N:Nat}:∀(x:gExpr),∀y∈rExpr x,Below N y
 |⟨xOp,xN,xArgs⟩=>by
  have h0:=nW (N:=N) xArgs
  simp only[gA]
  simp
  exact h0
theorem nW {N:Nat}:∀(l:List gExpr),∀e∈eL rExpr l,∀x∈e,Below N x
 |[]=>by simp[eL]
 |a::l=>by
  intro e he x hx
  simp only[eL,List.map_cons,List.mem_cons] at he
  rcases he with rfl|he
  .exact below1_rExpr a x hx
  .exact nW l e he x hx
end
@[simp] theorem below_rExpr {N:Nat}(l:List gExpr):(∀e∈eL rExpr l,∀x∈e,Below N x)<->True:=iff_true_intro (nW l)
@[simp] theorem thaw1_rStmt {D:Nat->Bool}{J:AHeap}{d:Nat}(x:gStmt):(rStmt x).map (thawA D J d)=rStmt x:=by cases d<;>simp
@[simp] theorem thaw_rStmt {D:Nat->Bool}{J:AHeap}{d:Nat}(l:List gStmt):(eL rStmt l).map (fun e=>e.map (thawA D J d))=eL rStmt l:=yE (fun x=>thaw1_rStmt x) l
mutual
theorem below1_rStmt {N:Nat}:∀(x:gStmt),∀y∈rStmt x,Below N y
 |⟨xKind,xVar,xBox,xExpr,xBody,xElse⟩=>by
  have h0:=uX (N:=N) xBody
  have h1:=uX (N:=N) xElse
  simp only[xI]
  simp
  exact⟨h0,h1⟩
theorem uX {N:Nat}:∀(l:List gStmt),∀e∈eL rStmt l,∀x∈e,Below N x
 |[]=>by simp[eL]
 |a::l=>by
  intro e he x hx
  simp only[eL,List.map_cons,List.mem_cons] at he
  rcases he with rfl|he
  .exact below1_rStmt a x hx
  .exact uX l e he x hx
end
@[simp] theorem below_rStmt {N:Nat}(l:List gStmt):(∀e∈eL rStmt l,∀x∈e,Below N x)<->True:=iff_true_intro (uX l)
@[simp] theorem thaw1_rL_Expr {D:Nat->Bool}{J:AHeap}{d:Nat}(x:List gExpr):(gY x).map (thawA D J d)=gY x:=by cases d<;>simp
@[simp] theorem thaw_rL_Expr {D:Nat->Bool}{J:AHeap}{d:Nat}(l:List (List gExpr)):(eL gY l).map (fun e=>e.map (thawA D J d))=eL gY l:=yE (fun x=>thaw1_rL_Expr x) l
theorem below1_rL_Expr {N:Nat}(x:List gExpr):∀y∈gY x,Below N y:=by simp
@[simp] theorem below_rL_Expr {N:Nat}(l:List (List gExpr)):(∀e∈eL gY l,∀x∈e,Below N x)<->True:=iff_true_intro (kZ (fun x=>below1_rL_Expr x) l)
@[simp] theorem thaw1_rL_Stmt {D:Nat->Bool}{J:AHeap}{d:Nat}(x:List gStmt):(gX x).map (thawA D J d)=gX x:=by cases d<;>simp
@[simp] theorem thaw_rL_Stmt {D:Nat->Bool}{J:AHeap}{d:Nat}(l:List (List gStmt)):(eL gX l).map (fun e=>e.map (thawA D J d))=eL gX l:=yE (fun x=>thaw1_rL_Stmt x) l
theorem below1_rL_Stmt {N:Nat}(x:List gStmt):∀y∈gX x,Below N y:=by simp
@[simp] theorem below_rL_Stmt {N:Nat}(l:List (List gStmt)):(∀e∈eL gX l,∀x∈e,Below N x)<->True:=iff_true_intro (kZ (fun x=>below1_rL_Stmt x) l)
@[simp] theorem thaw1_rFact {D:Nat->Bool}{J:AHeap}{d:Nat}(x:gFact):(rFact x).map (thawA D J d)=rFact x:=by cases d<;>simp
@[simp] theorem thaw_rFact {D:Nat->Bool}{J:AHeap}{d:Nat}(l:List gFact):(eL rFact l).map (fun e=>e.map (thawA D J d))=eL rFact l:=yE (fun x=>thaw1_rFact x) l
theorem below1_rFact {N:Nat}(x:gFact):∀y∈rFact x,Below N y:=by simp
@[simp] theorem below_rFact {N:Nat}(l:List gFact):(∀e∈eL rFact l,∀x∈e,Below N x)<->True:=iff_true_intro (kZ (fun x=>below1_rFact x) l)
@[simp] theorem thaw1_rL_Fact {D:Nat->Bool}{J:AHeap}{d:Nat}(x:List gFact):(kR x).map (thawA D J d)=kR x:=by cases d<;>simp
@[simp] theorem thaw_rL_Fact {D:Nat->Bool}{J:AHeap}{d:Nat}(l:List (List gFact)):(eL kR l).map (fun e=>e.map (thawA D J d))=eL kR l:=yE (fun x=>thaw1_rL_Fact x) l
theorem below1_rL_Fact {N:Nat}(x:List gFact):∀y∈kR x,Below N y:=by simp
@[simp] theorem below_rL_Fact {N:Nat}(l:List (List gFact)):(∀e∈eL kR l,∀x∈e,Below N x)<->True:=iff_true_intro (kZ (fun x=>below1_rL_Fact x) l)
end Go.Abs
