/- The rules by which a walk runs regions. -/
import Derived.Test.YtolmjhgondilhaaGreatNAbs19
set_option linter.unusedSimpArgs false
set_option linter.unusedVariables false
namespace Go.Abs
open Go

attribute [simp] AAct.get AAct.put ev dstOk St.ofO St.ofV AV.ofC Types.kind part loadA pO fY tE fieldA indexA gC jD yD AAct.keep argsA retQ resA tupA thenQ blockQ
attribute [simp] TI.wz TI.zz AV.weak1
attribute [simp] sH newA boxA mX callA uM uB buildA mL uH qO xU lowA highA AV.flat TK.agg uG

@[simp] theorem weak_int (k:IntKind)(n:Int):AV.weak (.int k n)=.int k n:=rfl
@[simp] theorem weak_bool (b:Bool):AV.weak (.bool b)=.bool b:=rfl
@[simp] theorem weak_str (b:ByteArray):AV.weak (.str b)=.str b:=rfl
@[simp] theorem weak_nilp:AV.weak .nilp=.nilp:=rfl
@[simp] theorem weak_nilf:AV.weak .nilf=.nilf:=rfl
@[simp] theorem weak_nilsl:AV.weak .nilsl=.fsl []:=rfl
@[simp] theorem weak_esl:AV.weak .esl=.fsl []:=rfl
@[simp] theorem weak_ptr (o r i:Nat):AV.weak (.ptr o r i)=.ptr o r i:=rfl
@[simp] theorem weak_sl (o r i:Nat):AV.weak (.sl o r i)=.sl o r i:=rfl
@[simp] theorem weak_fptr (cs:List AV)(i:Nat):AV.weak (.fptr cs i)=.fptr cs i:=rfl
@[simp] theorem weak_fsl (es:List (List AV)):AV.weak (.fsl es)=.fsl es:=rfl
@[simp] theorem weak_agg (cs:List AV):AV.weak (.agg cs)=.agg (cs.map AV.weak1):=rfl
@[simp] theorem weak_tup (cs:List AV):AV.weak (.tup cs)=.tup cs:=rfl
@[simp] theorem weak_clo (f:FuncId)(a b:List AV):AV.weak (.clo f a b)=.clo f a b:=rfl
@[simp] theorem weakS_agg (cs:List AV):AV.weakS true (.agg cs)=.agg cs:=rfl
@[simp] theorem weakS_f (x:AV):AV.weakS false x=x.weak:=rfl
@[simp] theorem weakS_int (k:IntKind)(n:Int):AV.weakS true (.int k n)=.int k n:=rfl
@[simp] theorem weakS_bool (b:Bool):AV.weakS true (.bool b)=.bool b:=rfl
@[simp] theorem weakS_str (b:ByteArray):AV.weakS true (.str b)=.str b:=rfl
@[simp] theorem weakS_nilp:AV.weakS true .nilp=.nilp:=rfl
@[simp] theorem weakS_nilf:AV.weakS true .nilf=.nilf:=rfl
@[simp] theorem weakS_nilsl:AV.weakS true .nilsl=.fsl []:=rfl
@[simp] theorem weakS_esl:AV.weakS true .esl=.esl:=rfl
@[simp] theorem weakS_ptr (o r i:Nat):AV.weakS true (.ptr o r i)=.ptr o r i:=rfl
@[simp] theorem weakS_sl (o r i:Nat):AV.weakS true (.sl o r i)=.sl o r i:=rfl
@[simp] theorem weakS_fptr (cs:List AV)(i:Nat):AV.weakS true (.fptr cs i)=.fptr cs i:=rfl
@[simp] theorem weakS_fsl (es:List (List AV)):AV.weakS true (.fsl es)=.fsl es:=rfl
@[simp] theorem weakS_any:AV.weakS true .any=.any:=rfl
@[simp] theorem weak_any:AV.weak .any=.any:=rfl
@[simp] theorem ok_int (k:IntKind)(n:Int):AV.ok (AV.int k n)=some (AV.int k n):=rfl
@[simp] theorem good_int (k:IntKind)(n:Int):AV.good (AV.int k n)=true:=rfl
@[simp] theorem one_int (k:IntKind)(n:Int):AV.one (AV.int k n)=true:=rfl
@[simp] theorem cells_int (k:IntKind)(n:Int):AV.cells (AV.int k n)=[(AV.int k n)]:=rfl
@[simp] theorem leaf_int (k:IntKind)(n:Int):AV.leaf (AV.int k n)=true:=rfl
@[simp] theorem thaw_int (k:IntKind)(n:Int)(D:Nat->Bool)(J:AHeap)(d:Nat):thawA D J (d+1) (AV.int k n)=(AV.int k n):=rfl
@[simp] theorem ok_bool (b:Bool):AV.ok (AV.bool b)=some (AV.bool b):=rfl
@[simp] theorem good_bool (b:Bool):AV.good (AV.bool b)=true:=rfl
@[simp] theorem one_bool (b:Bool):AV.one (AV.bool b)=true:=rfl
@[simp] theorem cells_bool (b:Bool):AV.cells (AV.bool b)=[(AV.bool b)]:=rfl
@[simp] theorem leaf_bool (b:Bool):AV.leaf (AV.bool b)=true:=rfl
@[simp] theorem thaw_bool (b:Bool)(D:Nat->Bool)(J:AHeap)(d:Nat):thawA D J (d+1) (AV.bool b)=(AV.bool b):=rfl
@[simp] theorem ok_str (s:ByteArray):AV.ok (AV.str s)=some (AV.str s):=rfl
@[simp] theorem good_str (s:ByteArray):AV.good (AV.str s)=true:=rfl
@[simp] theorem one_str (s:ByteArray):AV.one (AV.str s)=true:=rfl
@[simp] theorem cells_str (s:ByteArray):AV.cells (AV.str s)=[(AV.str s)]:=rfl
@[simp] theorem leaf_str (s:ByteArray):AV.leaf (AV.str s)=true:=rfl
@[simp] theorem thaw_str (s:ByteArray)(D:Nat->Bool)(J:AHeap)(d:Nat):thawA D J (d+1) (AV.str s)=(AV.str s):=rfl
@[simp] theorem ok_nilp :AV.ok (AV.nilp)=some (AV.nilp):=rfl
@[simp] theorem good_nilp :AV.good (AV.nilp)=true:=rfl
@[simp] theorem one_nilp :AV.one (AV.nilp)=true:=rfl
@[simp] theorem cells_nilp :AV.cells (AV.nilp)=[(AV.nilp)]:=rfl
@[simp] theorem leaf_nilp :AV.leaf (AV.nilp)=false:=rfl
@[simp] theorem thaw_nilp  (D:Nat->Bool)(J:AHeap)(d:Nat):thawA D J (d+1) (AV.nilp)=(AV.nilp):=rfl
@[simp] theorem ok_nilsl :AV.ok (AV.nilsl)=some (AV.nilsl):=rfl
@[simp] theorem good_nilsl :AV.good (AV.nilsl)=true:=rfl
@[simp] theorem one_nilsl :AV.one (AV.nilsl)=true:=rfl
@[simp] theorem cells_nilsl :AV.cells (AV.nilsl)=[(AV.nilsl)]:=rfl
@[simp] theorem leaf_nilsl :AV.leaf (AV.nilsl)=false:=rfl
@[simp] theorem thaw_nilsl  (D:Nat->Bool)(J:AHeap)(d:Nat):thawA D J (d+1) (AV.nilsl)=.fsl []:=rfl
@[simp] theorem ok_esl :AV.ok (AV.esl)=some (AV.esl):=rfl
@[simp] theorem good_esl :AV.good (AV.esl)=true:=rfl
@[simp] theorem one_esl :AV.one (AV.esl)=true:=rfl
@[simp] theorem cells_esl :AV.cells (AV.esl)=[(AV.esl)]:=rfl
@[simp] theorem leaf_esl :AV.leaf (AV.esl)=false:=rfl
@[simp] theorem thaw_esl  (D:Nat->Bool)(J:AHeap)(d:Nat):thawA D J (d+1) (AV.esl)=.fsl []:=rfl
@[simp] theorem ok_nilf :AV.ok (AV.nilf)=some (AV.nilf):=rfl
@[simp] theorem good_nilf :AV.good (AV.nilf)=true:=rfl
@[simp] theorem one_nilf :AV.one (AV.nilf)=true:=rfl
@[simp] theorem cells_nilf :AV.cells (AV.nilf)=[(AV.nilf)]:=rfl
@[simp] theorem leaf_nilf :AV.leaf (AV.nilf)=false:=rfl
@[simp] theorem thaw_nilf  (D:Nat->Bool)(J:AHeap)(d:Nat):thawA D J (d+1) (AV.nilf)=(AV.nilf):=rfl
@[simp] theorem ok_ptr (o r i:Nat):AV.ok (AV.ptr o r i)=some (AV.ptr o r i):=rfl
@[simp] theorem good_ptr (o r i:Nat):AV.good (AV.ptr o r i)=true:=rfl
@[simp] theorem one_ptr (o r i:Nat):AV.one (AV.ptr o r i)=true:=rfl
@[simp] theorem cells_ptr (o r i:Nat):AV.cells (AV.ptr o r i)=[(AV.ptr o r i)]:=rfl
@[simp] theorem leaf_ptr (o r i:Nat):AV.leaf (AV.ptr o r i)=false:=rfl
@[simp] theorem ok_sl (o r n:Nat):AV.ok (AV.sl o r n)=some (AV.sl o r n):=rfl
@[simp] theorem good_sl (o r n:Nat):AV.good (AV.sl o r n)=true:=rfl
@[simp] theorem one_sl (o r n:Nat):AV.one (AV.sl o r n)=true:=rfl
@[simp] theorem cells_sl (o r n:Nat):AV.cells (AV.sl o r n)=[(AV.sl o r n)]:=rfl
@[simp] theorem leaf_sl (o r n:Nat):AV.leaf (AV.sl o r n)=false:=rfl
@[simp] theorem ok_fptr (cs:List AV)(i:Nat):AV.ok (AV.fptr cs i)=some (AV.fptr cs i):=rfl
@[simp] theorem good_fptr (cs:List AV)(i:Nat):AV.good (AV.fptr cs i)=true:=rfl
@[simp] theorem one_fptr (cs:List AV)(i:Nat):AV.one (AV.fptr cs i)=true:=rfl
@[simp] theorem cells_fptr (cs:List AV)(i:Nat):AV.cells (AV.fptr cs i)=[(AV.fptr cs i)]:=rfl
@[simp] theorem leaf_fptr (cs:List AV)(i:Nat):AV.leaf (AV.fptr cs i)=false:=rfl
@[simp] theorem thaw_fptr (cs:List AV)(i:Nat)(D:Nat->Bool)(J:AHeap)(d:Nat):thawA D J (d+1) (AV.fptr cs i)=(AV.fptr cs i):=rfl
@[simp] theorem ok_fsl (es:List (List AV)):AV.ok (AV.fsl es)=some (AV.fsl es):=rfl
@[simp] theorem good_fsl (es:List (List AV)):AV.good (AV.fsl es)=true:=rfl
@[simp] theorem one_fsl (es:List (List AV)):AV.one (AV.fsl es)=true:=rfl
@[simp] theorem cells_fsl (es:List (List AV)):AV.cells (AV.fsl es)=[(AV.fsl es)]:=rfl
@[simp] theorem leaf_fsl (es:List (List AV)):AV.leaf (AV.fsl es)=false:=rfl
@[simp] theorem thaw_fsl (es:List (List AV))(D:Nat->Bool)(J:AHeap)(d:Nat):thawA D J (d+1) (AV.fsl es)=(AV.fsl es):=rfl
@[simp] theorem ok_agg (cs:List AV):AV.ok (AV.agg cs)=some (AV.agg cs):=rfl
@[simp] theorem good_agg (cs:List AV):AV.good (AV.agg cs)=true:=rfl
@[simp] theorem one_agg (cs:List AV):AV.one (AV.agg cs)=false:=rfl
@[simp] theorem cells_agg (cs:List AV):AV.cells (AV.agg cs)=cs:=rfl
@[simp] theorem leaf_agg (cs:List AV):AV.leaf (AV.agg cs)=false:=rfl
@[simp] theorem thaw_agg (cs:List AV)(D:Nat->Bool)(J:AHeap)(d:Nat):thawA D J (d+1) (AV.agg cs)=.agg (cs.map (thawA D J d)):=rfl
@[simp] theorem ok_tup (cs:List AV):AV.ok (AV.tup cs)=some (AV.tup cs):=rfl
@[simp] theorem good_tup (cs:List AV):AV.good (AV.tup cs)=true:=rfl
@[simp] theorem one_tup (cs:List AV):AV.one (AV.tup cs)=false:=rfl
@[simp] theorem cells_tup (cs:List AV):AV.cells (AV.tup cs)=[(AV.tup cs)]:=rfl
@[simp] theorem leaf_tup (cs:List AV):AV.leaf (AV.tup cs)=false:=rfl
@[simp] theorem thaw_tup (cs:List AV)(D:Nat->Bool)(J:AHeap)(d:Nat):thawA D J (d+1) (AV.tup cs)=.tup (cs.map (thawA D J d)):=rfl
@[simp] theorem ok_clo (f:FuncId)(a c:List AV):AV.ok (AV.clo f a c)=some (AV.clo f a c):=rfl
@[simp] theorem good_clo (f:FuncId)(a c:List AV):AV.good (AV.clo f a c)=true:=rfl
@[simp] theorem one_clo (f:FuncId)(a c:List AV):AV.one (AV.clo f a c)=true:=rfl
@[simp] theorem cells_clo (f:FuncId)(a c:List AV):AV.cells (AV.clo f a c)=[(AV.clo f a c)]:=rfl
@[simp] theorem leaf_clo (f:FuncId)(a c:List AV):AV.leaf (AV.clo f a c)=false:=rfl
@[simp] theorem thaw_clo (f:FuncId)(a c:List AV)(D:Nat->Bool)(J:AHeap)(d:Nat):thawA D J (d+1) (AV.clo f a c)=(AV.clo f a c):=rfl
@[simp] theorem ok_any :AV.ok (AV.any)=some (AV.any):=rfl
@[simp] theorem good_any :AV.good (AV.any)=true:=rfl
@[simp] theorem one_any :AV.one (AV.any)=false:=rfl
@[simp] theorem cells_any :AV.cells (AV.any)=[(AV.any)]:=rfl
@[simp] theorem leaf_any :AV.leaf (AV.any)=false:=rfl
@[simp] theorem thaw_any  (D:Nat->Bool)(J:AHeap)(d:Nat):thawA D J (d+1) (AV.any)=(AV.any):=rfl
@[simp] theorem thaw0_int (k:IntKind)(n:Int)(D:Nat->Bool)(J:AHeap):thawA D J 0 (.int k n)=.int k n:=rfl
@[simp] theorem thaw0_bool (b:Bool)(D:Nat->Bool)(J:AHeap):thawA D J 0 (.bool b)=.bool b:=rfl
@[simp] theorem thaw0_str (b:ByteArray)(D:Nat->Bool)(J:AHeap):thawA D J 0 (.str b)=.str b:=rfl
@[simp] theorem thaw0_nilp  (D:Nat->Bool)(J:AHeap):thawA D J 0 (.nilp)=.nilp:=rfl
@[simp] theorem thaw0_nilsl  (D:Nat->Bool)(J:AHeap):thawA D J 0 (.nilsl)=.nilsl:=rfl
@[simp] theorem thaw0_esl  (D:Nat->Bool)(J:AHeap):thawA D J 0 (.esl)=.esl:=rfl
@[simp] theorem thaw0_nilf  (D:Nat->Bool)(J:AHeap):thawA D J 0 (.nilf)=.nilf:=rfl
@[simp] theorem thaw0_any  (D:Nat->Bool)(J:AHeap):thawA D J 0 (.any)=.any:=rfl
@[simp] theorem thaw0_any1  (D:Nat->Bool)(J:AHeap):thawA D J 0 (.any1)=.any1:=rfl
@[simp] theorem thaw0_ptr (o r i:Nat)(D:Nat->Bool)(J:AHeap):thawA D J 0 (.ptr o r i)=.ptr o r i:=rfl
@[simp] theorem thaw0_sl (o r i:Nat)(D:Nat->Bool)(J:AHeap):thawA D J 0 (.sl o r i)=.sl o r i:=rfl
@[simp] theorem thaw0_fptr (cs:List AV)(i:Nat)(D:Nat->Bool)(J:AHeap):thawA D J 0 (.fptr cs i)=.fptr cs i:=rfl
@[simp] theorem thaw0_fsl (es:List (List AV))(D:Nat->Bool)(J:AHeap):thawA D J 0 (.fsl es)=.fsl es:=rfl
@[simp] theorem thaw0_clo (f:FuncId)(a b:List AV)(D:Nat->Bool)(J:AHeap):thawA D J 0 (.clo f a b)=.clo f a b:=rfl
@[simp] theorem thaw0_agg (cs:List AV)(D:Nat->Bool)(J:AHeap):thawA D J 0 (.agg cs)=.agg cs:=rfl
@[simp] theorem thaw0_tup (cs:List AV)(D:Nat->Bool)(J:AHeap):thawA D J 0 (.tup cs)=.tup cs:=rfl
@[simp] theorem thaw_osl (ty sz:Nat)(es:List (List AV))(D:Nat->Bool)(J:AHeap)(d:Nat):thawA D J (d+1) (.osl ty sz es)=.fsl (es.map fun e=>e.map (thawA D J d)):=rfl
@[simp] theorem ok_osl (ty sz:Nat)(es:List (List AV)):AV.ok (AV.osl ty sz es)=some (AV.osl ty sz es):=rfl
@[simp] theorem good_osl (ty sz:Nat)(es:List (List AV)):AV.good (AV.osl ty sz es)=true:=rfl
@[simp] theorem one_osl (ty sz:Nat)(es:List (List AV)):AV.one (AV.osl ty sz es)=true:=rfl
@[simp] theorem cells_osl (ty sz:Nat)(es:List (List AV)):AV.cells (AV.osl ty sz es)=[AV.osl ty sz es]:=rfl
@[simp] theorem lin1_int (k:IntKind)(n:Int):AV.lin1 (.int k n)=true:=rfl
@[simp] theorem lin_int (k:IntKind)(n:Int):AV.lin (.int k n)=true:=rfl
@[simp] theorem lin1_bool (b:Bool):AV.lin1 (.bool b)=true:=rfl
@[simp] theorem lin_bool (b:Bool):AV.lin (.bool b)=true:=rfl
@[simp] theorem lin1_str (b:ByteArray):AV.lin1 (.str b)=true:=rfl
@[simp] theorem lin_str (b:ByteArray):AV.lin (.str b)=true:=rfl
@[simp] theorem lin1_nilp :AV.lin1 (.nilp)=true:=rfl
@[simp] theorem lin_nilp :AV.lin (.nilp)=true:=rfl
@[simp] theorem lin1_nilsl :AV.lin1 (.nilsl)=true:=rfl
@[simp] theorem lin_nilsl :AV.lin (.nilsl)=true:=rfl
@[simp] theorem lin1_esl :AV.lin1 (.esl)=true:=rfl
@[simp] theorem lin_esl :AV.lin (.esl)=true:=rfl
@[simp] theorem lin1_nilf :AV.lin1 (.nilf)=true:=rfl
@[simp] theorem lin_nilf :AV.lin (.nilf)=true:=rfl
@[simp] theorem lin1_any :AV.lin1 (.any)=true:=rfl
@[simp] theorem lin_any :AV.lin (.any)=true:=rfl
@[simp] theorem lin1_any1 :AV.lin1 (.any1)=true:=rfl
@[simp] theorem lin_any1 :AV.lin (.any1)=true:=rfl
@[simp] theorem lin1_ptr (o r i:Nat):AV.lin1 (.ptr o r i)=true:=rfl
@[simp] theorem lin_ptr (o r i:Nat):AV.lin (.ptr o r i)=true:=rfl
@[simp] theorem lin1_sl (o r i:Nat):AV.lin1 (.sl o r i)=true:=rfl
@[simp] theorem lin_sl (o r i:Nat):AV.lin (.sl o r i)=true:=rfl
@[simp] theorem lin1_fptr (cs:List AV)(i:Nat):AV.lin1 (.fptr cs i)=true:=rfl
@[simp] theorem lin_fptr (cs:List AV)(i:Nat):AV.lin (.fptr cs i)=true:=rfl
@[simp] theorem lin1_fsl (es:List (List AV)):AV.lin1 (.fsl es)=true:=rfl
@[simp] theorem lin_fsl (es:List (List AV)):AV.lin (.fsl es)=true:=rfl
@[simp] theorem lin1_clo (f:FuncId)(a b:List AV):AV.lin1 (.clo f a b)=true:=rfl
@[simp] theorem lin_clo (f:FuncId)(a b:List AV):AV.lin (.clo f a b)=true:=rfl
@[simp] theorem lin_agg (cs:List AV):AV.lin (.agg cs)=cs.all AV.lin1:=rfl
@[simp] theorem thaw_sl (o r n:Nat)(D:Nat->Bool)(J:AHeap)(d:Nat):thawA D J (d+1) (.sl o r n)=(match J.objs o with
  |some ob=>if D o=true/\r+n<=ob.rows.length then .fsl (((ob.rows.drop r).take n).map fun e=>e.map (thawA D J d)) else .sl o r n
  |none=>.sl o r n):=rfl
@[simp] theorem thaw_ptr (o r i:Nat)(D:Nat->Bool)(J:AHeap)(d:Nat):thawA D J (d+1) (.ptr o r i)=(match J.objs o with
  |some ob=>if D o=true then(match ob.rows[r]? with
   |some row=>.fptr (row.map (thawA D J d)) i
   |none=>.ptr o r i) else .ptr o r i
  |none=>.ptr o r i):=rfl

inductive Tg.{u} {O:Sort u} (x:O):Type|mk

def Gs (b want:Bool)(A B:Prop)(_:Tg A)(_:Tg B):Prop:=(b=want->A)/\(b= !want->B)
theorem Gs.mk {b want:Bool}{A B:Prop}{s:Tg A}{t:Tg B}(h:b=want->A)(k:b= !want->B):Gs b want A B s t:=⟨h,k⟩
@[simp] theorem Gs_tt (A B:Prop)(s:Tg A)(t:Tg B):Gs true true A B s t=A:=by simp[Gs]
@[simp] theorem Gs_ff (A B:Prop)(s:Tg A)(t:Tg B):Gs false false A B s t=A:=by simp[Gs]
@[simp] theorem Gs_tf (A B:Prop)(s:Tg A)(t:Tg B):Gs true false A B s t=B:=by simp[Gs]
@[simp] theorem Gs_ft (A B:Prop)(s:Tg A)(t:Tg B):Gs false true A B s t=B:=by simp[Gs]

def Sv (s:St)(k:AV->AHeap->Prop)(c:FuncId->List AV->Prop)(_:Tg k)(_:Tg c):Prop:=
 match s with
 |.val v J=>k v J
 |.call f args=>c f args
 |.bad=>False
@[simp] theorem Sv_val (v:AV)(J:AHeap)(k:AV->AHeap->Prop)(c:FuncId->List AV->Prop)(s:Tg k)(t:Tg c):Sv (.val v J) k c s t=k v J:=rfl
@[simp] theorem Sv_call (f:FuncId)(args:List AV)(k:AV->AHeap->Prop)(c:FuncId->List AV->Prop)(s:Tg k)(t:Tg c):Sv (.call f args) k c s t=c f args:=rfl
def Gk (g:Option (Nat×Bool))(A:Prop)(B:Nat->Bool->Prop)(_:Tg A)(_:Tg B):Prop:=
 match g with
 |none=>A
 |some (j,w)=>B j w
@[simp] theorem Gk_none (A:Prop)(B:Nat->Bool->Prop)(s:Tg A)(t:Tg B):Gk none A B s t=A:=rfl
@[simp] theorem Gk_some (j:Nat)(w:Bool)(A:Prop)(B:Nat->Bool->Prop)(s:Tg A)(t:Tg B):Gk (some (j,w)) A B s t=B j w:=rfl
def Gt (x:Option (Option Nat))(B:Nat->Prop)(_:Tg B):Prop:=
 match x with
 |some (some t)=>B t
 |_=>False
@[simp] theorem Gt_some (t:Nat)(B:Nat->Prop)(s:Tg B):Gt (some (some t)) B s=B t:=rfl
def Gb (x:AV)(B:Bool->Prop)(UU:Prop)(_:Tg B)(_:Tg UU):Prop:=
 match x with
 |.bool b=>B b
 |.tup []=>UU
 |_=>False
@[simp] theorem Gb_bool (b:Bool)(B:Bool->Prop)(UU:Prop)(s:Tg B)(t:Tg UU):Gb (.bool b) B UU s t=B b:=rfl
@[simp] theorem Gb_und (B:Bool->Prop)(UU:Prop)(s:Tg B)(t:Tg UU):Gb (.tup []) B UU s t=UU:=rfl
def AC (P:Program)(G:Globs)(f:FuncId)(args:List AV)(J:AHeap)(Q:AV->AHeap->Prop)(_:Tg Q):Prop:=ACalls P G f args J Q
def Fr1 (b:Bool)(A:Prop)(_:Tg A):Prop:=b=true/\A
@[simp] theorem Fr1_t (A:Prop)(s:Tg A):Fr1 true A s=A:=by simp[Fr1]
def Hx (b:Bool)(A B:Prop)(_:Tg A)(_:Tg B):Prop:=if b=true then A else B
@[simp] theorem Hx_t (A B:Prop)(s:Tg A)(t:Tg B):Hx true A B s t=A:=by simp[Hx]
@[simp] theorem Hx_f (A B:Prop)(s:Tg A)(t:Tg B):Hx false A B s t=B:=by simp[Hx]
def Pc (P:Program)(G:Globs)(f:FuncId)(args:List AV)(K:AV->Prop)(_:Tg K):Prop:=∃r,APure P G f args r/\K r
theorem Pc.mk {P:Program}{G:Globs}{f:FuncId}{args:List AV}{K:AV->Prop}{s:Tg K}{r:AV}(h:APure P G f args r)(k:K r):Pc P G f args K s:=⟨r,h,k⟩

def stE (T:Types)(G:Globs)(alt:Bool)(id:Nat)(op:Op)(ty:TypeId)(a:AAct)(J:AHeap):St:=stepO T G alt id ⟨none,op,ty, "", #[],none⟩ a J
section
variable (T:Types) (G:Globs) (alt:Bool) (id:Nat) (ty:TypeId) (a:AAct) (J:AHeap)
@[simp] theorem stE_move (x:Operand):stE T G alt id (.move x) ty a J=.ofV (ev G a x).ok J:=rfl
@[simp] theorem stE_assign (x:Operand):stE T G false id (.assign x) ty a J=.ofV (ev G a x).ok J:=rfl
@[simp] theorem stE_assignA (x:Operand):stE T G true id (.assign x) ty a J=.ofO (nilA T ty id (ev G a x) J):=rfl
def pickA (c x y:AV):Option AV:=
 match c with
 |.bool b=>if b then x.ok else y.ok
 |_=>none
@[simp] theorem pickA_t (x y:AV):pickA (.bool true) x y=x.ok:=rfl
@[simp] theorem pickA_f (x y:AV):pickA (.bool false) x y=y.ok:=rfl
@[simp] theorem stE_pick (c x y:Operand):stE T G alt id (.pick c x y) ty a J=.ofV (pickA (ev G a c) (ev G a x) (ev G a y)) J:=by
 simp only[stE,stepO,stepP,pickA]
 cases ev G a c<;>first|rfl|(rename_i b;cases b<;>rfl)
@[simp] theorem stE_load (t:TypeId)(x:Operand):stE T G alt id (.load t x) ty a J=.ofV (loadA T J t (ev G a x)) J:=rfl
@[simp] theorem stE_nilCheck (x:Operand):stE T G alt id (.nilCheck x) ty a J=.ofV (pO (ev G a x)) J:=rfl
@[simp] theorem stE_binOp (op:BinOp)(t t':TypeId)(x y:Operand):stE T G alt id (.binOp op t x y t') ty a J=.ofV (bin T op t (ev G a x) (ev G a y)) J:=rfl
@[simp] theorem stE_unOp (op:UnOp)(t:TypeId)(x:Operand):stE T G alt id (.unOp op t x) ty a J=.ofV (unA op (ev G a x)) J:=rfl
@[simp] theorem stE_convert (s d:TypeId)(x:Operand):stE T G alt id (.convert s d x) ty a J=.ofV (convA T s d (ev G a x)) J:=rfl
@[simp] theorem stE_fieldAddr (s:TypeId)(x:Operand)(f:Nat):stE T G alt id (.fieldAddr s x f) ty a J=.ofV (tE T s (ev G a x) f) J:=rfl
@[simp] theorem stE_field (s:TypeId)(x:Operand)(f:Nat):stE T G alt id (.field s x f) ty a J=.ofV (fieldA T s (ev G a x) f) J:=rfl
@[simp] theorem stE_indexAddr (t:TypeId)(x y:Operand):stE T G alt id (.indexAddr t x y) ty a J=.ofV (zQ T J t (ev G a x) (ev G a y)) J:=rfl
@[simp] theorem stE_index (t:TypeId)(x y:Operand):stE T G alt id (.index t x y) ty a J=.ofV (indexA T t (ev G a x) (ev G a y)) J:=rfl
@[simp] theorem stE_extract (x:Operand)(i:Nat):stE T G alt id (.extract x i) ty a J=.ofV (gC (ev G a x) i) J:=rfl
@[simp] theorem stE_len (x:Operand)(t:TypeId):stE T G alt id (.call ⟨.builtin .len, #[x], #[t]⟩) ty a J=.ofV (lenA T t (ev G a x)) J:=rfl
@[simp] theorem stE_max (x y:Operand)(ts:Array TypeId):stE T G alt id (.call ⟨.builtin .max, #[x,y],ts⟩) ty a J=.ofV (maxA (ev G a x) (ev G a y)) J:=rfl
@[simp] theorem stE_min (x y:Operand)(ts:Array TypeId):stE T G alt id (.call ⟨.builtin .min, #[x,y],ts⟩) ty a J=.ofV (minA (ev G a x) (ev G a y)) J:=rfl
@[simp] theorem stE_append (x y:Operand)(t:TypeId):stE T G false id (.call ⟨.builtin .append, #[x,y], #[t,t]⟩) ty a J=.ofO (kF T t id (ev G a x) (ev G a y) J):=by simp[stE,stepO]
@[simp] theorem stE_appendZ (x y:Operand)(t u:TypeId)(h:¬t=u):stE T G false id (.call ⟨.builtin .append, #[x,y], #[t,u]⟩) ty a J=.ofO (wV T t u id (ev G a x) (ev G a y) J):=by simp[stE,stepO,h]
@[simp] theorem stE_appendF (x y:Operand)(t:TypeId):stE T G true id (.call ⟨.builtin .append, #[x,y], #[t,t]⟩) ty a J=.ofO (jM T t (ev G a x) (ev G a y) J):=by simp[stE,stepO]
@[simp] theorem stE_call (f:Operand)(xs:List Operand)(ts:Array TypeId):stE T G alt id (.call ⟨.value f,xs.toArray,ts⟩) ty a J=callA (ev G a f) (xs.map (ev G a)):=rfl
@[simp] theorem stE_alloc (e:TypeId):stE T G alt id (.alloc e) ty a J=.ofO (mX T e alt id J):=rfl
@[simp] theorem stE_box (e:TypeId)(x:Operand):stE T G alt id (.box e x) ty a J=.ofO (boxA T e alt id (ev G a x) J):=rfl
@[simp] theorem stE_build (t:TypeId)(ps:Array (Nat×Operand)):stE T G alt id (.build t ps) ty a J=.ofV (if(uM G a ps).all (fun p=>p.2.good) then buildA T alt t (uM G a ps) else none) J:=rfl
@[simp] theorem stE_buildSlice (t:TypeId)(len:Nat)(ps:Array (Nat×Operand)):stE T G alt id (.buildSlice t len ps) ty a J=.ofO (if(uB G alt a ps).all (fun p=>p.2.good) then bsA T t alt id len (uB G alt a ps) J else none):=rfl
def stoA (T:Types)(t:TypeId)(x v:AV)(J:AHeap):St:=
 match(if x.good&&v.good then qO T t x v J else none) with
 |some J'=>.val .any J'
 |none=>.bad
@[simp] theorem stE_store (t:TypeId)(x v:Operand):stE T G alt id (.store t x v) ty a J=stoA T t (ev G a x) (ev G a v) J:=rfl
@[simp] theorem stE_makeSlice (t:TypeId)(l c:Operand):stE T G alt id (.makeSlice t l c) ty a J=.ofO (makeA T t alt id (ev G a l) (ev G a c) J):=rfl
@[simp] theorem stE_slice (t:TypeId)(x:Operand)(lo hi:Option Operand):stE T G alt id (.slice t x lo hi none) ty a J=.ofV (cutA T J t (ev G a x) (lo.map (ev G a)) (hi.map (ev G a))) J:=rfl
@[simp] theorem stE_makeFunc (f:FuncId)(x y:Array Operand):stE T G alt id (.makeFunc (.func f) x y) ty a J=.ofV (if(x.toList.map (ev G a)).all AV.one&&(y.toList.map (ev G a)).all AV.one then some (.clo f (x.toList.map (ev G a)) (y.toList.map (ev G a))) else none) J:=rfl
end
attribute [simp] stoA
def frE (alt:Bool)(op:Op):Bool:=yD alt ⟨none,op,0, "", #[],none⟩
attribute [simp] frE

def AOz (P:Program)(T:Types)(G:Globs)(n:Nat)(alts:List Nat)(ds:List (Option Nat))(base:Nat)(Q:AAct->AHeap->Prop)(i:Nat)(l:List Oper)(a:AAct)(J:AHeap)(_:Tg (alts,ds,l))(_:Tg Q):Prop:=AOps P T G n alts ds base Q i l a J
@[simp] theorem AOz_nil (P:Program)(T:Types)(G:Globs)(n:Nat)(alts:List Nat)(ds:List (Option Nat))(base:Nat)(Q:AAct->AHeap->Prop)(i:Nat)(a:AAct)(J:AHeap)(s)(t):AOz P T G n alts ds base Q i [] a J s t=Q a J:=rfl
@[simp] theorem AOz_cons (P:Program)(T:Types)(G:Globs)(n:Nat)(alts:List Nat)(ds:List (Option Nat))(base:Nat)(Q:AAct->AHeap->Prop)(i:Nat)(d:Option Nat)(op:Op)(ty:TypeId)(p:String)(af:Array Edge)(g:Option (Nat×Bool))(l:List Oper)(a:AAct)(J:AHeap)(s)(t):
  AOz P T G n alts ds base Q i (⟨d,op,ty,p,af,g⟩::l) a J s t=(dstOk n d=true/\
  Gk g
   (Sv (stE T G (alts.contains i) (base+i) op ty a J) (fun v J'=>AOz P T G n alts ds base Q (i+1) l (a.put d v) J' .mk .mk)
    (fun f args=>AC P G f args J (fun r J'=>AOz P T G n alts ds base Q (i+1) l (a.put d r) J' .mk .mk) .mk) .mk .mk)
   (fun j want=>Gt ds[j]? (fun t=>Gb (a.get t) (fun b=>Gs b want
    (Sv (stE T G (alts.contains i) (base+i) op ty ((t,.bool want)::a) J) (fun v J'=>AOz P T G n alts ds base Q (i+1) l (AAct.put ((t,.bool want)::a) d v) J' .mk .mk)
     (fun f args=>AC P G f args J (fun r J'=>AOz P T G n alts ds base Q (i+1) l (AAct.put ((t,.bool want)::a) d r) J' .mk .mk) .mk) .mk .mk)
    (AOz P T G n alts ds base Q (i+1) l (AAct.put ((t,.bool (!want))::a) d (.tup [])) J .mk .mk) .mk .mk) (AOz P T G n alts ds base Q (i+1) l (AAct.put a d (.tup [])) J .mk .mk) .mk .mk) .mk) .mk .mk):=rfl

def ADz (P:Program)(T:Types)(G:Globs)(n:Nat)(alts:List Nat)(ds:List (Option Nat))(base:Nat)(hs:List Nat)(Q:AAct->AHeap->Prop)(l:List (Oper×Nat))(a:AAct)(J:AHeap)(_:Tg (alts,ds,hs,l))(_:Tg Q):Prop:=ADC P T G n alts ds base hs Q l a J
@[simp] theorem ADz_nil (P:Program)(T:Types)(G:Globs)(n:Nat)(alts:List Nat)(ds:List (Option Nat))(base:Nat)(hs:List Nat)(Q:AAct->AHeap->Prop)(a:AAct)(J:AHeap)(s)(t):ADz P T G n alts ds base hs Q [] a J s t=Q a J:=rfl
@[simp] theorem ADz_cons (P:Program)(T:Types)(G:Globs)(n:Nat)(alts:List Nat)(ds:List (Option Nat))(base:Nat)(hs:List Nat)(Q:AAct->AHeap->Prop)(d:Option Nat)(op:Op)(ty:TypeId)(p:String)(af:Array Edge)(g:Option (Nat×Bool))(i:Nat)(l:List (Oper×Nat))(a:AAct)(J:AHeap)(s)(t):
  ADz P T G n alts ds base hs Q ((⟨d,op,ty,p,af,g⟩,i)::l) a J s t=(dstOk n d=true/\
  Gk g
   (Hx (hs.contains i)
    (Sv (stE T G (alts.contains i) (base+i) op ty a J) (fun v J'=>ADz P T G n alts ds base hs Q l (a.put d v) J' .mk .mk)
     (fun f args=>AC P G f args J (fun r J'=>ADz P T G n alts ds base hs Q l (a.put d r) J' .mk .mk) .mk) .mk .mk)
    (Sv (stE T G (alts.contains i) (base+i) op ty a empty) (fun v _=>Fr1 (frE (alts.contains i) op) (ADz P T G n alts ds base hs Q l (a.put d v) J .mk .mk) .mk)
     (fun f args=>Pc P G f args (fun r=>ADz P T G n alts ds base hs Q l (a.put d r) J .mk .mk) .mk) .mk .mk) .mk .mk)
   (fun j want=>Gt ds[j]? (fun t=>Gb (a.get t) (fun b=>Gs b want
    (Hx (hs.contains i)
     (Sv (stE T G (alts.contains i) (base+i) op ty ((t,.bool want)::a) J) (fun v J'=>ADz P T G n alts ds base hs Q l (AAct.put ((t,.bool want)::a) d v) J' .mk .mk)
      (fun f args=>AC P G f args J (fun r J'=>ADz P T G n alts ds base hs Q l (AAct.put ((t,.bool want)::a) d r) J' .mk .mk) .mk) .mk .mk)
     (Sv (stE T G (alts.contains i) (base+i) op ty ((t,.bool want)::a) empty) (fun v _=>Fr1 (frE (alts.contains i) op) (ADz P T G n alts ds base hs Q l (AAct.put ((t,.bool want)::a) d v) J .mk .mk) .mk)
      (fun f args=>Pc P G f args (fun r=>ADz P T G n alts ds base hs Q l (AAct.put ((t,.bool want)::a) d r) J .mk .mk) .mk) .mk .mk) .mk .mk)
    (ADz P T G n alts ds base hs Q l (AAct.put ((t,.bool (!want))::a) d (.tup [])) J .mk .mk) .mk .mk) (ADz P T G n alts ds base hs Q l (AAct.put a d (.tup [])) J .mk .mk) .mk .mk) .mk) .mk .mk):=by
 unfold ADz
 rw[ADC];rfl

def Ck (wt:Nat->List Nat)(W:Recs)(i:Nat)(J J':AHeap)(_:Tg W)(A:Prop)(_:Tg A):Prop:=Chk wt W i J J'/\A
@[simp] theorem Ck_nil (wt:Nat->List Nat)(i:Nat)(J J':AHeap)(s)(A:Prop)(t:Tg A):Ck wt [] i J J' s A t=A:=by simp[Ck,Chk]
@[simp] theorem Ck_cons (wt:Nat->List Nat)(j:Nat)(f:AHeap->St)(W:Recs)(i:Nat)(J J':AHeap)(s)(A:Prop)(t:Tg A):
  Ck wt ((j,f)::W) i J J' s A t=(Hx ((wt i).contains j) (pZ (f J) (f J')) True .mk .mk/\Ck wt W i J J' .mk A .mk):=by
 simp only[Ck,Chk,List.forall_mem_cons,Hx,and_assoc]
 refine propext (and_congr_left fun _=>?_)
 by_cases h:j∈wt i<;>simp[h]
@[simp] theorem sameVal_val (v w:AV)(J J':AHeap):pZ (.val v J) (.val w J')=(v=w):=by simp[pZ]

def ADy (P:Program)(T:Types)(G:Globs)(n:Nat)(alts:List Nat)(ds:List (Option Nat))(base:Nat)(hs:List Nat)(wt:Nat->List Nat)(Q:AAct->AHeap->Prop)(l:List (Oper×Nat))(W:Recs)(a:AAct)(J:AHeap)(_:Tg (alts,ds,hs,l,wt,W))(_:Tg Q):Prop:=ADCw P T G n alts ds base hs wt Q l W a J
@[simp] theorem ADy_nil (P:Program)(T:Types)(G:Globs)(n:Nat)(alts:List Nat)(ds:List (Option Nat))(base:Nat)(hs:List Nat)(wt:Nat->List Nat)(Q:AAct->AHeap->Prop)(W:Recs)(a:AAct)(J:AHeap)(s)(t):ADy P T G n alts ds base hs wt Q [] W a J s t=Q a J:=rfl
@[simp] theorem ADy_cons (P:Program)(T:Types)(G:Globs)(n:Nat)(alts:List Nat)(ds:List (Option Nat))(base:Nat)(hs:List Nat)(wt:Nat->List Nat)(Q:AAct->AHeap->Prop)(d:Option Nat)(op:Op)(ty:TypeId)(p:String)(af:Array Edge)(g:Option (Nat×Bool))(i:Nat)(l:List (Oper×Nat))(W:Recs)(a:AAct)(J:AHeap)(s)(t):
  ADy P T G n alts ds base hs wt Q ((⟨d,op,ty,p,af,g⟩,i)::l) W a J s t=(dstOk n d=true/\
  Gk g
   (Hx (hs.contains i)
    (Sv (stE T G (alts.contains i) (base+i) op ty a J) (fun v J'=>Ck wt W i J J' .mk (ADy P T G n alts ds base hs wt Q l ((i,fun J=>stE T G (alts.contains i) (base+i) op ty a J)::W) (a.put d v) J' .mk .mk) .mk)
     (fun f args=>AC P G f args J (fun r J'=>Ck wt W i J J' .mk (ADy P T G n alts ds base hs wt Q l W (a.put d r) J' .mk .mk) .mk) .mk) .mk .mk)
    (Sv (stE T G (alts.contains i) (base+i) op ty a empty) (fun v _=>Fr1 (frE (alts.contains i) op) (ADy P T G n alts ds base hs wt Q l W (a.put d v) J .mk .mk) .mk)
     (fun f args=>Pc P G f args (fun r=>ADy P T G n alts ds base hs wt Q l W (a.put d r) J .mk .mk) .mk) .mk .mk) .mk .mk)
   (fun j want=>Gt ds[j]? (fun t=>Gb (a.get t) (fun b=>Gs b want
    (Hx (hs.contains i)
     (Sv (stE T G (alts.contains i) (base+i) op ty ((t,.bool want)::a) J) (fun v J'=>Ck wt W i J J' .mk (ADy P T G n alts ds base hs wt Q l ((i,fun J=>stE T G (alts.contains i) (base+i) op ty ((t,.bool want)::a) J)::W) (AAct.put ((t,.bool want)::a) d v) J' .mk .mk) .mk)
      (fun f args=>AC P G f args J (fun r J'=>Ck wt W i J J' .mk (ADy P T G n alts ds base hs wt Q l W (AAct.put ((t,.bool want)::a) d r) J' .mk .mk) .mk) .mk) .mk .mk)
     (Sv (stE T G (alts.contains i) (base+i) op ty ((t,.bool want)::a) empty) (fun v _=>Fr1 (frE (alts.contains i) op) (ADy P T G n alts ds base hs wt Q l W (AAct.put ((t,.bool want)::a) d v) J .mk .mk) .mk)
      (fun f args=>Pc P G f args (fun r=>ADy P T G n alts ds base hs wt Q l W (AAct.put ((t,.bool want)::a) d r) J .mk .mk) .mk) .mk .mk) .mk .mk)
    (ADy P T G n alts ds base hs wt Q l W (AAct.put ((t,.bool (!want))::a) d (.tup [])) J .mk .mk) .mk .mk) (ADy P T G n alts ds base hs wt Q l W (AAct.put a d (.tup [])) J .mk .mk) .mk .mk) .mk) .mk .mk):=by
 unfold ADy
 rw[ADCw];rfl

theorem dE {P:Program}{T:Types}(hT:TOk P T){G:Globs}{n N:Nat}{Q:Ex->AAct->AHeap->Prop}(alts:List Nat){id:Nat}{l:List Oper}{K:AAct->AHeap->Prop}{a:AAct}{J:AHeap}
  (h:AOz P T G n alts (l.map (·.dst)) J.next K 0 l a (J.bump l.length) .mk .mk):AWP P G n N (.region id l.toArray false) (thenQ K Q) a J:=
 AWP_region hT alts (by have h:AOps P T G n alts (l.map (·.dst)) J.next K 0 l a (J.bump l.length):=h;simpa using h)

def nthO:List Oper->Nat->Oper
 |[],_=>default
 |x::_,0=>x
 |_::l,n+1=>nthO l n
theorem zL (x:Oper)(l:List Oper):nthO (x::l) 0=x:=rfl
theorem zJ (x:Oper)(l:List Oper)(n:Nat):nthO (x::l) (n+1)=nthO l n:=rfl
theorem nthO_eq:∀(l:List Oper) (i:Nat),l.getD i default=nthO l i
 |[],_=>by simp[nthO]
 |x::l,0=>rfl
 |x::l,n+1=>by rw[zJ,<- nthO_eq l n];simp
def pickL (l:List Oper):List Nat->List (Oper×Nat)
 |[]=>[]
 |i::ord=>(nthO l i,i)::pickL l ord
theorem pickL_eq (l:List Oper):∀ord,jD l.toArray ord=pickL l ord
 |[]=>rfl
 |i::ord=>by
  have:=pickL_eq l ord
  simp only[jD,List.map_cons,pickL] at this ⊢
  rw[this]
  simp[Array.getD_eq_getD_getElem?,<- nthO_eq,List.getD_eq_getElem?_getD]
theorem AWP_drawl {P:Program}{T:Types}(hT:TOk P T){G:Globs}{n N:Nat}{Q:Ex->AAct->AHeap->Prop}(hm:P.follows .mixedOrders=true)(alts hs ord:List Nat){id:Nat}{l:List Oper}{K:AAct->AHeap->Prop}{a:AAct}{J:AHeap}
  (hc:gM alts l.toArray hs (fun _=>[]) ord=true)
  (h:ADz P T G n alts (l.map (·.dst)) J.next hs K (pickL l ord) a (J.bump l.length) .mk .mk):AWP P G n N (.region id l.toArray true) (thenQ K Q) a J:=
 AWP_draw hT hm alts hs ord hc (by rw[pickL_eq];have h:ADC P T G n alts (l.map (·.dst)) J.next hs K (pickL l ord) a (J.bump l.length):=h;simpa using h)

theorem AWP_drawy {P:Program}{T:Types}(hT:TOk P T){G:Globs}{n N:Nat}{Q:Ex->AAct->AHeap->Prop}(hm:P.follows .mixedOrders=true)(alts hs:List Nat)(wt:Nat->List Nat)(ord:List Nat){id:Nat}{l:List Oper}{K:AAct->AHeap->Prop}{a:AAct}{J:AHeap}
  (hc:gM alts l.toArray hs wt ord=true)
  (h:ADy P T G n alts (l.map (·.dst)) J.next hs wt K (pickL l ord) [] a (J.bump l.length) .mk .mk):AWP P G n N (.region id l.toArray true) (thenQ K Q) a J:=
 AWP_drawW hT hm alts hs wt ord hc (by rw[pickL_eq];have h:ADCw P T G n alts (l.map (·.dst)) J.next hs wt K (pickL l ord) [] a (J.bump l.length):=h;simpa using h)

theorem AWP_drawyC {P:Program}{T:Types}(hT:TOk P T){G:Globs}{n N:Nat}{Q:Ex->AAct->AHeap->Prop}(hm:P.follows .mixedOrders=true)(alts hs:List Nat)(wt:Nat->List Nat)(ord:List Nat){id:Nat}{l:List Oper}{K:AAct->AHeap->Prop}{a:AAct}{J:AHeap}
  (hc:dX true alts l.toArray hs wt ord=true) (hcl:closedB T G n alts hs wt l.toArray ord=true)
  (h:ADy P T G n alts (l.map (·.dst)) J.next hs wt K (pickL l ord) [] a (J.bump l.length) .mk .mk):AWP P G n N (.region id l.toArray true) (thenQ K Q) a J:=
 AWP_drawWC hT hm alts hs wt ord hc hcl (by rw[pickL_eq];have h:ADCw P T G n alts (l.map (·.dst)) J.next hs wt K (pickL l ord) [] a (J.bump l.length):=h;simpa using h)

structure Stop (i:Nat) (p:Prop):Prop where
 get:p

@[simp] theorem AHeap.bump_bump (J:AHeap)(a b:Nat):(J.bump a).bump b=J.bump (a+b):=by simp[AHeap.bump,Nat.add_assoc]
@[simp] theorem AHeap.bump_objs (J:AHeap)(a:Nat):(J.bump a).objs=J.objs:=rfl
@[simp] theorem AHeap.bump_next (J:AHeap)(a:Nat):(J.bump a).next=J.next+a:=rfl
@[simp] theorem AHeap.put_next (J:AHeap)(a:Nat)(b:AObj):(J.put a b).next=J.next:=rfl
@[simp] theorem AHeap.put_same (J:AHeap)(a:Nat)(b:AObj):(J.put a b).objs a=some b:=by simp[AHeap.put]
@[simp] theorem AHeap.put_ne (J:AHeap)(a:Nat)(b:AObj)(o:Nat)(h:o≠a):(J.put a b).objs o=J.objs o:=by simp[AHeap.put,h]
@[simp] theorem AHeap.put_put (J:AHeap)(a:Nat)(b c:AObj):(J.put a b).put a c=J.put a c:=by
 simp only[AHeap.put];congr 1;funext o;split<;>rfl
@[simp] theorem AHeap.bump_put (J:AHeap)(j a:Nat)(b:AObj):(J.bump j).put a b=(J.put a b).bump j:=rfl
@[simp] theorem AHeap.kill_next (J:AHeap)(a:Nat):(J.kill a).next=J.next:=rfl
@[simp] theorem AHeap.kill_same (J:AHeap)(a:Nat):(J.kill a).objs a=none:=by simp[AHeap.kill]
@[simp] theorem AHeap.kill_ne (J:AHeap)(a o:Nat)(h:o≠a):(J.kill a).objs o=J.objs o:=by simp[AHeap.kill,h]
theorem wrap_i64 (n:Int)(h: -9223372036854775808<=n)(h':n<=9223372036854775807):IntKind.i64.wrap n=n:=by
 rw[IntKind.wrap_i64];omega


@[simp] theorem below_int {N k n}:Below N (.int k n):=.int
@[simp] theorem below_bool {N b}:Below N (.bool b):=.bool
@[simp] theorem below_any {N}:Below N .any:=.any
@[simp] theorem below_esl {N}:Below N .esl:=.esl
@[simp] theorem below_nilsl {N}:Below N .nilsl:=.nilsl
@[simp] theorem below_fsl {N es}:Below N (.fsl es)<->∀e∈es,∀x∈e,Below N x:=⟨fun h=>by cases h;assumption,.fsl⟩
@[simp] theorem below_fptr {N es i}:Below N (.fptr es i)<->∀x∈es,Below N x:=⟨fun h=>by cases h;assumption,.fptr⟩
@[simp] theorem below_agg {N es}:Below N (.agg es)<->∀x∈es,Below N x:=⟨fun h=>by cases h;assumption,.agg⟩
@[simp] theorem below_tup {N es}:Below N (.tup es)<->∀x∈es,Below N x:=⟨fun h=>by cases h;assumption,.tup⟩

attribute [simp] List.getElem?_eq_getElem

end Go.Abs
