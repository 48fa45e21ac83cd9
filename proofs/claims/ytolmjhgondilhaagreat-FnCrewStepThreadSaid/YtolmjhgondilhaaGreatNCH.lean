/- Words of the proof. -/
import Derived.Test.YtolmjhgondilhaaGreatNCR0
import Derived.Test.YtolmjhgondilhaaGreatProg
import Derived.KernelRfl
set_option linter.unusedSimpArgs false
set_option linter.unusedVariables false
set_option maxRecDepth 20000
namespace Go.Proofs.YtolmjhgondilhaaGreat
open Go Go.Abs Go.RowKit

def T:Types:=fun t=>
 match t with
 |3=>some ⟨1,8,[.int .i64 0],.int .i64⟩
 |4=>some ⟨1,1,[.bool false],.bool⟩
 |5=>some ⟨1,1,[.int .u8 0],.int .u8⟩
 |21=>some ⟨1,4,[.int .i32 0],.int .i32⟩
 |22=>some ⟨1,24,[.nilsl],.slice 5⟩
 |23=>some ⟨1,24,[.nilsl],.slice 3⟩
 |24=>some ⟨1,24,[.nilsl],.slice 34⟩
 |27=>some ⟨1,24,[.nilsl],.slice 42⟩
 |28=>some ⟨1,24,[.nilsl],.slice 103⟩
 |30=>some ⟨6,112,[.nilsl,.nilsl,.nilsl,.int .i64 0,.int .i64 0,.nilsl],.struct [(0,24),(1,27),(2,28),(3,3),(4,3),(5,23)]⟩
 |34=>some ⟨1,24,[.nilsl],.slice 36⟩
 |36=>some ⟨5,40,[.int .i64 0,.int .i64 0,.int .i64 0,.int .i64 0,.int .i64 0],.struct [(0,3),(1,3),(2,3),(3,3),(4,3)]⟩
 |39=>some ⟨1,24,[.nilsl],.slice 4⟩
 |42=>some ⟨2,32,[.nilsl,.int .i64 0],.struct [(0,23),(1,3)]⟩
 |43=>some ⟨1,24,[.nilsl],.slice 39⟩
 |64=>some ⟨1,8,[.nilp],.ptr⟩
 |81=>some ⟨1,8,[.nilp],.ptr⟩
 |86=>some ⟨1,24,[.nilsl],.slice 23⟩
 |95=>some ⟨1,8,[.nilp],.ptr⟩
 |103=>some ⟨2,32,[.int .i64 0,.nilsl],.struct [(0,3),(1,23)]⟩
 |105=>some ⟨2,32,[.nilsl,.int .i64 0],.struct [(0,22),(1,3)]⟩
 |113=>some ⟨1,8,[.nilp],.ptr⟩
 |124=>some ⟨1,24,[.nilsl],.slice 151⟩
 |129=>some ⟨1,8,[.nilp],.ptr⟩
 |147=>some ⟨1,24,[.nilsl],.slice 149⟩
 |149=>some ⟨3,40,[.int .i64 0,.int .i64 0,.nilsl],.struct [(0,3),(1,3),(2,147)]⟩
 |151=>some ⟨8,112,[.int .i64 0,.int .i64 0,.int .i64 0,.int .i64 0,.int .i64 0,.nilsl,.nilsl,.nilsl],.struct [(0,3),(1,3),(2,3),(3,149),(6,124),(7,124)]⟩
 |163=>some ⟨1,24,[.nilsl],.slice 166⟩
 |166=>some ⟨1,24,[.nilsl],.slice 180⟩
 |180=>some ⟨2,16,[.int .i64 0,.int .i64 0],.struct [(0,3),(1,3)]⟩
 |_=>none

@[simp] theorem T_3:T 3=some ⟨1,8,[.int .i64 0],.int .i64⟩:=rfl
@[simp] theorem T_4:T 4=some ⟨1,1,[.bool false],.bool⟩:=rfl
@[simp] theorem T_5:T 5=some ⟨1,1,[.int .u8 0],.int .u8⟩:=rfl
@[simp] theorem T_21:T 21=some ⟨1,4,[.int .i32 0],.int .i32⟩:=rfl
@[simp] theorem T_22:T 22=some ⟨1,24,[.nilsl],.slice 5⟩:=rfl
@[simp] theorem T_23:T 23=some ⟨1,24,[.nilsl],.slice 3⟩:=rfl
@[simp] theorem T_24:T 24=some ⟨1,24,[.nilsl],.slice 34⟩:=rfl
@[simp] theorem T_27:T 27=some ⟨1,24,[.nilsl],.slice 42⟩:=rfl
@[simp] theorem T_28:T 28=some ⟨1,24,[.nilsl],.slice 103⟩:=rfl
@[simp] theorem T_30:T 30=some ⟨6,112,[.nilsl,.nilsl,.nilsl,.int .i64 0,.int .i64 0,.nilsl],.struct [(0,24),(1,27),(2,28),(3,3),(4,3),(5,23)]⟩:=rfl
@[simp] theorem T_34:T 34=some ⟨1,24,[.nilsl],.slice 36⟩:=rfl
@[simp] theorem T_36:T 36=some ⟨5,40,[.int .i64 0,.int .i64 0,.int .i64 0,.int .i64 0,.int .i64 0],.struct [(0,3),(1,3),(2,3),(3,3),(4,3)]⟩:=rfl
@[simp] theorem T_39:T 39=some ⟨1,24,[.nilsl],.slice 4⟩:=rfl
@[simp] theorem T_42:T 42=some ⟨2,32,[.nilsl,.int .i64 0],.struct [(0,23),(1,3)]⟩:=rfl
@[simp] theorem T_43:T 43=some ⟨1,24,[.nilsl],.slice 39⟩:=rfl
@[simp] theorem T_64:T 64=some ⟨1,8,[.nilp],.ptr⟩:=rfl
@[simp] theorem T_81:T 81=some ⟨1,8,[.nilp],.ptr⟩:=rfl
@[simp] theorem T_86:T 86=some ⟨1,24,[.nilsl],.slice 23⟩:=rfl
@[simp] theorem T_95:T 95=some ⟨1,8,[.nilp],.ptr⟩:=rfl
@[simp] theorem T_103:T 103=some ⟨2,32,[.int .i64 0,.nilsl],.struct [(0,3),(1,23)]⟩:=rfl
@[simp] theorem T_105:T 105=some ⟨2,32,[.nilsl,.int .i64 0],.struct [(0,22),(1,3)]⟩:=rfl
@[simp] theorem T_113:T 113=some ⟨1,8,[.nilp],.ptr⟩:=rfl
@[simp] theorem T_124:T 124=some ⟨1,24,[.nilsl],.slice 151⟩:=rfl
@[simp] theorem T_129:T 129=some ⟨1,8,[.nilp],.ptr⟩:=rfl
@[simp] theorem T_147:T 147=some ⟨1,24,[.nilsl],.slice 149⟩:=rfl
@[simp] theorem T_149:T 149=some ⟨3,40,[.int .i64 0,.int .i64 0,.nilsl],.struct [(0,3),(1,3),(2,147)]⟩:=rfl
@[simp] theorem T_151:T 151=some ⟨8,112,[.int .i64 0,.int .i64 0,.int .i64 0,.int .i64 0,.int .i64 0,.nilsl,.nilsl,.nilsl],.struct [(0,3),(1,3),(2,3),(3,149),(6,124),(7,124)]⟩:=rfl
@[simp] theorem T_163:T 163=some ⟨1,24,[.nilsl],.slice 166⟩:=rfl
@[simp] theorem T_166:T 166=some ⟨1,24,[.nilsl],.slice 180⟩:=rfl
@[simp] theorem T_180:T 180=some ⟨2,16,[.int .i64 0,.int .i64 0],.struct [(0,3),(1,3)]⟩:=rfl
theorem tok:TOk Tryz.prog T:=by
 intro t i h
 unfold T at h
 split at h<;>first|(cases h;done)|skip
 all_goals (cases h;refine⟨by kernel_rfl,by kernel_rfl,by kernel_rfl,by kernel_rfl,by kernel_rfl⟩)
theorem tokM:Tryz.prog.follows .mixedOrders=true:=by kernel_rfl
abbrev G:Globs:=fun _=>none
@[simp] theorem bin_ii (op:BinOp)(t:TypeId)(k:IntKind)(a b:Int):bin T op t (.int k a) (.int k b)=ibin op k a b:=by simp[bin]
@[simp] theorem bin_shl (t:TypeId)(k k':IntKind)(a b:Int):bin T .shl t (.int k a) (.int k' b)=ibin .shl k a b:=by simp[bin]
@[simp] theorem bin_shr (t:TypeId)(k k':IntKind)(a b:Int):bin T .shr t (.int k a) (.int k' b)=ibin .shr k a b:=by simp[bin]
@[simp ↓] theorem sueq_36 (xOp xDst xA xB xN yOp yDst yA yB yN:Int):bin T .eql 36 (.agg [.int .i64 xOp,.int .i64 xDst,.int .i64 xA,.int .i64 xB,.int .i64 xN]) (.agg [.int .i64 yOp,.int .i64 yDst,.int .i64 yA,.int .i64 yB,.int .i64 yN])=some (.bool (eqD (⟨xOp,xDst,xA,xB,xN⟩:gQuad) (⟨yOp,yDst,yA,yB,yN⟩:gQuad))):=by
 have h:eqAgg T 36 [.int .i64 xOp,.int .i64 xDst,.int .i64 xA,.int .i64 xB,.int .i64 xN] [.int .i64 yOp,.int .i64 yDst,.int .i64 yA,.int .i64 yB,.int .i64 yN]=some (decide ((⟨xOp,xDst,xA,xB,xN⟩:gQuad)=(⟨yOp,yDst,yA,yB,yN⟩:gQuad))):=by
  simp[eqAgg,flatT,qL,gQuad.mk.injEq,Bool.decide_and,decide_eq_true_eq]
  try rfl
 simp only[bin,h,Option.map_some,bnot,eqD]
@[simp ↓] theorem sune_36 (xOp xDst xA xB xN yOp yDst yA yB yN:Int):bin T .neq 36 (.agg [.int .i64 xOp,.int .i64 xDst,.int .i64 xA,.int .i64 xB,.int .i64 xN]) (.agg [.int .i64 yOp,.int .i64 yDst,.int .i64 yA,.int .i64 yB,.int .i64 yN])=some (.bool (bnot (eqD (⟨xOp,xDst,xA,xB,xN⟩:gQuad) (⟨yOp,yDst,yA,yB,yN⟩:gQuad)))):=by
 have h:eqAgg T 36 [.int .i64 xOp,.int .i64 xDst,.int .i64 xA,.int .i64 xB,.int .i64 xN] [.int .i64 yOp,.int .i64 yDst,.int .i64 yA,.int .i64 yB,.int .i64 yN]=some (decide ((⟨xOp,xDst,xA,xB,xN⟩:gQuad)=(⟨yOp,yDst,yA,yB,yN⟩:gQuad))):=by
  simp[eqAgg,flatT,qL,gQuad.mk.injEq,Bool.decide_and,decide_eq_true_eq]
  try rfl
 simp only[bin,h,Option.map_some,bnot,eqD]
@[simp ↓] theorem sueq_180 (xKind xN yKind yN:Int):bin T .eql 180 (.agg [.int .i64 xKind,.int .i64 xN]) (.agg [.int .i64 yKind,.int .i64 yN])=some (.bool (eqD (⟨xKind,xN⟩:gFact) (⟨yKind,yN⟩:gFact))):=by
 have h:eqAgg T 180 [.int .i64 xKind,.int .i64 xN] [.int .i64 yKind,.int .i64 yN]=some (decide ((⟨xKind,xN⟩:gFact)=(⟨yKind,yN⟩:gFact))):=by
  simp[eqAgg,flatT,qL,gFact.mk.injEq,Bool.decide_and,decide_eq_true_eq]
  try rfl
 simp only[bin,h,Option.map_some,bnot,eqD]
@[simp ↓] theorem sune_180 (xKind xN yKind yN:Int):bin T .neq 180 (.agg [.int .i64 xKind,.int .i64 xN]) (.agg [.int .i64 yKind,.int .i64 yN])=some (.bool (bnot (eqD (⟨xKind,xN⟩:gFact) (⟨yKind,yN⟩:gFact)))):=by
 have h:eqAgg T 180 [.int .i64 xKind,.int .i64 xN] [.int .i64 yKind,.int .i64 yN]=some (decide ((⟨xKind,xN⟩:gFact)=(⟨yKind,yN⟩:gFact))):=by
  simp[eqAgg,flatT,qL,gFact.mk.injEq,Bool.decide_and,decide_eq_true_eq]
  try rfl
 simp only[bin,h,Option.map_some,bnot,eqD]
@[simp] theorem bineq_4 (a b:Bool):bin T .eql 4 (.bool a) (.bool b)=some (.bool (beqb a b)):=rfl
@[simp] theorem binne_4 (a b:Bool):bin T .neq 4 (.bool a) (.bool b)=some (.bool (bneb a b)):=rfl
@[simp] theorem conv_3_5 (k:IntKind)(n:Int):convA T 3 5 (.int k n)=some (.int .u8 (iconv .u8 n)):=rfl
@[simp] theorem conv_3_21 (k:IntKind)(n:Int):convA T 3 21 (.int k n)=some (.int .i32 (iconv .i32 n)):=rfl
@[simp] theorem conv_5_3 (k:IntKind)(n:Int):convA T 5 3 (.int k n)=some (.int .i64 (iconv .i64 n)):=rfl
@[simp] theorem conv_5_21 (k:IntKind)(n:Int):convA T 5 21 (.int k n)=some (.int .i32 (iconv .i32 n)):=rfl
@[simp] theorem conv_21_3 (k:IntKind)(n:Int):convA T 21 3 (.int k n)=some (.int .i64 (iconv .i64 n)):=rfl
@[simp] theorem conv_21_5 (k:IntKind)(n:Int):convA T 21 5 (.int k n)=some (.int .u8 (iconv .u8 n)):=rfl
@[simp] theorem len147 (l:List gExpr):lenA T 147 (.fsl (eL rExpr l))=some (.int .i64 (ilen l)):=jS (e:=149) rfl rExpr l
@[simp] theorem leno147 (o r:Nat)(l:List gExpr):lenA T 147 (.sl o r l.length)=some (.int .i64 (ilen l)):=vD (e:=149) rfl o r l
@[simp] theorem lenn147:lenA T 147 .nilsl=some (.int .i64 0):=rfl
@[simp] theorem lene147:lenA T 147 .esl=some (.int .i64 0):=rfl
@[simp] theorem src147 (J:AHeap)(l:List gExpr)(z:List AV)(k:TK):srcA ⟨3,40,z,k⟩ J (.fsl (eL rExpr l))=some (eL rExpr l):=jO (f:=rExpr) len_rExpr J l
@[simp] theorem srco147 {J:AHeap}{o:Nat}{l:List gExpr}(z:List AV)(k:TK)(h:J.objs o=some ⟨149,3,eL rExpr l⟩):srcA ⟨3,40,z,k⟩ J (.sl o 0 l.length)=some (eL rExpr l):=wW (ti:=⟨3,40,z,k⟩) lin_rExpr h
theorem ix147 {l:List gExpr}{i:Int}{v:gExpr}(h:idx l i=some v)(J:AHeap)(k:IntKind):zQ T J 147 (.fsl (eL rExpr l)) (.int k i)=some (.fptr (rExpr v) 0):=vF (e:=149) rfl rfl len_rExpr h J k
@[simp] theorem len22 (l:List Int):lenA T 22 (.fsl (eL rU8 l))=some (.int .i64 (ilen l)):=jS (e:=5) rfl rU8 l
@[simp] theorem leno22 (o r:Nat)(l:List Int):lenA T 22 (.sl o r l.length)=some (.int .i64 (ilen l)):=vD (e:=5) rfl o r l
@[simp] theorem lenn22:lenA T 22 .nilsl=some (.int .i64 0):=rfl
@[simp] theorem lene22:lenA T 22 .esl=some (.int .i64 0):=rfl
@[simp] theorem src22 (J:AHeap)(l:List Int)(z:List AV)(k:TK):srcA ⟨1,1,z,k⟩ J (.fsl (eL rU8 l))=some (eL rU8 l):=jO (f:=rU8) (fun _=>rfl) J l
@[simp] theorem srco22 {J:AHeap}{o:Nat}{l:List Int}(z:List AV)(k:TK)(h:J.objs o=some ⟨5,1,eL rU8 l⟩):srcA ⟨1,1,z,k⟩ J (.sl o 0 l.length)=some (eL rU8 l):=wW (ti:=⟨1,1,z,k⟩) (fun _=>rfl) h
theorem ix22 {l:List Int}{i:Int}{v:Int}(h:idx l i=some v)(J:AHeap)(k:IntKind):zQ T J 22 (.fsl (eL rU8 l)) (.int k i)=some (.fptr (rU8 v) 0):=vF (e:=5) rfl rfl (fun _=>rfl) h J k
theorem cuth_22 {l r:List Int}{b:Int}(h:cutx l 0 b=some r)(J:AHeap) ⦃kb:IntKind⦄:cutA T J 22 (.fsl (eL rU8 l)) none (some (.int kb b))=some (.fsl (eL rU8 r)):=cutA_fsl (e:=5) rfl rfl (fun _=>rfl) rfl rfl h J
@[simp] theorem len23 (l:List Int):lenA T 23 (.fsl (eL rI l))=some (.int .i64 (ilen l)):=jS (e:=3) rfl rI l
@[simp] theorem leno23 (o r:Nat)(l:List Int):lenA T 23 (.sl o r l.length)=some (.int .i64 (ilen l)):=vD (e:=3) rfl o r l
@[simp] theorem lenn23:lenA T 23 .nilsl=some (.int .i64 0):=rfl
@[simp] theorem lene23:lenA T 23 .esl=some (.int .i64 0):=rfl
@[simp] theorem src23 (J:AHeap)(l:List Int)(z:List AV)(k:TK):srcA ⟨1,8,z,k⟩ J (.fsl (eL rI l))=some (eL rI l):=jO (f:=rI) (fun _=>rfl) J l
@[simp] theorem srco23 {J:AHeap}{o:Nat}{l:List Int}(z:List AV)(k:TK)(h:J.objs o=some ⟨3,1,eL rI l⟩):srcA ⟨1,8,z,k⟩ J (.sl o 0 l.length)=some (eL rI l):=wW (ti:=⟨1,8,z,k⟩) (fun _=>rfl) h
theorem ix23 {l:List Int}{i:Int}{v:Int}(h:idx l i=some v)(J:AHeap)(k:IntKind):zQ T J 23 (.fsl (eL rI l)) (.int k i)=some (.fptr (rI v) 0):=vF (e:=3) rfl rfl (fun _=>rfl) h J k
theorem ixo23 {l:List Int}{i:Int}{v:Int}(h:idx l i=some v) ⦃J:AHeap⦄ ⦃o:Nat⦄ (hs:(J.objs o).map AObj.sz=some 1) (k:IntKind):zQ T J 23 (.sl o 0 l.length) (.int k i)=some (.ptr o i.toNat 0):=cH (e:=3) rfl rfl h hs k
theorem app23 {l m r:List Int}(h:appx 8 l m=some r) ⦃J:AHeap⦄ ⦃o:Nat⦄ ⦃x:AV⦄ (id:Nat) (ho:J.objs o=some ⟨3,1,eL rI l⟩) (hx:srcA ⟨1,8,[.int .i64 0],.int .i64⟩ J x=some (eL rI m)):
  kF T 23 id (.sl o 0 l.length) x J=some (.sl id 0 r.length,(J.kill o).put id ⟨3,1,eL rI r⟩):=cC (e:=3) rfl rfl (by decide) h id ho hx
theorem sP {m r:List Int}(h:appx 8 [] m=some r) ⦃J:AHeap⦄ ⦃x:AV⦄ (id:Nat) (hx:srcA ⟨1,8,[.int .i64 0],.int .i64⟩ J x=some (eL rI m)):
  kF T 23 id .esl x J=some (.sl id 0 r.length,J.put id ⟨3,1,eL rI r⟩):=appA_esl (e:=3) rfl rfl (by decide) h id hx
theorem appf23 {m r:List Int}(h:appx 8 [] m=some r) ⦃J:AHeap⦄ ⦃s x:AV⦄ (hs:s.noRoom=true) (hx:srcA ⟨1,8,[.int .i64 0],.int .i64⟩ J x=some (eL rI m)):
  jM T 23 s x J=some (.fsl (eL rI r),J):=appF_nil (e:=3) (ti:=⟨1,8,[.int .i64 0],.int .i64⟩) rfl rfl (by decide) h hs hx
theorem makf23 {n:Int}{r:List Int}(h:makex 8 n (0:Int)=some r)(J:AHeap)(id:Nat)(k k':IntKind):makeA T 23 true id (.int k n) (.int k' n) J=some (.fsl (eL rI r),J):=makA_fsl (e:=3) (ti:=⟨1,8,[.int .i64 0],.int .i64⟩) rfl rfl (by decide) (z:=(0:Int)) rfl h J id k k'
theorem cutl_23 {l r:List Int}{a:Int}(h:cutx l a (ilen l)=some r)(J:AHeap) ⦃ka:IntKind⦄:cutA T J 23 (.fsl (eL rI l)) (some (.int ka a)) none=some (.fsl (eL rI r)):=cutA_fsl (e:=3) rfl rfl (fun _=>rfl) rfl rfl h J
@[simp] theorem len24 (l:List (List gQuad)):lenA T 24 (.fsl (eL zA l))=some (.int .i64 (ilen l)):=jS (e:=34) rfl zA l
@[simp] theorem leno24 (o r:Nat)(l:List (List gQuad)):lenA T 24 (.sl o r l.length)=some (.int .i64 (ilen l)):=vD (e:=34) rfl o r l
@[simp] theorem lenn24:lenA T 24 .nilsl=some (.int .i64 0):=rfl
@[simp] theorem lene24:lenA T 24 .esl=some (.int .i64 0):=rfl
@[simp] theorem src24 (J:AHeap)(l:List (List gQuad))(z:List AV)(k:TK):srcA ⟨1,24,z,k⟩ J (.fsl (eL zA l))=some (eL zA l):=jO (f:=zA) (fun _=>rfl) J l
@[simp] theorem srco24 {J:AHeap}{o:Nat}{l:List (List gQuad)}(z:List AV)(k:TK)(h:J.objs o=some ⟨34,1,eL zA l⟩):srcA ⟨1,24,z,k⟩ J (.sl o 0 l.length)=some (eL zA l):=wW (ti:=⟨1,24,z,k⟩) (fun _=>rfl) h
theorem ix24 {l:List (List gQuad)}{i:Int}{v:List gQuad}(h:idx l i=some v)(J:AHeap)(k:IntKind):zQ T J 24 (.fsl (eL zA l)) (.int k i)=some (.fptr (zA v) 0):=vF (e:=34) rfl rfl (fun _=>rfl) h J k
theorem app24 {l m r:List (List gQuad)}(h:appx 24 l m=some r) ⦃J:AHeap⦄ ⦃o:Nat⦄ ⦃x:AV⦄ (id:Nat) (ho:J.objs o=some ⟨34,1,eL zA l⟩) (hx:srcA ⟨1,24,[.nilsl],.slice 36⟩ J x=some (eL zA m)):
  kF T 24 id (.sl o 0 l.length) x J=some (.sl id 0 r.length,(J.kill o).put id ⟨34,1,eL zA r⟩):=cC (e:=34) rfl rfl (by decide) h id ho hx
@[simp] theorem len27 (l:List gThread):lenA T 27 (.fsl (eL zB l))=some (.int .i64 (ilen l)):=jS (e:=42) rfl zB l
@[simp] theorem leno27 (o r:Nat)(l:List gThread):lenA T 27 (.sl o r l.length)=some (.int .i64 (ilen l)):=vD (e:=42) rfl o r l
@[simp] theorem lenn27:lenA T 27 .nilsl=some (.int .i64 0):=rfl
@[simp] theorem lene27:lenA T 27 .esl=some (.int .i64 0):=rfl
@[simp] theorem src27 (J:AHeap)(l:List gThread)(z:List AV)(k:TK):srcA ⟨2,32,z,k⟩ J (.fsl (eL zB l))=some (eL zB l):=jO (f:=zB) (fun _=>rfl) J l
@[simp] theorem srco27 {J:AHeap}{o:Nat}{l:List gThread}(z:List AV)(k:TK)(h:J.objs o=some ⟨42,2,eL zB l⟩):srcA ⟨2,32,z,k⟩ J (.sl o 0 l.length)=some (eL zB l):=wW (ti:=⟨2,32,z,k⟩) (fun _=>rfl) h
theorem ix27 {l:List gThread}{i:Int}{v:gThread}(h:idx l i=some v)(J:AHeap)(k:IntKind):zQ T J 27 (.fsl (eL zB l)) (.int k i)=some (.fptr (zB v) 0):=vF (e:=42) rfl rfl (fun _=>rfl) h J k
theorem ixo27 {l:List gThread}{i:Int}{v:gThread}(h:idx l i=some v) ⦃J:AHeap⦄ ⦃o:Nat⦄ (hs:(J.objs o).map AObj.sz=some 2) (k:IntKind):zQ T J 27 (.sl o 0 l.length) (.int k i)=some (.ptr o i.toNat 0):=cH (e:=42) rfl rfl h hs k
theorem app27 {l m r:List gThread}(h:appx 32 l m=some r) ⦃J:AHeap⦄ ⦃o:Nat⦄ ⦃x:AV⦄ (id:Nat) (ho:J.objs o=some ⟨42,2,eL zB l⟩) (hx:srcA ⟨2,32,[.nilsl,.int .i64 0],.struct [(0,23),(1,3)]⟩ J x=some (eL zB m)):
  kF T 27 id (.sl o 0 l.length) x J=some (.sl id 0 r.length,(J.kill o).put id ⟨42,2,eL zB r⟩):=cC (e:=42) rfl rfl (by decide) h id ho hx
@[simp] theorem len28 (l:List gBox):lenA T 28 (.fsl (eL rBox l))=some (.int .i64 (ilen l)):=jS (e:=103) rfl rBox l
@[simp] theorem leno28 (o r:Nat)(l:List gBox):lenA T 28 (.sl o r l.length)=some (.int .i64 (ilen l)):=vD (e:=103) rfl o r l
@[simp] theorem lenn28:lenA T 28 .nilsl=some (.int .i64 0):=rfl
@[simp] theorem lene28:lenA T 28 .esl=some (.int .i64 0):=rfl
@[simp] theorem src28 (J:AHeap)(l:List gBox)(z:List AV)(k:TK):srcA ⟨2,32,z,k⟩ J (.fsl (eL rBox l))=some (eL rBox l):=jO (f:=rBox) (fun _=>rfl) J l
@[simp] theorem srco28 {J:AHeap}{o:Nat}{l:List gBox}(z:List AV)(k:TK)(h:J.objs o=some ⟨103,2,eL rBox l⟩):srcA ⟨2,32,z,k⟩ J (.sl o 0 l.length)=some (eL rBox l):=wW (ti:=⟨2,32,z,k⟩) (fun _=>rfl) h
theorem ix28 {l:List gBox}{i:Int}{v:gBox}(h:idx l i=some v)(J:AHeap)(k:IntKind):zQ T J 28 (.fsl (eL rBox l)) (.int k i)=some (.fptr (rBox v) 0):=vF (e:=103) rfl rfl (fun _=>rfl) h J k
theorem ixo28 {l:List gBox}{i:Int}{v:gBox}(h:idx l i=some v) ⦃J:AHeap⦄ ⦃o:Nat⦄ (hs:(J.objs o).map AObj.sz=some 2) (k:IntKind):zQ T J 28 (.sl o 0 l.length) (.int k i)=some (.ptr o i.toNat 0):=cH (e:=103) rfl rfl h hs k
theorem app28 {l m r:List gBox}(h:appx 32 l m=some r) ⦃J:AHeap⦄ ⦃o:Nat⦄ ⦃x:AV⦄ (id:Nat) (ho:J.objs o=some ⟨103,2,eL rBox l⟩) (hx:srcA ⟨2,32,[.int .i64 0,.nilsl],.struct [(0,3),(1,23)]⟩ J x=some (eL rBox m)):
  kF T 28 id (.sl o 0 l.length) x J=some (.sl id 0 r.length,(J.kill o).put id ⟨103,2,eL rBox r⟩):=cC (e:=103) rfl rfl (by decide) h id ho hx
theorem cuth_28 {l r:List gBox}{b:Int}(h:cutx l 0 b=some r)(J:AHeap) ⦃kb:IntKind⦄:cutA T J 28 (.fsl (eL rBox l)) none (some (.int kb b))=some (.fsl (eL rBox r)):=cutA_fsl (e:=103) rfl rfl (fun _=>rfl) rfl rfl h J
@[simp] theorem len34 (l:List gQuad):lenA T 34 (.fsl (eL rQuad l))=some (.int .i64 (ilen l)):=jS (e:=36) rfl rQuad l
@[simp] theorem leno34 (o r:Nat)(l:List gQuad):lenA T 34 (.sl o r l.length)=some (.int .i64 (ilen l)):=vD (e:=36) rfl o r l
@[simp] theorem lenn34:lenA T 34 .nilsl=some (.int .i64 0):=rfl
@[simp] theorem lene34:lenA T 34 .esl=some (.int .i64 0):=rfl
@[simp] theorem src34 (J:AHeap)(l:List gQuad)(z:List AV)(k:TK):srcA ⟨5,40,z,k⟩ J (.fsl (eL rQuad l))=some (eL rQuad l):=jO (f:=rQuad) (fun _=>rfl) J l
@[simp] theorem srco34 {J:AHeap}{o:Nat}{l:List gQuad}(z:List AV)(k:TK)(h:J.objs o=some ⟨36,5,eL rQuad l⟩):srcA ⟨5,40,z,k⟩ J (.sl o 0 l.length)=some (eL rQuad l):=wW (ti:=⟨5,40,z,k⟩) (fun _=>rfl) h
theorem ix34 {l:List gQuad}{i:Int}{v:gQuad}(h:idx l i=some v)(J:AHeap)(k:IntKind):zQ T J 34 (.fsl (eL rQuad l)) (.int k i)=some (.fptr (rQuad v) 0):=vF (e:=36) rfl rfl (fun _=>rfl) h J k
theorem app34 {l m r:List gQuad}(h:appx 40 l m=some r) ⦃J:AHeap⦄ ⦃o:Nat⦄ ⦃x:AV⦄ (id:Nat) (ho:J.objs o=some ⟨36,5,eL rQuad l⟩) (hx:srcA ⟨5,40,[.int .i64 0,.int .i64 0,.int .i64 0,.int .i64 0,.int .i64 0],.struct [(0,3),(1,3),(2,3),(3,3),(4,3)]⟩ J x=some (eL rQuad m)):
  kF T 34 id (.sl o 0 l.length) x J=some (.sl id 0 r.length,(J.kill o).put id ⟨36,5,eL rQuad r⟩):=cC (e:=36) rfl rfl (by decide) h id ho hx
theorem appf34 {m r:List gQuad}(h:appx 40 [] m=some r) ⦃J:AHeap⦄ ⦃s x:AV⦄ (hs:s.noRoom=true) (hx:srcA ⟨5,40,[.int .i64 0,.int .i64 0,.int .i64 0,.int .i64 0,.int .i64 0],.struct [(0,3),(1,3),(2,3),(3,3),(4,3)]⟩ J x=some (eL rQuad m)):
  jM T 34 s x J=some (.fsl (eL rQuad r),J):=appF_nil (e:=36) (ti:=⟨5,40,[.int .i64 0,.int .i64 0,.int .i64 0,.int .i64 0,.int .i64 0],.struct [(0,3),(1,3),(2,3),(3,3),(4,3)]⟩) rfl rfl (by decide) h hs hx
@[simp] theorem len163 (l:List (List gFact)):lenA T 163 (.fsl (eL kR l))=some (.int .i64 (ilen l)):=jS (e:=166) rfl kR l
@[simp] theorem leno163 (o r:Nat)(l:List (List gFact)):lenA T 163 (.sl o r l.length)=some (.int .i64 (ilen l)):=vD (e:=166) rfl o r l
@[simp] theorem lenn163:lenA T 163 .nilsl=some (.int .i64 0):=rfl
@[simp] theorem lene163:lenA T 163 .esl=some (.int .i64 0):=rfl
@[simp] theorem src163 (J:AHeap)(l:List (List gFact))(z:List AV)(k:TK):srcA ⟨1,24,z,k⟩ J (.fsl (eL kR l))=some (eL kR l):=jO (f:=kR) (fun _=>rfl) J l
@[simp] theorem srco163 {J:AHeap}{o:Nat}{l:List (List gFact)}(z:List AV)(k:TK)(h:J.objs o=some ⟨166,1,eL kR l⟩):srcA ⟨1,24,z,k⟩ J (.sl o 0 l.length)=some (eL kR l):=wW (ti:=⟨1,24,z,k⟩) (fun _=>rfl) h
theorem ix163 {l:List (List gFact)}{i:Int}{v:List gFact}(h:idx l i=some v)(J:AHeap)(k:IntKind):zQ T J 163 (.fsl (eL kR l)) (.int k i)=some (.fptr (kR v) 0):=vF (e:=166) rfl rfl (fun _=>rfl) h J k
theorem mQ {l:List (List gFact)}{i:Int}{v:List gFact}(h:idx l i=some v) ⦃J:AHeap⦄ ⦃o:Nat⦄ (hs:(J.objs o).map AObj.sz=some 1) (k:IntKind):zQ T J 163 (.sl o 0 l.length) (.int k i)=some (.ptr o i.toNat 0):=cH (e:=166) rfl rfl h hs k
@[simp] theorem len166 (l:List gFact):lenA T 166 (.fsl (eL rFact l))=some (.int .i64 (ilen l)):=jS (e:=180) rfl rFact l
@[simp] theorem leno166 (o r:Nat)(l:List gFact):lenA T 166 (.sl o r l.length)=some (.int .i64 (ilen l)):=vD (e:=180) rfl o r l
@[simp] theorem lenn166:lenA T 166 .nilsl=some (.int .i64 0):=rfl
@[simp] theorem lene166:lenA T 166 .esl=some (.int .i64 0):=rfl
@[simp] theorem src166 (J:AHeap)(l:List gFact)(z:List AV)(k:TK):srcA ⟨2,16,z,k⟩ J (.fsl (eL rFact l))=some (eL rFact l):=jO (f:=rFact) (fun _=>rfl) J l
@[simp] theorem srco166 {J:AHeap}{o:Nat}{l:List gFact}(z:List AV)(k:TK)(h:J.objs o=some ⟨180,2,eL rFact l⟩):srcA ⟨2,16,z,k⟩ J (.sl o 0 l.length)=some (eL rFact l):=wW (ti:=⟨2,16,z,k⟩) (fun _=>rfl) h
theorem ix166 {l:List gFact}{i:Int}{v:gFact}(h:idx l i=some v)(J:AHeap)(k:IntKind):zQ T J 166 (.fsl (eL rFact l)) (.int k i)=some (.fptr (rFact v) 0):=vF (e:=180) rfl rfl (fun _=>rfl) h J k
theorem gK {l:List gFact}{i:Int}{v:gFact}(h:idx l i=some v) ⦃J:AHeap⦄ ⦃o:Nat⦄ (hs:(J.objs o).map AObj.sz=some 2) (k:IntKind):zQ T J 166 (.sl o 0 l.length) (.int k i)=some (.ptr o i.toNat 0):=cH (e:=180) rfl rfl h hs k
theorem appe166 {m r:List gFact}(h:appx 16 [] m=some r) ⦃J:AHeap⦄ ⦃x:AV⦄ (id:Nat) (hx:srcA ⟨2,16,[.int .i64 0,.int .i64 0],.struct [(0,3),(1,3)]⟩ J x=some (eL rFact m)):
  kF T 166 id .esl x J=some (.sl id 0 r.length,J.put id ⟨180,2,eL rFact r⟩):=appA_esl (e:=180) rfl rfl (by decide) h id hx
theorem mak166 {n:Int}{r:List gFact}(h:makex 16 n (⟨0,0⟩:gFact)=some r)(J:AHeap)(id:Nat)(k k':IntKind):makeA T 166 false id (.int k n) (.int k' n) J=some (.sl id 0 r.length,J.put id ⟨180,2,eL rFact r⟩):=makA_sl (e:=180) (ti:=⟨2,16,[.int .i64 0,.int .i64 0],.struct [(0,3),(1,3)]⟩) rfl rfl (by decide) (z:=(⟨0,0⟩:gFact)) rfl h J id k k'
@[simp] theorem len39 (l:List Bool):lenA T 39 (.fsl (eL rB l))=some (.int .i64 (ilen l)):=jS (e:=4) rfl rB l
@[simp] theorem leno39 (o r:Nat)(l:List Bool):lenA T 39 (.sl o r l.length)=some (.int .i64 (ilen l)):=vD (e:=4) rfl o r l
@[simp] theorem lenn39:lenA T 39 .nilsl=some (.int .i64 0):=rfl
@[simp] theorem lene39:lenA T 39 .esl=some (.int .i64 0):=rfl
@[simp] theorem src39 (J:AHeap)(l:List Bool)(z:List AV)(k:TK):srcA ⟨1,1,z,k⟩ J (.fsl (eL rB l))=some (eL rB l):=jO (f:=rB) (fun _=>rfl) J l
@[simp] theorem srco39 {J:AHeap}{o:Nat}{l:List Bool}(z:List AV)(k:TK)(h:J.objs o=some ⟨4,1,eL rB l⟩):srcA ⟨1,1,z,k⟩ J (.sl o 0 l.length)=some (eL rB l):=wW (ti:=⟨1,1,z,k⟩) (fun _=>rfl) h
theorem ix39 {l:List Bool}{i:Int}{v:Bool}(h:idx l i=some v)(J:AHeap)(k:IntKind):zQ T J 39 (.fsl (eL rB l)) (.int k i)=some (.fptr (rB v) 0):=vF (e:=4) rfl rfl (fun _=>rfl) h J k
theorem ixo39 {l:List Bool}{i:Int}{v:Bool}(h:idx l i=some v) ⦃J:AHeap⦄ ⦃o:Nat⦄ (hs:(J.objs o).map AObj.sz=some 1) (k:IntKind):zQ T J 39 (.sl o 0 l.length) (.int k i)=some (.ptr o i.toNat 0):=cH (e:=4) rfl rfl h hs k
theorem appe39 {m r:List Bool}(h:appx 1 [] m=some r) ⦃J:AHeap⦄ ⦃x:AV⦄ (id:Nat) (hx:srcA ⟨1,1,[.bool false],.bool⟩ J x=some (eL rB m)):
  kF T 39 id .esl x J=some (.sl id 0 r.length,J.put id ⟨4,1,eL rB r⟩):=appA_esl (e:=4) rfl rfl (by decide) h id hx
theorem mak39 {n:Int}{r:List Bool}(h:makex 1 n (false:Bool)=some r)(J:AHeap)(id:Nat)(k k':IntKind):makeA T 39 false id (.int k n) (.int k' n) J=some (.sl id 0 r.length,J.put id ⟨4,1,eL rB r⟩):=makA_sl (e:=4) (ti:=⟨1,1,[.bool false],.bool⟩) rfl rfl (by decide) (z:=(false:Bool)) rfl h J id k k'
@[simp] theorem len43 (l:List (List Bool)):lenA T 43 (.fsl (eL rL_B l))=some (.int .i64 (ilen l)):=jS (e:=39) rfl rL_B l
@[simp] theorem leno43 (o r:Nat)(l:List (List Bool)):lenA T 43 (.sl o r l.length)=some (.int .i64 (ilen l)):=vD (e:=39) rfl o r l
@[simp] theorem lenn43:lenA T 43 .nilsl=some (.int .i64 0):=rfl
@[simp] theorem lene43:lenA T 43 .esl=some (.int .i64 0):=rfl
@[simp] theorem src43 (J:AHeap)(l:List (List Bool))(z:List AV)(k:TK):srcA ⟨1,24,z,k⟩ J (.fsl (eL rL_B l))=some (eL rL_B l):=jO (f:=rL_B) (fun _=>rfl) J l
@[simp] theorem srco43 {J:AHeap}{o:Nat}{l:List (List Bool)}(z:List AV)(k:TK)(h:J.objs o=some ⟨39,1,eL rL_B l⟩):srcA ⟨1,24,z,k⟩ J (.sl o 0 l.length)=some (eL rL_B l):=wW (ti:=⟨1,24,z,k⟩) (fun _=>rfl) h
theorem ix43 {l:List (List Bool)}{i:Int}{v:List Bool}(h:idx l i=some v)(J:AHeap)(k:IntKind):zQ T J 43 (.fsl (eL rL_B l)) (.int k i)=some (.fptr (rL_B v) 0):=vF (e:=39) rfl rfl (fun _=>rfl) h J k
theorem ixo43 {l:List (List Bool)}{i:Int}{v:List Bool}(h:idx l i=some v) ⦃J:AHeap⦄ ⦃o:Nat⦄ (hs:(J.objs o).map AObj.sz=some 1) (k:IntKind):zQ T J 43 (.sl o 0 l.length) (.int k i)=some (.ptr o i.toNat 0):=cH (e:=39) rfl rfl h hs k
@[simp] theorem len86 (l:List (List Int)):lenA T 86 (.fsl (eL rL_I l))=some (.int .i64 (ilen l)):=jS (e:=23) rfl rL_I l
@[simp] theorem leno86 (o r:Nat)(l:List (List Int)):lenA T 86 (.sl o r l.length)=some (.int .i64 (ilen l)):=vD (e:=23) rfl o r l
@[simp] theorem lenn86:lenA T 86 .nilsl=some (.int .i64 0):=rfl
@[simp] theorem lene86:lenA T 86 .esl=some (.int .i64 0):=rfl
@[simp] theorem src86 (J:AHeap)(l:List (List Int))(z:List AV)(k:TK):srcA ⟨1,24,z,k⟩ J (.fsl (eL rL_I l))=some (eL rL_I l):=jO (f:=rL_I) (fun _=>rfl) J l
@[simp] theorem srco86 {J:AHeap}{o:Nat}{l:List (List Int)}(z:List AV)(k:TK)(h:J.objs o=some ⟨23,1,eL rL_I l⟩):srcA ⟨1,24,z,k⟩ J (.sl o 0 l.length)=some (eL rL_I l):=wW (ti:=⟨1,24,z,k⟩) (fun _=>rfl) h
theorem ix86 {l:List (List Int)}{i:Int}{v:List Int}(h:idx l i=some v)(J:AHeap)(k:IntKind):zQ T J 86 (.fsl (eL rL_I l)) (.int k i)=some (.fptr (rL_I v) 0):=vF (e:=23) rfl rfl (fun _=>rfl) h J k
theorem ixo86 {l:List (List Int)}{i:Int}{v:List Int}(h:idx l i=some v) ⦃J:AHeap⦄ ⦃o:Nat⦄ (hs:(J.objs o).map AObj.sz=some 1) (k:IntKind):zQ T J 86 (.sl o 0 l.length) (.int k i)=some (.ptr o i.toNat 0):=cH (e:=23) rfl rfl h hs k
@[simp] theorem len124 (l:List gStmt):lenA T 124 (.fsl (eL rStmt l))=some (.int .i64 (ilen l)):=jS (e:=151) rfl rStmt l
@[simp] theorem leno124 (o r:Nat)(l:List gStmt):lenA T 124 (.sl o r l.length)=some (.int .i64 (ilen l)):=vD (e:=151) rfl o r l
@[simp] theorem lenn124:lenA T 124 .nilsl=some (.int .i64 0):=rfl
@[simp] theorem lene124:lenA T 124 .esl=some (.int .i64 0):=rfl
@[simp] theorem src124 (J:AHeap)(l:List gStmt)(z:List AV)(k:TK):srcA ⟨8,112,z,k⟩ J (.fsl (eL rStmt l))=some (eL rStmt l):=jO (f:=rStmt) len_rStmt J l
@[simp] theorem srco124 {J:AHeap}{o:Nat}{l:List gStmt}(z:List AV)(k:TK)(h:J.objs o=some ⟨151,8,eL rStmt l⟩):srcA ⟨8,112,z,k⟩ J (.sl o 0 l.length)=some (eL rStmt l):=wW (ti:=⟨8,112,z,k⟩) lin_rStmt h
theorem ix124 {l:List gStmt}{i:Int}{v:gStmt}(h:idx l i=some v)(J:AHeap)(k:IntKind):zQ T J 124 (.fsl (eL rStmt l)) (.int k i)=some (.fptr (rStmt v) 0):=vF (e:=151) rfl rfl len_rStmt h J k
theorem oE {l m r:List gStmt}(h:appx 112 l m=some r) ⦃J:AHeap⦄ ⦃o:Nat⦄ ⦃x:AV⦄ (id:Nat) (ho:J.objs o=some ⟨151,8,eL rStmt l⟩) (hx:srcA ⟨8,112,[.int .i64 0,.int .i64 0,.int .i64 0,.int .i64 0,.int .i64 0,.nilsl,.nilsl,.nilsl],.struct [(0,3),(1,3),(2,3),(3,149),(6,124),(7,124)]⟩ J x=some (eL rStmt m)):
  kF T 124 id (.sl o 0 l.length) x J=some (.sl id 0 r.length,(J.kill o).put id ⟨151,8,eL rStmt r⟩):=cC (e:=151) rfl rfl (by decide) h id ho hx
theorem cuth_124 {l r:List gStmt}{b:Int}(h:cutx l 0 b=some r)(J:AHeap) ⦃kb:IntKind⦄:cutA T J 124 (.fsl (eL rStmt l)) none (some (.int kb b))=some (.fsl (eL rStmt r)):=cutA_fsl (e:=151) rfl rfl len_rStmt rfl rfl h J
theorem cutoh_23 {l r:List Int}{b:Int}(h:cutx l 0 b=some r) ⦃J:AHeap⦄ ⦃o:Nat⦄ ⦃kb:IntKind⦄ (hs:(J.objs o).map AObj.sz=some 1):cutA T J 23 (.sl o 0 l.length) none (some (.int kb b))=some (.sl o 0 r.length):=cutA_sl (e:=3) rfl rfl rfl rfl h hs
theorem cutol_23 {l r:List Int}{a:Int}(h:cutx l a (ilen l)=some r) ⦃J:AHeap⦄ ⦃o:Nat⦄ ⦃ka:IntKind⦄ (hs:(J.objs o).map AObj.sz=some 1):cutA T J 23 (.sl o 0 l.length) (some (.int ka a)) none=some (.sl o a.toNat r.length):=cutA_sl (e:=3) rfl rfl rfl rfl h hs
theorem appv23 {l l' m r:List Int}{b:Int}(hc:cutx l 0 b=some l')(h:appx 8 l' m=some r) ⦃J:AHeap⦄ ⦃o:Nat⦄ ⦃x:AV⦄ (id:Nat) (ho:J.objs o=some ⟨3,1,eL rI l⟩) (hx:srcA ⟨1,8,[.int .i64 0],.int .i64⟩ J x=some (eL rI m)):
  kF T 23 id (.sl o 0 l'.length) x J=some (.sl id 0 r.length,(J.kill o).put id ⟨3,1,eL rI r⟩):=appA_slv (e:=3) (ti:=⟨1,8,[.int .i64 0],.int .i64⟩) rfl rfl (by decide) hc h id ho hx
theorem srcv23 {l r:List Int}{a b:Int}(hv:cutx l a b=some r) ⦃J:AHeap⦄ ⦃o:Nat⦄ (z:List AV) (k:TK) (h:J.objs o=some ⟨3,1,eL rI l⟩):srcA ⟨1,8,z,k⟩ J (.sl o a.toNat r.length)=some (eL rI r):=srcA_slv (ti:=⟨1,8,z,k⟩) (fun _=>rfl) hv h
theorem srcvn23 {l r:List Int}{a b:Int}(n:Nat)(hv:cutx l a b=some r)(hn:a.toNat=n) ⦃J:AHeap⦄ ⦃o:Nat⦄ (z:List AV) (k:TK) (h:J.objs o=some ⟨3,1,eL rI l⟩):srcA ⟨1,8,z,k⟩ J (.sl o n r.length)=some (eL rI r):=hn▸srcv23 hv z k h
theorem apr27 (f:gThread->List AV){l r:List gThread}{v:gThread}(h:appx 32 l [v]=some r) ⦃J:AHeap⦄ ⦃o:Nat⦄ (x0 x1:AV) (id:Nat) (ho:J.objs o=some ⟨42,2,eL f l⟩):
  kF T 27 id (.sl o 0 l.length) (.fsl [[x0,x1]]) J=some (.sl id 0 r.length,(J.kill o).put id ⟨42,2,eL f l++[[x0,x1]]⟩):=aprA_sl (e:=42) (ti:=⟨2,32,[.nilsl,.int .i64 0],.struct [(0,23),(1,3)]⟩) rfl rfl (by decide) h id ho (fG rfl J)
theorem apr28 (f:gBox->List AV){l r:List gBox}{v:gBox}(h:appx 32 l [v]=some r) ⦃J:AHeap⦄ ⦃o:Nat⦄ (x0 x1:AV) (id:Nat) (ho:J.objs o=some ⟨103,2,eL f l⟩):
  kF T 28 id (.sl o 0 l.length) (.fsl [[x0,x1]]) J=some (.sl id 0 r.length,(J.kill o).put id ⟨103,2,eL f l++[[x0,x1]]⟩):=aprA_sl (e:=103) (ti:=⟨2,32,[.int .i64 0,.nilsl],.struct [(0,3),(1,23)]⟩) rfl rfl (by decide) h id ho (fG rfl J)
theorem apr43 (f:(List Bool)->List AV){l r:List (List Bool)}{v:List Bool}(h:appx 24 l [v]=some r) ⦃J:AHeap⦄ ⦃o:Nat⦄ (x0:AV) (id:Nat) (ho:J.objs o=some ⟨39,1,eL f l⟩):
  kF T 43 id (.sl o 0 l.length) (.fsl [[x0]]) J=some (.sl id 0 r.length,(J.kill o).put id ⟨39,1,eL f l++[[x0]]⟩):=aprA_sl (e:=39) (ti:=⟨1,24,[.nilsl],.slice 4⟩) rfl rfl (by decide) h id ho (fG rfl J)
theorem apr86 (f:(List Int)->List AV){l r:List (List Int)}{v:List Int}(h:appx 24 l [v]=some r) ⦃J:AHeap⦄ ⦃o:Nat⦄ (x0:AV) (id:Nat) (ho:J.objs o=some ⟨23,1,eL f l⟩):
  kF T 86 id (.sl o 0 l.length) (.fsl [[x0]]) J=some (.sl id 0 r.length,(J.kill o).put id ⟨23,1,eL f l++[[x0]]⟩):=aprA_sl (e:=23) (ti:=⟨1,24,[.nilsl],.slice 3⟩) rfl rfl (by decide) h id ho (fG rfl J)
theorem apr163 (f:(List gFact)->List AV){l r:List (List gFact)}{v:List gFact}(h:appx 24 l [v]=some r) ⦃J:AHeap⦄ ⦃o:Nat⦄ (x0:AV) (id:Nat) (ho:J.objs o=some ⟨166,1,eL f l⟩):
  kF T 163 id (.sl o 0 l.length) (.fsl [[x0]]) J=some (.sl id 0 r.length,(J.kill o).put id ⟨166,1,eL f l++[[x0]]⟩):=aprA_sl (e:=166) (ti:=⟨1,24,[.nilsl],.slice 180⟩) rfl rfl (by decide) h id ho (fG rfl J)
theorem nf_rI (n:Nat)(x:Int):((rI x).all (AV.nf (n+1)))=true:=by simp[AV.nf,AV.simp1]
theorem nf_rB (n:Nat)(x:Bool):((rB x).all (AV.nf (n+1)))=true:=by simp[AV.nf,AV.simp1]
theorem nf_rFact (n:Nat)(x:gFact):((rFact x).all (AV.nf (n+1)))=true:=by simp[AV.nf,AV.simp1]
def kA (x:gBox):List AV:=[.int .i64 x.Room,.osl 3 1 (eL rI x.Items)]
@[simp] theorem rBox_o_eq (x:gBox):kA x=[.int .i64 x.Room,.osl 3 1 (eL rI x.Items)]:=rfl
@[simp] theorem thawm_rBox_o {D:Nat->Bool}{J:AHeap}{d:Nat}(l:List gBox):(eL kA l).map (fun e=>e.map (thawA D J (d+1)))=eL rBox l:=by
 simp only[eL,List.map_map]
 refine List.map_congr_left fun x _=>?_
 simp[thawA]
theorem uZ (l:List gBox)(k:Nat)(xRoom:Int)(xItems:List Int):(eL kA l).set k [.int .i64 xRoom,.osl 3 1 (eL rI xItems)]=eL kA (l.set k (⟨xRoom,xItems⟩:gBox)):=zY kA l k (⟨xRoom,xItems⟩:gBox)
@[simp] theorem len_rBox_o (x:gBox):(kA x).length=2:=rfl
def yP (x:List Bool):List AV:=[.osl 4 1 (eL rB x)]
@[simp] theorem rL_B_o_eq (x:List Bool):yP x=[.osl 4 1 (eL rB x)]:=rfl
@[simp] theorem thawm_rL_B_o {D:Nat->Bool}{J:AHeap}{d:Nat}(l:List (List Bool)):(eL yP l).map (fun e=>e.map (thawA D J (d+1)))=eL rL_B l:=by
 simp only[eL,List.map_map]
 refine List.map_congr_left fun x _=>?_
 simp[thawA]
@[simp] theorem len_rL_B_o (x:List Bool):(yP x).length=1:=rfl
def zO (x:List gFact):List AV:=[.osl 180 2 (eL rFact x)]
@[simp] theorem rL_Fact_o_eq (x:List gFact):zO x=[.osl 180 2 (eL rFact x)]:=rfl
@[simp] theorem thawm_rL_Fact_o {D:Nat->Bool}{J:AHeap}{d:Nat}(l:List (List gFact)):(eL zO l).map (fun e=>e.map (thawA D J (d+1)))=eL kR l:=by
 simp only[eL,List.map_map]
 refine List.map_congr_left fun x _=>?_
 simp[thawA]
@[simp] theorem len_rL_Fact_o (x:List gFact):(zO x).length=1:=rfl
def zW (x:List Int):List AV:=[.osl 3 1 (eL rI x)]
@[simp] theorem rL_I_o_eq (x:List Int):zW x=[.osl 3 1 (eL rI x)]:=rfl
@[simp] theorem thawm_rL_I_o {D:Nat->Bool}{J:AHeap}{d:Nat}(l:List (List Int)):(eL zW l).map (fun e=>e.map (thawA D J (d+1)))=eL rL_I l:=by
 simp only[eL,List.map_map]
 refine List.map_congr_left fun x _=>?_
 simp[thawA]
@[simp] theorem len_rL_I_o (x:List Int):(zW x).length=1:=rfl
def zX (x:gThread):List AV:=[.osl 3 1 (eL rI x.Regs),.int .i64 x.Pc]
@[simp] theorem rThread_o_eq (x:gThread):zX x=[.osl 3 1 (eL rI x.Regs),.int .i64 x.Pc]:=rfl
@[simp] theorem thawm_rThread_o {D:Nat->Bool}{J:AHeap}{d:Nat}(l:List gThread):(eL zX l).map (fun e=>e.map (thawA D J (d+1)))=eL zB l:=by
 simp only[eL,List.map_map]
 refine List.map_congr_left fun x _=>?_
 simp[thawA]
theorem kQ (l:List gThread)(k:Nat)(xRegs:List Int)(xPc:Int):(eL zX l).set k [.osl 3 1 (eL rI xRegs),.int .i64 xPc]=eL zX (l.set k (⟨xRegs,xPc⟩:gThread)):=zY zX l k (⟨xRegs,xPc⟩:gThread)
@[simp] theorem len_rThread_o (x:gThread):(zX x).length=2:=rfl
end Go.Proofs.YtolmjhgondilhaaGreat
