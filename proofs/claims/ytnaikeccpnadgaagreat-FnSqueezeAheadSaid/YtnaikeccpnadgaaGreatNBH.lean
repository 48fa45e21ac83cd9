/- Words of the proof. -/
import Derived.Test.YtnaikeccpnadgaaGreatNBR0
import Derived.Test.YtnaikeccpnadgaaGreatProg
import Derived.KernelRfl
set_option linter.unusedSimpArgs false
set_option linter.unusedVariables false
set_option maxRecDepth 20000
namespace Go.Proofs.YtnaikeccpnadgaaGreat
open Go Go.Abs Go.RowKit

def T:Types:=fun t=>
 match t with
 |3=>some ⟨1,8,[.int .i64 0],.int .i64⟩
 |4=>some ⟨1,1,[.bool false],.bool⟩
 |5=>some ⟨1,1,[.int .u8 0],.int .u8⟩
 |21=>some ⟨1,4,[.int .i32 0],.int .i32⟩
 |22=>some ⟨1,24,[.nilsl],.slice 5⟩
 |23=>some ⟨1,24,[.nilsl],.slice 3⟩
 |24=>some ⟨1,24,[.nilsl],.slice 34⟩
 |27=>some ⟨1,24,[.nilsl],.slice 42⟩
 |28=>some ⟨1,24,[.nilsl],.slice 99⟩
 |30=>some ⟨6,112,[.nilsl,.nilsl,.nilsl,.int .i64 0,.int .i64 0,.nilsl],.struct [(0,24),(1,27),(2,28),(3,3),(4,3),(5,23)]⟩
 |34=>some ⟨1,24,[.nilsl],.slice 68⟩
 |38=>some ⟨1,24,[.nilsl],.slice 4⟩
 |39=>some ⟨1,24,[.nilsl],.slice 38⟩
 |42=>some ⟨2,32,[.nilsl,.int .i64 0],.struct [(0,23),(1,3)]⟩
 |44=>some ⟨1,24,[.nilsl],.slice 49⟩
 |45=>some ⟨1,24,[.nilsl],.slice 44⟩
 |49=>some ⟨2,16,[.int .i64 0,.int .i64 0],.struct [(0,3),(1,3)]⟩
 |50=>some ⟨1,24,[.nilsl],.slice 23⟩
 |56=>some ⟨1,8,[.nilp],.ptr⟩
 |68=>some ⟨5,40,[.int .i64 0,.int .i64 0,.int .i64 0,.int .i64 0,.int .i64 0],.struct [(0,3),(1,3),(2,3),(3,3),(4,3)]⟩
 |71=>some ⟨1,24,[.nilsl],.slice 74⟩
 |74=>some ⟨1,2,[.int .u16 0],.int .u16⟩
 |92=>some ⟨4,80,[.nilsl,.nilsl,.nilsl,.bool false],.struct [(0,23),(1,50),(2,38),(3,4)]⟩
 |96=>some ⟨2,32,[.nilsl,.int .i64 0],.struct [(0,22),(1,3)]⟩
 |99=>some ⟨2,32,[.int .i64 0,.nilsl],.struct [(0,3),(1,23)]⟩
 |115=>some ⟨1,8,[.nilp],.ptr⟩
 |131=>some ⟨1,24,[.nilsl],.slice 157⟩
 |137=>some ⟨1,8,[.nilp],.ptr⟩
 |149=>some ⟨1,8,[.nilp],.ptr⟩
 |153=>some ⟨1,24,[.nilsl],.slice 155⟩
 |155=>some ⟨3,40,[.int .i64 0,.int .i64 0,.nilsl],.struct [(0,3),(1,3),(2,153)]⟩
 |157=>some ⟨8,112,[.int .i64 0,.int .i64 0,.int .i64 0,.int .i64 0,.int .i64 0,.nilsl,.nilsl,.nilsl],.struct [(0,3),(1,3),(2,3),(3,155),(6,131),(7,131)]⟩
 |_=>none

@[simp] theorem T_3:T 3=some ⟨1,8,[.int .i64 0],.int .i64⟩:=rfl
@[simp] theorem T_4:T 4=some ⟨1,1,[.bool false],.bool⟩:=rfl
@[simp] theorem T_5:T 5=some ⟨1,1,[.int .u8 0],.int .u8⟩:=rfl
@[simp] theorem T_21:T 21=some ⟨1,4,[.int .i32 0],.int .i32⟩:=rfl
@[simp] theorem T_22:T 22=some ⟨1,24,[.nilsl],.slice 5⟩:=rfl
@[simp] theorem T_23:T 23=some ⟨1,24,[.nilsl],.slice 3⟩:=rfl
@[simp] theorem T_24:T 24=some ⟨1,24,[.nilsl],.slice 34⟩:=rfl
@[simp] theorem T_27:T 27=some ⟨1,24,[.nilsl],.slice 42⟩:=rfl
@[simp] theorem T_28:T 28=some ⟨1,24,[.nilsl],.slice 99⟩:=rfl
@[simp] theorem T_30:T 30=some ⟨6,112,[.nilsl,.nilsl,.nilsl,.int .i64 0,.int .i64 0,.nilsl],.struct [(0,24),(1,27),(2,28),(3,3),(4,3),(5,23)]⟩:=rfl
@[simp] theorem T_34:T 34=some ⟨1,24,[.nilsl],.slice 68⟩:=rfl
@[simp] theorem T_38:T 38=some ⟨1,24,[.nilsl],.slice 4⟩:=rfl
@[simp] theorem T_39:T 39=some ⟨1,24,[.nilsl],.slice 38⟩:=rfl
@[simp] theorem T_42:T 42=some ⟨2,32,[.nilsl,.int .i64 0],.struct [(0,23),(1,3)]⟩:=rfl
@[simp] theorem T_44:T 44=some ⟨1,24,[.nilsl],.slice 49⟩:=rfl
@[simp] theorem T_45:T 45=some ⟨1,24,[.nilsl],.slice 44⟩:=rfl
@[simp] theorem T_49:T 49=some ⟨2,16,[.int .i64 0,.int .i64 0],.struct [(0,3),(1,3)]⟩:=rfl
@[simp] theorem T_50:T 50=some ⟨1,24,[.nilsl],.slice 23⟩:=rfl
@[simp] theorem T_56:T 56=some ⟨1,8,[.nilp],.ptr⟩:=rfl
@[simp] theorem T_68:T 68=some ⟨5,40,[.int .i64 0,.int .i64 0,.int .i64 0,.int .i64 0,.int .i64 0],.struct [(0,3),(1,3),(2,3),(3,3),(4,3)]⟩:=rfl
@[simp] theorem T_71:T 71=some ⟨1,24,[.nilsl],.slice 74⟩:=rfl
@[simp] theorem T_74:T 74=some ⟨1,2,[.int .u16 0],.int .u16⟩:=rfl
@[simp] theorem T_92:T 92=some ⟨4,80,[.nilsl,.nilsl,.nilsl,.bool false],.struct [(0,23),(1,50),(2,38),(3,4)]⟩:=rfl
@[simp] theorem T_96:T 96=some ⟨2,32,[.nilsl,.int .i64 0],.struct [(0,22),(1,3)]⟩:=rfl
@[simp] theorem T_99:T 99=some ⟨2,32,[.int .i64 0,.nilsl],.struct [(0,3),(1,23)]⟩:=rfl
@[simp] theorem T_115:T 115=some ⟨1,8,[.nilp],.ptr⟩:=rfl
@[simp] theorem T_131:T 131=some ⟨1,24,[.nilsl],.slice 157⟩:=rfl
@[simp] theorem T_137:T 137=some ⟨1,8,[.nilp],.ptr⟩:=rfl
@[simp] theorem T_149:T 149=some ⟨1,8,[.nilp],.ptr⟩:=rfl
@[simp] theorem T_153:T 153=some ⟨1,24,[.nilsl],.slice 155⟩:=rfl
@[simp] theorem T_155:T 155=some ⟨3,40,[.int .i64 0,.int .i64 0,.nilsl],.struct [(0,3),(1,3),(2,153)]⟩:=rfl
@[simp] theorem T_157:T 157=some ⟨8,112,[.int .i64 0,.int .i64 0,.int .i64 0,.int .i64 0,.int .i64 0,.nilsl,.nilsl,.nilsl],.struct [(0,3),(1,3),(2,3),(3,155),(6,131),(7,131)]⟩:=rfl
theorem tok:TOk Tryz.prog T:=by
 intro t i h
 unfold T at h
 split at h<;>first|(cases h;done)|skip
 all_goals (cases h;refine⟨by kernel_rfl,by kernel_rfl,by kernel_rfl,by kernel_rfl,by kernel_rfl⟩)
theorem tokM:Tryz.prog.follows .mixedOrders=true:=by kernel_rfl
abbrev G:Globs:=fun _=>none
@[simp] theorem bin_ii (op:BinOp)(t:TypeId)(k:IntKind)(a b:Int):bin T op t (.int k a) (.int k b)=ibin op k a b:=by simp[bin]
@[simp] theorem bin_shl (t:TypeId)(k k':IntKind)(a b:Int):bin T .shl t (.int k a) (.int k' b)=ibin .shl k a b:=by simp[bin]
@[simp] theorem bin_shr (t:TypeId)(k k':IntKind)(a b:Int):bin T .shr t (.int k a) (.int k' b)=ibin .shr k a b:=by simp[bin]
@[simp ↓] theorem sueq_49 (xKind xN yKind yN:Int):bin T .eql 49 (.agg [.int .i64 xKind,.int .i64 xN]) (.agg [.int .i64 yKind,.int .i64 yN])=some (.bool (eqD (⟨xKind,xN⟩:gFact) (⟨yKind,yN⟩:gFact))):=by
 have h:eqAgg T 49 [.int .i64 xKind,.int .i64 xN] [.int .i64 yKind,.int .i64 yN]=some (decide ((⟨xKind,xN⟩:gFact)=(⟨yKind,yN⟩:gFact))):=by
  simp[eqAgg,flatT,pY,gFact.mk.injEq,Bool.decide_and,decide_eq_true_eq]
  try rfl
 simp only[bin,h,Option.map_some,bnot,eqD]
@[simp ↓] theorem sune_49 (xKind xN yKind yN:Int):bin T .neq 49 (.agg [.int .i64 xKind,.int .i64 xN]) (.agg [.int .i64 yKind,.int .i64 yN])=some (.bool (bnot (eqD (⟨xKind,xN⟩:gFact) (⟨yKind,yN⟩:gFact)))):=by
 have h:eqAgg T 49 [.int .i64 xKind,.int .i64 xN] [.int .i64 yKind,.int .i64 yN]=some (decide ((⟨xKind,xN⟩:gFact)=(⟨yKind,yN⟩:gFact))):=by
  simp[eqAgg,flatT,pY,gFact.mk.injEq,Bool.decide_and,decide_eq_true_eq]
  try rfl
 simp only[bin,h,Option.map_some,bnot,eqD]
@[simp ↓] theorem sueq_68 (xOp xDst xA xB xN yOp yDst yA yB yN:Int):bin T .eql 68 (.agg [.int .i64 xOp,.int .i64 xDst,.int .i64 xA,.int .i64 xB,.int .i64 xN]) (.agg [.int .i64 yOp,.int .i64 yDst,.int .i64 yA,.int .i64 yB,.int .i64 yN])=some (.bool (eqD (⟨xOp,xDst,xA,xB,xN⟩:gQuad) (⟨yOp,yDst,yA,yB,yN⟩:gQuad))):=by
 have h:eqAgg T 68 [.int .i64 xOp,.int .i64 xDst,.int .i64 xA,.int .i64 xB,.int .i64 xN] [.int .i64 yOp,.int .i64 yDst,.int .i64 yA,.int .i64 yB,.int .i64 yN]=some (decide ((⟨xOp,xDst,xA,xB,xN⟩:gQuad)=(⟨yOp,yDst,yA,yB,yN⟩:gQuad))):=by
  simp[eqAgg,flatT,pY,gQuad.mk.injEq,Bool.decide_and,decide_eq_true_eq]
  try rfl
 simp only[bin,h,Option.map_some,bnot,eqD]
@[simp ↓] theorem sune_68 (xOp xDst xA xB xN yOp yDst yA yB yN:Int):bin T .neq 68 (.agg [.int .i64 xOp,.int .i64 xDst,.int .i64 xA,.int .i64 xB,.int .i64 xN]) (.agg [.int .i64 yOp,.int .i64 yDst,.int .i64 yA,.int .i64 yB,.int .i64 yN])=some (.bool (bnot (eqD (⟨xOp,xDst,xA,xB,xN⟩:gQuad) (⟨yOp,yDst,yA,yB,yN⟩:gQuad)))):=by
 have h:eqAgg T 68 [.int .i64 xOp,.int .i64 xDst,.int .i64 xA,.int .i64 xB,.int .i64 xN] [.int .i64 yOp,.int .i64 yDst,.int .i64 yA,.int .i64 yB,.int .i64 yN]=some (decide ((⟨xOp,xDst,xA,xB,xN⟩:gQuad)=(⟨yOp,yDst,yA,yB,yN⟩:gQuad))):=by
  simp[eqAgg,flatT,pY,gQuad.mk.injEq,Bool.decide_and,decide_eq_true_eq]
  try rfl
 simp only[bin,h,Option.map_some,bnot,eqD]
@[simp] theorem bineq_4 (a b:Bool):bin T .eql 4 (.bool a) (.bool b)=some (.bool (beqb a b)):=rfl
@[simp] theorem binne_4 (a b:Bool):bin T .neq 4 (.bool a) (.bool b)=some (.bool (bneb a b)):=rfl
@[simp] theorem conv_3_5 (k:IntKind)(n:Int):convA T 3 5 (.int k n)=some (.int .u8 (iconv .u8 n)):=rfl
@[simp] theorem conv_3_21 (k:IntKind)(n:Int):convA T 3 21 (.int k n)=some (.int .i32 (iconv .i32 n)):=rfl
@[simp] theorem conv_3_74 (k:IntKind)(n:Int):convA T 3 74 (.int k n)=some (.int .u16 (iconv .u16 n)):=rfl
@[simp] theorem conv_5_3 (k:IntKind)(n:Int):convA T 5 3 (.int k n)=some (.int .i64 (iconv .i64 n)):=rfl
@[simp] theorem conv_5_21 (k:IntKind)(n:Int):convA T 5 21 (.int k n)=some (.int .i32 (iconv .i32 n)):=rfl
@[simp] theorem conv_5_74 (k:IntKind)(n:Int):convA T 5 74 (.int k n)=some (.int .u16 (iconv .u16 n)):=rfl
@[simp] theorem conv_21_3 (k:IntKind)(n:Int):convA T 21 3 (.int k n)=some (.int .i64 (iconv .i64 n)):=rfl
@[simp] theorem conv_21_5 (k:IntKind)(n:Int):convA T 21 5 (.int k n)=some (.int .u8 (iconv .u8 n)):=rfl
@[simp] theorem conv_21_74 (k:IntKind)(n:Int):convA T 21 74 (.int k n)=some (.int .u16 (iconv .u16 n)):=rfl
@[simp] theorem conv_74_3 (k:IntKind)(n:Int):convA T 74 3 (.int k n)=some (.int .i64 (iconv .i64 n)):=rfl
@[simp] theorem conv_74_5 (k:IntKind)(n:Int):convA T 74 5 (.int k n)=some (.int .u8 (iconv .u8 n)):=rfl
@[simp] theorem conv_74_21 (k:IntKind)(n:Int):convA T 74 21 (.int k n)=some (.int .i32 (iconv .i32 n)):=rfl
@[simp] theorem len131 (l:List gStmt):lenA T 131 (.fsl (eL rStmt l))=some (.int .i64 (ilen l)):=jP (e:=157) rfl rStmt l
@[simp] theorem leno131 (o r:Nat)(l:List gStmt):lenA T 131 (.sl o r l.length)=some (.int .i64 (ilen l)):=vK (e:=157) rfl o r l
@[simp] theorem lenn131:lenA T 131 .nilsl=some (.int .i64 0):=rfl
@[simp] theorem lene131:lenA T 131 .esl=some (.int .i64 0):=rfl
@[simp] theorem src131 (J:AHeap)(l:List gStmt)(z:List AV)(k:TK):srcA ⟨8,112,z,k⟩ J (.fsl (eL rStmt l))=some (eL rStmt l):=jN (f:=rStmt) len_rStmt J l
@[simp] theorem srco131 {J:AHeap}{o:Nat}{l:List gStmt}(z:List AV)(k:TK)(h:J.objs o=some ⟨157,8,eL rStmt l⟩):srcA ⟨8,112,z,k⟩ J (.sl o 0 l.length)=some (eL rStmt l):=wP (ti:=⟨8,112,z,k⟩) lin_rStmt h
theorem ix131 {l:List gStmt}{i:Int}{v:gStmt}(h:idx l i=some v)(J:AHeap)(k:IntKind):zR T J 131 (.fsl (eL rStmt l)) (.int k i)=some (.fptr (rStmt v) 0):=vQ (e:=157) rfl rfl len_rStmt h J k
theorem mQ {l m r:List gStmt}(h:appx 112 l m=some r) ⦃J:AHeap⦄ ⦃o:Nat⦄ ⦃x:AV⦄ (id:Nat) (ho:J.objs o=some ⟨157,8,eL rStmt l⟩) (hx:srcA ⟨8,112,[.int .i64 0,.int .i64 0,.int .i64 0,.int .i64 0,.int .i64 0,.nilsl,.nilsl,.nilsl],.struct [(0,3),(1,3),(2,3),(3,155),(6,131),(7,131)]⟩ J x=some (eL rStmt m)):
  kA T 131 id (.sl o 0 l.length) x J=some (.sl id 0 r.length,(J.kill o).put id ⟨157,8,eL rStmt r⟩):=mI (e:=157) rfl rfl (by decide) h id ho hx
theorem cuth_131 {l r:List gStmt}{b:Int}(h:cutx l 0 b=some r)(J:AHeap) ⦃kb:IntKind⦄:cutA T J 131 (.fsl (eL rStmt l)) none (some (.int kb b))=some (.fsl (eL rStmt r)):=cutA_fsl (e:=157) rfl rfl len_rStmt rfl rfl h J
@[simp] theorem len22 (l:List Int):lenA T 22 (.fsl (eL rU8 l))=some (.int .i64 (ilen l)):=jP (e:=5) rfl rU8 l
@[simp] theorem leno22 (o r:Nat)(l:List Int):lenA T 22 (.sl o r l.length)=some (.int .i64 (ilen l)):=vK (e:=5) rfl o r l
@[simp] theorem lenn22:lenA T 22 .nilsl=some (.int .i64 0):=rfl
@[simp] theorem lene22:lenA T 22 .esl=some (.int .i64 0):=rfl
@[simp] theorem src22 (J:AHeap)(l:List Int)(z:List AV)(k:TK):srcA ⟨1,1,z,k⟩ J (.fsl (eL rU8 l))=some (eL rU8 l):=jN (f:=rU8) (fun _=>rfl) J l
@[simp] theorem srco22 {J:AHeap}{o:Nat}{l:List Int}(z:List AV)(k:TK)(h:J.objs o=some ⟨5,1,eL rU8 l⟩):srcA ⟨1,1,z,k⟩ J (.sl o 0 l.length)=some (eL rU8 l):=wP (ti:=⟨1,1,z,k⟩) (fun _=>rfl) h
theorem ix22 {l:List Int}{i:Int}{v:Int}(h:idx l i=some v)(J:AHeap)(k:IntKind):zR T J 22 (.fsl (eL rU8 l)) (.int k i)=some (.fptr (rU8 v) 0):=vQ (e:=5) rfl rfl (fun _=>rfl) h J k
theorem cuth_22 {l r:List Int}{b:Int}(h:cutx l 0 b=some r)(J:AHeap) ⦃kb:IntKind⦄:cutA T J 22 (.fsl (eL rU8 l)) none (some (.int kb b))=some (.fsl (eL rU8 r)):=cutA_fsl (e:=5) rfl rfl (fun _=>rfl) rfl rfl h J
@[simp] theorem len23 (l:List Int):lenA T 23 (.fsl (eL rI l))=some (.int .i64 (ilen l)):=jP (e:=3) rfl rI l
@[simp] theorem leno23 (o r:Nat)(l:List Int):lenA T 23 (.sl o r l.length)=some (.int .i64 (ilen l)):=vK (e:=3) rfl o r l
@[simp] theorem lenn23:lenA T 23 .nilsl=some (.int .i64 0):=rfl
@[simp] theorem lene23:lenA T 23 .esl=some (.int .i64 0):=rfl
@[simp] theorem src23 (J:AHeap)(l:List Int)(z:List AV)(k:TK):srcA ⟨1,8,z,k⟩ J (.fsl (eL rI l))=some (eL rI l):=jN (f:=rI) (fun _=>rfl) J l
@[simp] theorem srco23 {J:AHeap}{o:Nat}{l:List Int}(z:List AV)(k:TK)(h:J.objs o=some ⟨3,1,eL rI l⟩):srcA ⟨1,8,z,k⟩ J (.sl o 0 l.length)=some (eL rI l):=wP (ti:=⟨1,8,z,k⟩) (fun _=>rfl) h
theorem ix23 {l:List Int}{i:Int}{v:Int}(h:idx l i=some v)(J:AHeap)(k:IntKind):zR T J 23 (.fsl (eL rI l)) (.int k i)=some (.fptr (rI v) 0):=vQ (e:=3) rfl rfl (fun _=>rfl) h J k
theorem ixo23 {l:List Int}{i:Int}{v:Int}(h:idx l i=some v) ⦃J:AHeap⦄ ⦃o:Nat⦄ (hs:(J.objs o).map AObj.sz=some 1) (k:IntKind):zR T J 23 (.sl o 0 l.length) (.int k i)=some (.ptr o i.toNat 0):=dC (e:=3) rfl rfl h hs k
theorem app23 {l m r:List Int}(h:appx 8 l m=some r) ⦃J:AHeap⦄ ⦃o:Nat⦄ ⦃x:AV⦄ (id:Nat) (ho:J.objs o=some ⟨3,1,eL rI l⟩) (hx:srcA ⟨1,8,[.int .i64 0],.int .i64⟩ J x=some (eL rI m)):
  kA T 23 id (.sl o 0 l.length) x J=some (.sl id 0 r.length,(J.kill o).put id ⟨3,1,eL rI r⟩):=mI (e:=3) rfl rfl (by decide) h id ho hx
theorem appe23 {m r:List Int}(h:appx 8 [] m=some r) ⦃J:AHeap⦄ ⦃x:AV⦄ (id:Nat) (hx:srcA ⟨1,8,[.int .i64 0],.int .i64⟩ J x=some (eL rI m)):
  kA T 23 id .esl x J=some (.sl id 0 r.length,J.put id ⟨3,1,eL rI r⟩):=appA_esl (e:=3) rfl rfl (by decide) h id hx
theorem appf23 {m r:List Int}(h:appx 8 [] m=some r) ⦃J:AHeap⦄ ⦃s x:AV⦄ (hs:s.noRoom=true) (hx:srcA ⟨1,8,[.int .i64 0],.int .i64⟩ J x=some (eL rI m)):
  xD T 23 s x J=some (.fsl (eL rI r),J):=appF_nil (e:=3) (ti:=⟨1,8,[.int .i64 0],.int .i64⟩) rfl rfl (by decide) h hs hx
theorem mak23 {n:Int}{r:List Int}(h:makex 8 n (0:Int)=some r)(J:AHeap)(id:Nat)(k k':IntKind):makeA T 23 false id (.int k n) (.int k' n) J=some (.sl id 0 r.length,J.put id ⟨3,1,eL rI r⟩):=makA_sl (e:=3) (ti:=⟨1,8,[.int .i64 0],.int .i64⟩) rfl rfl (by decide) (z:=(0:Int)) rfl h J id k k'
theorem makf23 {n:Int}{r:List Int}(h:makex 8 n (0:Int)=some r)(J:AHeap)(id:Nat)(k k':IntKind):makeA T 23 true id (.int k n) (.int k' n) J=some (.fsl (eL rI r),J):=makA_fsl (e:=3) (ti:=⟨1,8,[.int .i64 0],.int .i64⟩) rfl rfl (by decide) (z:=(0:Int)) rfl h J id k k'
theorem cuth_23 {l r:List Int}{b:Int}(h:cutx l 0 b=some r)(J:AHeap) ⦃kb:IntKind⦄:cutA T J 23 (.fsl (eL rI l)) none (some (.int kb b))=some (.fsl (eL rI r)):=cutA_fsl (e:=3) rfl rfl (fun _=>rfl) rfl rfl h J
@[simp] theorem len24 (l:List (List gQuad)):lenA T 24 (.fsl (eL zA l))=some (.int .i64 (ilen l)):=jP (e:=34) rfl zA l
@[simp] theorem leno24 (o r:Nat)(l:List (List gQuad)):lenA T 24 (.sl o r l.length)=some (.int .i64 (ilen l)):=vK (e:=34) rfl o r l
@[simp] theorem lenn24:lenA T 24 .nilsl=some (.int .i64 0):=rfl
@[simp] theorem lene24:lenA T 24 .esl=some (.int .i64 0):=rfl
@[simp] theorem src24 (J:AHeap)(l:List (List gQuad))(z:List AV)(k:TK):srcA ⟨1,24,z,k⟩ J (.fsl (eL zA l))=some (eL zA l):=jN (f:=zA) (fun _=>rfl) J l
@[simp] theorem srco24 {J:AHeap}{o:Nat}{l:List (List gQuad)}(z:List AV)(k:TK)(h:J.objs o=some ⟨34,1,eL zA l⟩):srcA ⟨1,24,z,k⟩ J (.sl o 0 l.length)=some (eL zA l):=wP (ti:=⟨1,24,z,k⟩) (fun _=>rfl) h
theorem ix24 {l:List (List gQuad)}{i:Int}{v:List gQuad}(h:idx l i=some v)(J:AHeap)(k:IntKind):zR T J 24 (.fsl (eL zA l)) (.int k i)=some (.fptr (zA v) 0):=vQ (e:=34) rfl rfl (fun _=>rfl) h J k
theorem app24 {l m r:List (List gQuad)}(h:appx 24 l m=some r) ⦃J:AHeap⦄ ⦃o:Nat⦄ ⦃x:AV⦄ (id:Nat) (ho:J.objs o=some ⟨34,1,eL zA l⟩) (hx:srcA ⟨1,24,[.nilsl],.slice 68⟩ J x=some (eL zA m)):
  kA T 24 id (.sl o 0 l.length) x J=some (.sl id 0 r.length,(J.kill o).put id ⟨34,1,eL zA r⟩):=mI (e:=34) rfl rfl (by decide) h id ho hx
@[simp] theorem len153 (l:List gExpr):lenA T 153 (.fsl (eL rExpr l))=some (.int .i64 (ilen l)):=jP (e:=155) rfl rExpr l
@[simp] theorem leno153 (o r:Nat)(l:List gExpr):lenA T 153 (.sl o r l.length)=some (.int .i64 (ilen l)):=vK (e:=155) rfl o r l
@[simp] theorem lenn153:lenA T 153 .nilsl=some (.int .i64 0):=rfl
@[simp] theorem lene153:lenA T 153 .esl=some (.int .i64 0):=rfl
@[simp] theorem src153 (J:AHeap)(l:List gExpr)(z:List AV)(k:TK):srcA ⟨3,40,z,k⟩ J (.fsl (eL rExpr l))=some (eL rExpr l):=jN (f:=rExpr) len_rExpr J l
@[simp] theorem srco153 {J:AHeap}{o:Nat}{l:List gExpr}(z:List AV)(k:TK)(h:J.objs o=some ⟨155,3,eL rExpr l⟩):srcA ⟨3,40,z,k⟩ J (.sl o 0 l.length)=some (eL rExpr l):=wP (ti:=⟨3,40,z,k⟩) lin_rExpr h
theorem ix153 {l:List gExpr}{i:Int}{v:gExpr}(h:idx l i=some v)(J:AHeap)(k:IntKind):zR T J 153 (.fsl (eL rExpr l)) (.int k i)=some (.fptr (rExpr v) 0):=vQ (e:=155) rfl rfl len_rExpr h J k
@[simp] theorem len27 (l:List gThread):lenA T 27 (.fsl (eL zF l))=some (.int .i64 (ilen l)):=jP (e:=42) rfl zF l
@[simp] theorem leno27 (o r:Nat)(l:List gThread):lenA T 27 (.sl o r l.length)=some (.int .i64 (ilen l)):=vK (e:=42) rfl o r l
@[simp] theorem lenn27:lenA T 27 .nilsl=some (.int .i64 0):=rfl
@[simp] theorem lene27:lenA T 27 .esl=some (.int .i64 0):=rfl
@[simp] theorem src27 (J:AHeap)(l:List gThread)(z:List AV)(k:TK):srcA ⟨2,32,z,k⟩ J (.fsl (eL zF l))=some (eL zF l):=jN (f:=zF) (fun _=>rfl) J l
@[simp] theorem srco27 {J:AHeap}{o:Nat}{l:List gThread}(z:List AV)(k:TK)(h:J.objs o=some ⟨42,2,eL zF l⟩):srcA ⟨2,32,z,k⟩ J (.sl o 0 l.length)=some (eL zF l):=wP (ti:=⟨2,32,z,k⟩) (fun _=>rfl) h
theorem ix27 {l:List gThread}{i:Int}{v:gThread}(h:idx l i=some v)(J:AHeap)(k:IntKind):zR T J 27 (.fsl (eL zF l)) (.int k i)=some (.fptr (zF v) 0):=vQ (e:=42) rfl rfl (fun _=>rfl) h J k
theorem ixo27 {l:List gThread}{i:Int}{v:gThread}(h:idx l i=some v) ⦃J:AHeap⦄ ⦃o:Nat⦄ (hs:(J.objs o).map AObj.sz=some 2) (k:IntKind):zR T J 27 (.sl o 0 l.length) (.int k i)=some (.ptr o i.toNat 0):=dC (e:=42) rfl rfl h hs k
theorem app27 {l m r:List gThread}(h:appx 32 l m=some r) ⦃J:AHeap⦄ ⦃o:Nat⦄ ⦃x:AV⦄ (id:Nat) (ho:J.objs o=some ⟨42,2,eL zF l⟩) (hx:srcA ⟨2,32,[.nilsl,.int .i64 0],.struct [(0,23),(1,3)]⟩ J x=some (eL zF m)):
  kA T 27 id (.sl o 0 l.length) x J=some (.sl id 0 r.length,(J.kill o).put id ⟨42,2,eL zF r⟩):=mI (e:=42) rfl rfl (by decide) h id ho hx
@[simp] theorem len28 (l:List gBox):lenA T 28 (.fsl (eL rBox l))=some (.int .i64 (ilen l)):=jP (e:=99) rfl rBox l
@[simp] theorem leno28 (o r:Nat)(l:List gBox):lenA T 28 (.sl o r l.length)=some (.int .i64 (ilen l)):=vK (e:=99) rfl o r l
@[simp] theorem lenn28:lenA T 28 .nilsl=some (.int .i64 0):=rfl
@[simp] theorem lene28:lenA T 28 .esl=some (.int .i64 0):=rfl
@[simp] theorem src28 (J:AHeap)(l:List gBox)(z:List AV)(k:TK):srcA ⟨2,32,z,k⟩ J (.fsl (eL rBox l))=some (eL rBox l):=jN (f:=rBox) (fun _=>rfl) J l
@[simp] theorem srco28 {J:AHeap}{o:Nat}{l:List gBox}(z:List AV)(k:TK)(h:J.objs o=some ⟨99,2,eL rBox l⟩):srcA ⟨2,32,z,k⟩ J (.sl o 0 l.length)=some (eL rBox l):=wP (ti:=⟨2,32,z,k⟩) (fun _=>rfl) h
theorem ix28 {l:List gBox}{i:Int}{v:gBox}(h:idx l i=some v)(J:AHeap)(k:IntKind):zR T J 28 (.fsl (eL rBox l)) (.int k i)=some (.fptr (rBox v) 0):=vQ (e:=99) rfl rfl (fun _=>rfl) h J k
theorem ixo28 {l:List gBox}{i:Int}{v:gBox}(h:idx l i=some v) ⦃J:AHeap⦄ ⦃o:Nat⦄ (hs:(J.objs o).map AObj.sz=some 2) (k:IntKind):zR T J 28 (.sl o 0 l.length) (.int k i)=some (.ptr o i.toNat 0):=dC (e:=99) rfl rfl h hs k
theorem app28 {l m r:List gBox}(h:appx 32 l m=some r) ⦃J:AHeap⦄ ⦃o:Nat⦄ ⦃x:AV⦄ (id:Nat) (ho:J.objs o=some ⟨99,2,eL rBox l⟩) (hx:srcA ⟨2,32,[.int .i64 0,.nilsl],.struct [(0,3),(1,23)]⟩ J x=some (eL rBox m)):
  kA T 28 id (.sl o 0 l.length) x J=some (.sl id 0 r.length,(J.kill o).put id ⟨99,2,eL rBox r⟩):=mI (e:=99) rfl rfl (by decide) h id ho hx
@[simp] theorem len34 (l:List gQuad):lenA T 34 (.fsl (eL rQuad l))=some (.int .i64 (ilen l)):=jP (e:=68) rfl rQuad l
@[simp] theorem leno34 (o r:Nat)(l:List gQuad):lenA T 34 (.sl o r l.length)=some (.int .i64 (ilen l)):=vK (e:=68) rfl o r l
@[simp] theorem lenn34:lenA T 34 .nilsl=some (.int .i64 0):=rfl
@[simp] theorem lene34:lenA T 34 .esl=some (.int .i64 0):=rfl
@[simp] theorem src34 (J:AHeap)(l:List gQuad)(z:List AV)(k:TK):srcA ⟨5,40,z,k⟩ J (.fsl (eL rQuad l))=some (eL rQuad l):=jN (f:=rQuad) (fun _=>rfl) J l
@[simp] theorem srco34 {J:AHeap}{o:Nat}{l:List gQuad}(z:List AV)(k:TK)(h:J.objs o=some ⟨68,5,eL rQuad l⟩):srcA ⟨5,40,z,k⟩ J (.sl o 0 l.length)=some (eL rQuad l):=wP (ti:=⟨5,40,z,k⟩) (fun _=>rfl) h
theorem ix34 {l:List gQuad}{i:Int}{v:gQuad}(h:idx l i=some v)(J:AHeap)(k:IntKind):zR T J 34 (.fsl (eL rQuad l)) (.int k i)=some (.fptr (rQuad v) 0):=vQ (e:=68) rfl rfl (fun _=>rfl) h J k
theorem ixo34 {l:List gQuad}{i:Int}{v:gQuad}(h:idx l i=some v) ⦃J:AHeap⦄ ⦃o:Nat⦄ (hs:(J.objs o).map AObj.sz=some 5) (k:IntKind):zR T J 34 (.sl o 0 l.length) (.int k i)=some (.ptr o i.toNat 0):=dC (e:=68) rfl rfl h hs k
theorem app34 {l m r:List gQuad}(h:appx 40 l m=some r) ⦃J:AHeap⦄ ⦃o:Nat⦄ ⦃x:AV⦄ (id:Nat) (ho:J.objs o=some ⟨68,5,eL rQuad l⟩) (hx:srcA ⟨5,40,[.int .i64 0,.int .i64 0,.int .i64 0,.int .i64 0,.int .i64 0],.struct [(0,3),(1,3),(2,3),(3,3),(4,3)]⟩ J x=some (eL rQuad m)):
  kA T 34 id (.sl o 0 l.length) x J=some (.sl id 0 r.length,(J.kill o).put id ⟨68,5,eL rQuad r⟩):=mI (e:=68) rfl rfl (by decide) h id ho hx
theorem appe34 {m r:List gQuad}(h:appx 40 [] m=some r) ⦃J:AHeap⦄ ⦃x:AV⦄ (id:Nat) (hx:srcA ⟨5,40,[.int .i64 0,.int .i64 0,.int .i64 0,.int .i64 0,.int .i64 0],.struct [(0,3),(1,3),(2,3),(3,3),(4,3)]⟩ J x=some (eL rQuad m)):
  kA T 34 id .esl x J=some (.sl id 0 r.length,J.put id ⟨68,5,eL rQuad r⟩):=appA_esl (e:=68) rfl rfl (by decide) h id hx
theorem appf34 {m r:List gQuad}(h:appx 40 [] m=some r) ⦃J:AHeap⦄ ⦃s x:AV⦄ (hs:s.noRoom=true) (hx:srcA ⟨5,40,[.int .i64 0,.int .i64 0,.int .i64 0,.int .i64 0,.int .i64 0],.struct [(0,3),(1,3),(2,3),(3,3),(4,3)]⟩ J x=some (eL rQuad m)):
  xD T 34 s x J=some (.fsl (eL rQuad r),J):=appF_nil (e:=68) (ti:=⟨5,40,[.int .i64 0,.int .i64 0,.int .i64 0,.int .i64 0,.int .i64 0],.struct [(0,3),(1,3),(2,3),(3,3),(4,3)]⟩) rfl rfl (by decide) h hs hx
@[simp] theorem len38 (l:List Bool):lenA T 38 (.fsl (eL rB l))=some (.int .i64 (ilen l)):=jP (e:=4) rfl rB l
@[simp] theorem leno38 (o r:Nat)(l:List Bool):lenA T 38 (.sl o r l.length)=some (.int .i64 (ilen l)):=vK (e:=4) rfl o r l
@[simp] theorem lenn38:lenA T 38 .nilsl=some (.int .i64 0):=rfl
@[simp] theorem lene38:lenA T 38 .esl=some (.int .i64 0):=rfl
@[simp] theorem src38 (J:AHeap)(l:List Bool)(z:List AV)(k:TK):srcA ⟨1,1,z,k⟩ J (.fsl (eL rB l))=some (eL rB l):=jN (f:=rB) (fun _=>rfl) J l
@[simp] theorem srco38 {J:AHeap}{o:Nat}{l:List Bool}(z:List AV)(k:TK)(h:J.objs o=some ⟨4,1,eL rB l⟩):srcA ⟨1,1,z,k⟩ J (.sl o 0 l.length)=some (eL rB l):=wP (ti:=⟨1,1,z,k⟩) (fun _=>rfl) h
theorem ix38 {l:List Bool}{i:Int}{v:Bool}(h:idx l i=some v)(J:AHeap)(k:IntKind):zR T J 38 (.fsl (eL rB l)) (.int k i)=some (.fptr (rB v) 0):=vQ (e:=4) rfl rfl (fun _=>rfl) h J k
theorem ixo38 {l:List Bool}{i:Int}{v:Bool}(h:idx l i=some v) ⦃J:AHeap⦄ ⦃o:Nat⦄ (hs:(J.objs o).map AObj.sz=some 1) (k:IntKind):zR T J 38 (.sl o 0 l.length) (.int k i)=some (.ptr o i.toNat 0):=dC (e:=4) rfl rfl h hs k
theorem app38 {l m r:List Bool}(h:appx 1 l m=some r) ⦃J:AHeap⦄ ⦃o:Nat⦄ ⦃x:AV⦄ (id:Nat) (ho:J.objs o=some ⟨4,1,eL rB l⟩) (hx:srcA ⟨1,1,[.bool false],.bool⟩ J x=some (eL rB m)):
  kA T 38 id (.sl o 0 l.length) x J=some (.sl id 0 r.length,(J.kill o).put id ⟨4,1,eL rB r⟩):=mI (e:=4) rfl rfl (by decide) h id ho hx
theorem appe38 {m r:List Bool}(h:appx 1 [] m=some r) ⦃J:AHeap⦄ ⦃x:AV⦄ (id:Nat) (hx:srcA ⟨1,1,[.bool false],.bool⟩ J x=some (eL rB m)):
  kA T 38 id .esl x J=some (.sl id 0 r.length,J.put id ⟨4,1,eL rB r⟩):=appA_esl (e:=4) rfl rfl (by decide) h id hx
theorem mak38 {n:Int}{r:List Bool}(h:makex 1 n (false:Bool)=some r)(J:AHeap)(id:Nat)(k k':IntKind):makeA T 38 false id (.int k n) (.int k' n) J=some (.sl id 0 r.length,J.put id ⟨4,1,eL rB r⟩):=makA_sl (e:=4) (ti:=⟨1,1,[.bool false],.bool⟩) rfl rfl (by decide) (z:=(false:Bool)) rfl h J id k k'
@[simp] theorem len39 (l:List (List Bool)):lenA T 39 (.fsl (eL rL_B l))=some (.int .i64 (ilen l)):=jP (e:=38) rfl rL_B l
@[simp] theorem leno39 (o r:Nat)(l:List (List Bool)):lenA T 39 (.sl o r l.length)=some (.int .i64 (ilen l)):=vK (e:=38) rfl o r l
@[simp] theorem lenn39:lenA T 39 .nilsl=some (.int .i64 0):=rfl
@[simp] theorem lene39:lenA T 39 .esl=some (.int .i64 0):=rfl
@[simp] theorem src39 (J:AHeap)(l:List (List Bool))(z:List AV)(k:TK):srcA ⟨1,24,z,k⟩ J (.fsl (eL rL_B l))=some (eL rL_B l):=jN (f:=rL_B) (fun _=>rfl) J l
@[simp] theorem srco39 {J:AHeap}{o:Nat}{l:List (List Bool)}(z:List AV)(k:TK)(h:J.objs o=some ⟨38,1,eL rL_B l⟩):srcA ⟨1,24,z,k⟩ J (.sl o 0 l.length)=some (eL rL_B l):=wP (ti:=⟨1,24,z,k⟩) (fun _=>rfl) h
theorem ix39 {l:List (List Bool)}{i:Int}{v:List Bool}(h:idx l i=some v)(J:AHeap)(k:IntKind):zR T J 39 (.fsl (eL rL_B l)) (.int k i)=some (.fptr (rL_B v) 0):=vQ (e:=38) rfl rfl (fun _=>rfl) h J k
theorem ixo39 {l:List (List Bool)}{i:Int}{v:List Bool}(h:idx l i=some v) ⦃J:AHeap⦄ ⦃o:Nat⦄ (hs:(J.objs o).map AObj.sz=some 1) (k:IntKind):zR T J 39 (.sl o 0 l.length) (.int k i)=some (.ptr o i.toNat 0):=dC (e:=38) rfl rfl h hs k
theorem app39 {l m r:List (List Bool)}(h:appx 24 l m=some r) ⦃J:AHeap⦄ ⦃o:Nat⦄ ⦃x:AV⦄ (id:Nat) (ho:J.objs o=some ⟨38,1,eL rL_B l⟩) (hx:srcA ⟨1,24,[.nilsl],.slice 4⟩ J x=some (eL rL_B m)):
  kA T 39 id (.sl o 0 l.length) x J=some (.sl id 0 r.length,(J.kill o).put id ⟨38,1,eL rL_B r⟩):=mI (e:=38) rfl rfl (by decide) h id ho hx
@[simp] theorem len44 (l:List gFact):lenA T 44 (.fsl (eL rFact l))=some (.int .i64 (ilen l)):=jP (e:=49) rfl rFact l
@[simp] theorem leno44 (o r:Nat)(l:List gFact):lenA T 44 (.sl o r l.length)=some (.int .i64 (ilen l)):=vK (e:=49) rfl o r l
@[simp] theorem lenn44:lenA T 44 .nilsl=some (.int .i64 0):=rfl
@[simp] theorem lene44:lenA T 44 .esl=some (.int .i64 0):=rfl
@[simp] theorem src44 (J:AHeap)(l:List gFact)(z:List AV)(k:TK):srcA ⟨2,16,z,k⟩ J (.fsl (eL rFact l))=some (eL rFact l):=jN (f:=rFact) (fun _=>rfl) J l
@[simp] theorem srco44 {J:AHeap}{o:Nat}{l:List gFact}(z:List AV)(k:TK)(h:J.objs o=some ⟨49,2,eL rFact l⟩):srcA ⟨2,16,z,k⟩ J (.sl o 0 l.length)=some (eL rFact l):=wP (ti:=⟨2,16,z,k⟩) (fun _=>rfl) h
theorem ix44 {l:List gFact}{i:Int}{v:gFact}(h:idx l i=some v)(J:AHeap)(k:IntKind):zR T J 44 (.fsl (eL rFact l)) (.int k i)=some (.fptr (rFact v) 0):=vQ (e:=49) rfl rfl (fun _=>rfl) h J k
theorem ixo44 {l:List gFact}{i:Int}{v:gFact}(h:idx l i=some v) ⦃J:AHeap⦄ ⦃o:Nat⦄ (hs:(J.objs o).map AObj.sz=some 2) (k:IntKind):zR T J 44 (.sl o 0 l.length) (.int k i)=some (.ptr o i.toNat 0):=dC (e:=49) rfl rfl h hs k
theorem appe44 {m r:List gFact}(h:appx 16 [] m=some r) ⦃J:AHeap⦄ ⦃x:AV⦄ (id:Nat) (hx:srcA ⟨2,16,[.int .i64 0,.int .i64 0],.struct [(0,3),(1,3)]⟩ J x=some (eL rFact m)):
  kA T 44 id .esl x J=some (.sl id 0 r.length,J.put id ⟨49,2,eL rFact r⟩):=appA_esl (e:=49) rfl rfl (by decide) h id hx
theorem mak44 {n:Int}{r:List gFact}(h:makex 16 n (⟨0,0⟩:gFact)=some r)(J:AHeap)(id:Nat)(k k':IntKind):makeA T 44 false id (.int k n) (.int k' n) J=some (.sl id 0 r.length,J.put id ⟨49,2,eL rFact r⟩):=makA_sl (e:=49) (ti:=⟨2,16,[.int .i64 0,.int .i64 0],.struct [(0,3),(1,3)]⟩) rfl rfl (by decide) (z:=(⟨0,0⟩:gFact)) rfl h J id k k'
@[simp] theorem len45 (l:List (List gFact)):lenA T 45 (.fsl (eL kW l))=some (.int .i64 (ilen l)):=jP (e:=44) rfl kW l
@[simp] theorem leno45 (o r:Nat)(l:List (List gFact)):lenA T 45 (.sl o r l.length)=some (.int .i64 (ilen l)):=vK (e:=44) rfl o r l
@[simp] theorem lenn45:lenA T 45 .nilsl=some (.int .i64 0):=rfl
@[simp] theorem lene45:lenA T 45 .esl=some (.int .i64 0):=rfl
@[simp] theorem src45 (J:AHeap)(l:List (List gFact))(z:List AV)(k:TK):srcA ⟨1,24,z,k⟩ J (.fsl (eL kW l))=some (eL kW l):=jN (f:=kW) (fun _=>rfl) J l
@[simp] theorem srco45 {J:AHeap}{o:Nat}{l:List (List gFact)}(z:List AV)(k:TK)(h:J.objs o=some ⟨44,1,eL kW l⟩):srcA ⟨1,24,z,k⟩ J (.sl o 0 l.length)=some (eL kW l):=wP (ti:=⟨1,24,z,k⟩) (fun _=>rfl) h
theorem ix45 {l:List (List gFact)}{i:Int}{v:List gFact}(h:idx l i=some v)(J:AHeap)(k:IntKind):zR T J 45 (.fsl (eL kW l)) (.int k i)=some (.fptr (kW v) 0):=vQ (e:=44) rfl rfl (fun _=>rfl) h J k
theorem ixo45 {l:List (List gFact)}{i:Int}{v:List gFact}(h:idx l i=some v) ⦃J:AHeap⦄ ⦃o:Nat⦄ (hs:(J.objs o).map AObj.sz=some 1) (k:IntKind):zR T J 45 (.sl o 0 l.length) (.int k i)=some (.ptr o i.toNat 0):=dC (e:=44) rfl rfl h hs k
@[simp] theorem len50 (l:List (List Int)):lenA T 50 (.fsl (eL rL_I l))=some (.int .i64 (ilen l)):=jP (e:=23) rfl rL_I l
@[simp] theorem leno50 (o r:Nat)(l:List (List Int)):lenA T 50 (.sl o r l.length)=some (.int .i64 (ilen l)):=vK (e:=23) rfl o r l
@[simp] theorem lenn50:lenA T 50 .nilsl=some (.int .i64 0):=rfl
@[simp] theorem lene50:lenA T 50 .esl=some (.int .i64 0):=rfl
@[simp] theorem src50 (J:AHeap)(l:List (List Int))(z:List AV)(k:TK):srcA ⟨1,24,z,k⟩ J (.fsl (eL rL_I l))=some (eL rL_I l):=jN (f:=rL_I) (fun _=>rfl) J l
@[simp] theorem srco50 {J:AHeap}{o:Nat}{l:List (List Int)}(z:List AV)(k:TK)(h:J.objs o=some ⟨23,1,eL rL_I l⟩):srcA ⟨1,24,z,k⟩ J (.sl o 0 l.length)=some (eL rL_I l):=wP (ti:=⟨1,24,z,k⟩) (fun _=>rfl) h
theorem ix50 {l:List (List Int)}{i:Int}{v:List Int}(h:idx l i=some v)(J:AHeap)(k:IntKind):zR T J 50 (.fsl (eL rL_I l)) (.int k i)=some (.fptr (rL_I v) 0):=vQ (e:=23) rfl rfl (fun _=>rfl) h J k
theorem ixo50 {l:List (List Int)}{i:Int}{v:List Int}(h:idx l i=some v) ⦃J:AHeap⦄ ⦃o:Nat⦄ (hs:(J.objs o).map AObj.sz=some 1) (k:IntKind):zR T J 50 (.sl o 0 l.length) (.int k i)=some (.ptr o i.toNat 0):=dC (e:=23) rfl rfl h hs k
theorem app50 {l m r:List (List Int)}(h:appx 24 l m=some r) ⦃J:AHeap⦄ ⦃o:Nat⦄ ⦃x:AV⦄ (id:Nat) (ho:J.objs o=some ⟨23,1,eL rL_I l⟩) (hx:srcA ⟨1,24,[.nilsl],.slice 3⟩ J x=some (eL rL_I m)):
  kA T 50 id (.sl o 0 l.length) x J=some (.sl id 0 r.length,(J.kill o).put id ⟨23,1,eL rL_I r⟩):=mI (e:=23) rfl rfl (by decide) h id ho hx
@[simp] theorem len71 (l:List Int):lenA T 71 (.fsl (eL kV l))=some (.int .i64 (ilen l)):=jP (e:=74) rfl kV l
@[simp] theorem leno71 (o r:Nat)(l:List Int):lenA T 71 (.sl o r l.length)=some (.int .i64 (ilen l)):=vK (e:=74) rfl o r l
@[simp] theorem lenn71:lenA T 71 .nilsl=some (.int .i64 0):=rfl
@[simp] theorem lene71:lenA T 71 .esl=some (.int .i64 0):=rfl
@[simp] theorem src71 (J:AHeap)(l:List Int)(z:List AV)(k:TK):srcA ⟨1,2,z,k⟩ J (.fsl (eL kV l))=some (eL kV l):=jN (f:=kV) (fun _=>rfl) J l
@[simp] theorem srco71 {J:AHeap}{o:Nat}{l:List Int}(z:List AV)(k:TK)(h:J.objs o=some ⟨74,1,eL kV l⟩):srcA ⟨1,2,z,k⟩ J (.sl o 0 l.length)=some (eL kV l):=wP (ti:=⟨1,2,z,k⟩) (fun _=>rfl) h
theorem ix71 {l:List Int}{i:Int}{v:Int}(h:idx l i=some v)(J:AHeap)(k:IntKind):zR T J 71 (.fsl (eL kV l)) (.int k i)=some (.fptr (kV v) 0):=vQ (e:=74) rfl rfl (fun _=>rfl) h J k
theorem ixo71 {l:List Int}{i:Int}{v:Int}(h:idx l i=some v) ⦃J:AHeap⦄ ⦃o:Nat⦄ (hs:(J.objs o).map AObj.sz=some 1) (k:IntKind):zR T J 71 (.sl o 0 l.length) (.int k i)=some (.ptr o i.toNat 0):=dC (e:=74) rfl rfl h hs k
theorem mak71 {n:Int}{r:List Int}(h:makex 2 n (0:Int)=some r)(J:AHeap)(id:Nat)(k k':IntKind):makeA T 71 false id (.int k n) (.int k' n) J=some (.sl id 0 r.length,J.put id ⟨74,1,eL kV r⟩):=makA_sl (e:=74) (ti:=⟨1,2,[.int .u16 0],.int .u16⟩) rfl rfl (by decide) (z:=(0:Int)) rfl h J id k k'
theorem cutoh_23 {l r:List Int}{b:Int}(h:cutx l 0 b=some r) ⦃J:AHeap⦄ ⦃o:Nat⦄ ⦃kb:IntKind⦄ (hs:(J.objs o).map AObj.sz=some 1):cutA T J 23 (.sl o 0 l.length) none (some (.int kb b))=some (.sl o 0 r.length):=cutA_sl (e:=3) rfl rfl rfl rfl h hs
theorem cutol_23 {l r:List Int}{a:Int}(h:cutx l a (ilen l)=some r) ⦃J:AHeap⦄ ⦃o:Nat⦄ ⦃ka:IntKind⦄ (hs:(J.objs o).map AObj.sz=some 1):cutA T J 23 (.sl o 0 l.length) (some (.int ka a)) none=some (.sl o a.toNat r.length):=cutA_sl (e:=3) rfl rfl rfl rfl h hs
theorem appv23 {l l' m r:List Int}{b:Int}(hc:cutx l 0 b=some l')(h:appx 8 l' m=some r) ⦃J:AHeap⦄ ⦃o:Nat⦄ ⦃x:AV⦄ (id:Nat) (ho:J.objs o=some ⟨3,1,eL rI l⟩) (hx:srcA ⟨1,8,[.int .i64 0],.int .i64⟩ J x=some (eL rI m)):
  kA T 23 id (.sl o 0 l'.length) x J=some (.sl id 0 r.length,(J.kill o).put id ⟨3,1,eL rI r⟩):=appA_slv (e:=3) (ti:=⟨1,8,[.int .i64 0],.int .i64⟩) rfl rfl (by decide) hc h id ho hx
theorem srcv23 {l r:List Int}{a b:Int}(hv:cutx l a b=some r) ⦃J:AHeap⦄ ⦃o:Nat⦄ (z:List AV) (k:TK) (h:J.objs o=some ⟨3,1,eL rI l⟩):srcA ⟨1,8,z,k⟩ J (.sl o a.toNat r.length)=some (eL rI r):=srcA_slv (ti:=⟨1,8,z,k⟩) (fun _=>rfl) hv h
theorem srcvn23 {l r:List Int}{a b:Int}(n:Nat)(hv:cutx l a b=some r)(hn:a.toNat=n) ⦃J:AHeap⦄ ⦃o:Nat⦄ (z:List AV) (k:TK) (h:J.objs o=some ⟨3,1,eL rI l⟩):srcA ⟨1,8,z,k⟩ J (.sl o n r.length)=some (eL rI r):=hn▸srcv23 hv z k h
theorem apr24 (f:(List gQuad)->List AV){l r:List (List gQuad)}{v:List gQuad}(h:appx 24 l [v]=some r) ⦃J:AHeap⦄ ⦃o:Nat⦄ (x0:AV) (id:Nat) (ho:J.objs o=some ⟨34,1,eL f l⟩):
  kA T 24 id (.sl o 0 l.length) (.fsl [[x0]]) J=some (.sl id 0 r.length,(J.kill o).put id ⟨34,1,eL f l++[[x0]]⟩):=aprA_sl (e:=34) (ti:=⟨1,24,[.nilsl],.slice 68⟩) rfl rfl (by decide) h id ho (fK rfl J)
theorem apr27 (f:gThread->List AV){l r:List gThread}{v:gThread}(h:appx 32 l [v]=some r) ⦃J:AHeap⦄ ⦃o:Nat⦄ (x0 x1:AV) (id:Nat) (ho:J.objs o=some ⟨42,2,eL f l⟩):
  kA T 27 id (.sl o 0 l.length) (.fsl [[x0,x1]]) J=some (.sl id 0 r.length,(J.kill o).put id ⟨42,2,eL f l++[[x0,x1]]⟩):=aprA_sl (e:=42) (ti:=⟨2,32,[.nilsl,.int .i64 0],.struct [(0,23),(1,3)]⟩) rfl rfl (by decide) h id ho (fK rfl J)
theorem apr28 (f:gBox->List AV){l r:List gBox}{v:gBox}(h:appx 32 l [v]=some r) ⦃J:AHeap⦄ ⦃o:Nat⦄ (x0 x1:AV) (id:Nat) (ho:J.objs o=some ⟨99,2,eL f l⟩):
  kA T 28 id (.sl o 0 l.length) (.fsl [[x0,x1]]) J=some (.sl id 0 r.length,(J.kill o).put id ⟨99,2,eL f l++[[x0,x1]]⟩):=aprA_sl (e:=99) (ti:=⟨2,32,[.int .i64 0,.nilsl],.struct [(0,3),(1,23)]⟩) rfl rfl (by decide) h id ho (fK rfl J)
theorem apr39 (f:(List Bool)->List AV){l r:List (List Bool)}{v:List Bool}(h:appx 24 l [v]=some r) ⦃J:AHeap⦄ ⦃o:Nat⦄ (x0:AV) (id:Nat) (ho:J.objs o=some ⟨38,1,eL f l⟩):
  kA T 39 id (.sl o 0 l.length) (.fsl [[x0]]) J=some (.sl id 0 r.length,(J.kill o).put id ⟨38,1,eL f l++[[x0]]⟩):=aprA_sl (e:=38) (ti:=⟨1,24,[.nilsl],.slice 4⟩) rfl rfl (by decide) h id ho (fK rfl J)
theorem apr45 (f:(List gFact)->List AV){l r:List (List gFact)}{v:List gFact}(h:appx 24 l [v]=some r) ⦃J:AHeap⦄ ⦃o:Nat⦄ (x0:AV) (id:Nat) (ho:J.objs o=some ⟨44,1,eL f l⟩):
  kA T 45 id (.sl o 0 l.length) (.fsl [[x0]]) J=some (.sl id 0 r.length,(J.kill o).put id ⟨44,1,eL f l++[[x0]]⟩):=aprA_sl (e:=44) (ti:=⟨1,24,[.nilsl],.slice 49⟩) rfl rfl (by decide) h id ho (fK rfl J)
theorem apr50 (f:(List Int)->List AV){l r:List (List Int)}{v:List Int}(h:appx 24 l [v]=some r) ⦃J:AHeap⦄ ⦃o:Nat⦄ (x0:AV) (id:Nat) (ho:J.objs o=some ⟨23,1,eL f l⟩):
  kA T 50 id (.sl o 0 l.length) (.fsl [[x0]]) J=some (.sl id 0 r.length,(J.kill o).put id ⟨23,1,eL f l++[[x0]]⟩):=aprA_sl (e:=23) (ti:=⟨1,24,[.nilsl],.slice 3⟩) rfl rfl (by decide) h id ho (fK rfl J)
theorem nf_rI (n:Nat)(x:Int):((rI x).all (AV.nf (n+1)))=true:=by simp[AV.nf,AV.simp1]
theorem nf_rB (n:Nat)(x:Bool):((rB x).all (AV.nf (n+1)))=true:=by simp[AV.nf,AV.simp1]
theorem nf_rFact (n:Nat)(x:gFact):((rFact x).all (AV.nf (n+1)))=true:=by simp[AV.nf,AV.simp1]
def kF (x:gBox):List AV:=[.int .i64 x.Room,.osl 3 1 (eL rI x.Items)]
@[simp] theorem rBox_o_eq (x:gBox):kF x=[.int .i64 x.Room,.osl 3 1 (eL rI x.Items)]:=rfl
@[simp] theorem thawm_rBox_o {D:Nat->Bool}{J:AHeap}{d:Nat}(l:List gBox):(eL kF l).map (fun e=>e.map (thawA D J (d+1)))=eL rBox l:=by
 simp only[eL,List.map_map]
 refine List.map_congr_left fun x _=>?_
 simp[thawA]
theorem sI (l:List gBox)(k:Nat)(xRoom:Int)(xItems:List Int):(eL kF l).set k [.int .i64 xRoom,.osl 3 1 (eL rI xItems)]=eL kF (l.set k (⟨xRoom,xItems⟩:gBox)):=zZ kF l k (⟨xRoom,xItems⟩:gBox)
@[simp] theorem len_rBox_o (x:gBox):(kF x).length=2:=rfl
def yU (x:List Bool):List AV:=[.osl 4 1 (eL rB x)]
@[simp] theorem rL_B_o_eq (x:List Bool):yU x=[.osl 4 1 (eL rB x)]:=rfl
@[simp] theorem thawm_rL_B_o {D:Nat->Bool}{J:AHeap}{d:Nat}(l:List (List Bool)):(eL yU l).map (fun e=>e.map (thawA D J (d+1)))=eL rL_B l:=by
 simp only[eL,List.map_map]
 refine List.map_congr_left fun x _=>?_
 simp[thawA]
@[simp] theorem len_rL_B_o (x:List Bool):(yU x).length=1:=rfl
def zP (x:List gFact):List AV:=[.osl 49 2 (eL rFact x)]
@[simp] theorem rL_Fact_o_eq (x:List gFact):zP x=[.osl 49 2 (eL rFact x)]:=rfl
@[simp] theorem thawm_rL_Fact_o {D:Nat->Bool}{J:AHeap}{d:Nat}(l:List (List gFact)):(eL zP l).map (fun e=>e.map (thawA D J (d+1)))=eL kW l:=by
 simp only[eL,List.map_map]
 refine List.map_congr_left fun x _=>?_
 simp[thawA]
@[simp] theorem len_rL_Fact_o (x:List gFact):(zP x).length=1:=rfl
def zX (x:List Int):List AV:=[.osl 3 1 (eL rI x)]
@[simp] theorem rL_I_o_eq (x:List Int):zX x=[.osl 3 1 (eL rI x)]:=rfl
@[simp] theorem thawm_rL_I_o {D:Nat->Bool}{J:AHeap}{d:Nat}(l:List (List Int)):(eL zX l).map (fun e=>e.map (thawA D J (d+1)))=eL rL_I l:=by
 simp only[eL,List.map_map]
 refine List.map_congr_left fun x _=>?_
 simp[thawA]
@[simp] theorem len_rL_I_o (x:List Int):(zX x).length=1:=rfl
def zY (x:gThread):List AV:=[.osl 3 1 (eL rI x.Regs),.int .i64 x.Pc]
@[simp] theorem rThread_o_eq (x:gThread):zY x=[.osl 3 1 (eL rI x.Regs),.int .i64 x.Pc]:=rfl
@[simp] theorem thawm_rThread_o {D:Nat->Bool}{J:AHeap}{d:Nat}(l:List gThread):(eL zY l).map (fun e=>e.map (thawA D J (d+1)))=eL zF l:=by
 simp only[eL,List.map_map]
 refine List.map_congr_left fun x _=>?_
 simp[thawA]
theorem kU (l:List gThread)(k:Nat)(xRegs:List Int)(xPc:Int):(eL zY l).set k [.osl 3 1 (eL rI xRegs),.int .i64 xPc]=eL zY (l.set k (⟨xRegs,xPc⟩:gThread)):=zZ zY l k (⟨xRegs,xPc⟩:gThread)
@[simp] theorem len_rThread_o (x:gThread):(zY x).length=2:=rfl
end Go.Proofs.YtnaikeccpnadgaaGreat
