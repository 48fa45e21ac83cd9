/- Words of the proof. -/
import Derived.Test.YtdnkfkfjaaedpaaGreatNUR0
import Derived.Test.YtdnkfkfjaaedpaaGreatProg
import Derived.KernelRfl
set_option linter.unusedSimpArgs false
set_option linter.unusedVariables false
set_option maxRecDepth 20000
namespace Go.Proofs.YtdnkfkfjaaedpaaGreat
open Go Go.Abs Go.RowKit

def T:Types:=fun t=>
 match t with
 |3=>some ⟨1,8,[.int .i64 0],.int .i64⟩
 |4=>some ⟨1,1,[.bool false],.bool⟩
 |5=>some ⟨1,1,[.int .u8 0],.int .u8⟩
 |21=>some ⟨1,4,[.int .i32 0],.int .i32⟩
 |22=>some ⟨1,24,[.nilsl],.slice 5⟩
 |23=>some ⟨1,24,[.nilsl],.slice 36⟩
 |24=>some ⟨1,24,[.nilsl],.slice 3⟩
 |26=>some ⟨2,32,[.nilsl,.int .i64 0],.struct [(0,24),(1,3)]⟩
 |27=>some ⟨1,24,[.nilsl],.slice 40⟩
 |36=>some ⟨5,40,[.int .i64 0,.int .i64 0,.int .i64 0,.int .i64 0,.int .i64 0],.struct [(0,3),(1,3),(2,3),(3,3),(4,3)]⟩
 |40=>some ⟨2,32,[.int .i64 0,.nilsl],.struct [(0,3),(1,24)]⟩
 |54=>some ⟨1,24,[.nilsl],.slice 23⟩
 |57=>some ⟨1,24,[.nilsl],.slice 26⟩
 |59=>some ⟨6,112,[.nilsl,.nilsl,.nilsl,.int .i64 0,.int .i64 0,.nilsl],.struct [(0,54),(1,57),(2,27),(3,3),(4,3),(5,24)]⟩
 |66=>some ⟨1,24,[.nilsl],.slice 4⟩
 |76=>some ⟨1,24,[.nilsl],.slice 66⟩
 |82=>some ⟨1,8,[.nilp],.ptr⟩
 |92=>some ⟨1,8,[.nilp],.ptr⟩
 |100=>some ⟨1,2,[.int .u16 0],.int .u16⟩
 |111=>some ⟨1,8,[.nilp],.ptr⟩
 |114=>some ⟨1,24,[.nilsl],.slice 100⟩
 |120=>some ⟨1,24,[.nilsl],.slice 24⟩
 |122=>some ⟨4,80,[.nilsl,.nilsl,.nilsl,.bool false],.struct [(0,24),(1,120),(2,66),(3,4)]⟩
 |127=>some ⟨2,32,[.nilsl,.int .i64 0],.struct [(0,22),(1,3)]⟩
 |129=>some ⟨1,8,[.nilp],.ptr⟩
 |143=>some ⟨1,24,[.nilsl],.slice 163⟩
 |147=>some ⟨1,8,[.nilp],.ptr⟩
 |159=>some ⟨1,24,[.nilsl],.slice 161⟩
 |161=>some ⟨3,40,[.int .i64 0,.int .i64 0,.nilsl],.struct [(0,3),(1,3),(2,159)]⟩
 |163=>some ⟨8,112,[.int .i64 0,.int .i64 0,.int .i64 0,.int .i64 0,.int .i64 0,.nilsl,.nilsl,.nilsl],.struct [(0,3),(1,3),(2,3),(3,161),(6,143),(7,143)]⟩
 |173=>some ⟨1,24,[.nilsl],.slice 176⟩
 |176=>some ⟨1,24,[.nilsl],.slice 189⟩
 |189=>some ⟨2,16,[.int .i64 0,.int .i64 0],.struct [(0,3),(1,3)]⟩
 |_=>none

@[simp] theorem T_3:T 3=some ⟨1,8,[.int .i64 0],.int .i64⟩:=rfl
@[simp] theorem T_4:T 4=some ⟨1,1,[.bool false],.bool⟩:=rfl
@[simp] theorem T_5:T 5=some ⟨1,1,[.int .u8 0],.int .u8⟩:=rfl
@[simp] theorem T_21:T 21=some ⟨1,4,[.int .i32 0],.int .i32⟩:=rfl
@[simp] theorem T_22:T 22=some ⟨1,24,[.nilsl],.slice 5⟩:=rfl
@[simp] theorem T_23:T 23=some ⟨1,24,[.nilsl],.slice 36⟩:=rfl
@[simp] theorem T_24:T 24=some ⟨1,24,[.nilsl],.slice 3⟩:=rfl
@[simp] theorem T_26:T 26=some ⟨2,32,[.nilsl,.int .i64 0],.struct [(0,24),(1,3)]⟩:=rfl
@[simp] theorem T_27:T 27=some ⟨1,24,[.nilsl],.slice 40⟩:=rfl
@[simp] theorem T_36:T 36=some ⟨5,40,[.int .i64 0,.int .i64 0,.int .i64 0,.int .i64 0,.int .i64 0],.struct [(0,3),(1,3),(2,3),(3,3),(4,3)]⟩:=rfl
@[simp] theorem T_40:T 40=some ⟨2,32,[.int .i64 0,.nilsl],.struct [(0,3),(1,24)]⟩:=rfl
@[simp] theorem T_54:T 54=some ⟨1,24,[.nilsl],.slice 23⟩:=rfl
@[simp] theorem T_57:T 57=some ⟨1,24,[.nilsl],.slice 26⟩:=rfl
@[simp] theorem T_59:T 59=some ⟨6,112,[.nilsl,.nilsl,.nilsl,.int .i64 0,.int .i64 0,.nilsl],.struct [(0,54),(1,57),(2,27),(3,3),(4,3),(5,24)]⟩:=rfl
@[simp] theorem T_66:T 66=some ⟨1,24,[.nilsl],.slice 4⟩:=rfl
@[simp] theorem T_76:T 76=some ⟨1,24,[.nilsl],.slice 66⟩:=rfl
@[simp] theorem T_82:T 82=some ⟨1,8,[.nilp],.ptr⟩:=rfl
@[simp] theorem T_92:T 92=some ⟨1,8,[.nilp],.ptr⟩:=rfl
@[simp] theorem T_100:T 100=some ⟨1,2,[.int .u16 0],.int .u16⟩:=rfl
@[simp] theorem T_111:T 111=some ⟨1,8,[.nilp],.ptr⟩:=rfl
@[simp] theorem T_114:T 114=some ⟨1,24,[.nilsl],.slice 100⟩:=rfl
@[simp] theorem T_120:T 120=some ⟨1,24,[.nilsl],.slice 24⟩:=rfl
@[simp] theorem T_122:T 122=some ⟨4,80,[.nilsl,.nilsl,.nilsl,.bool false],.struct [(0,24),(1,120),(2,66),(3,4)]⟩:=rfl
@[simp] theorem T_127:T 127=some ⟨2,32,[.nilsl,.int .i64 0],.struct [(0,22),(1,3)]⟩:=rfl
@[simp] theorem T_129:T 129=some ⟨1,8,[.nilp],.ptr⟩:=rfl
@[simp] theorem T_143:T 143=some ⟨1,24,[.nilsl],.slice 163⟩:=rfl
@[simp] theorem T_147:T 147=some ⟨1,8,[.nilp],.ptr⟩:=rfl
@[simp] theorem T_159:T 159=some ⟨1,24,[.nilsl],.slice 161⟩:=rfl
@[simp] theorem T_161:T 161=some ⟨3,40,[.int .i64 0,.int .i64 0,.nilsl],.struct [(0,3),(1,3),(2,159)]⟩:=rfl
@[simp] theorem T_163:T 163=some ⟨8,112,[.int .i64 0,.int .i64 0,.int .i64 0,.int .i64 0,.int .i64 0,.nilsl,.nilsl,.nilsl],.struct [(0,3),(1,3),(2,3),(3,161),(6,143),(7,143)]⟩:=rfl
@[simp] theorem T_173:T 173=some ⟨1,24,[.nilsl],.slice 176⟩:=rfl
@[simp] theorem T_176:T 176=some ⟨1,24,[.nilsl],.slice 189⟩:=rfl
@[simp] theorem T_189:T 189=some ⟨2,16,[.int .i64 0,.int .i64 0],.struct [(0,3),(1,3)]⟩:=rfl
theorem tok:TOk Tryz.prog T:=by
 intro t i h
 unfold T at h
 split at h<;>first|(cases h;done)|skip
 all_goals (cases h;refine⟨by kernel_rfl,by kernel_rfl,by kernel_rfl,by kernel_rfl,by kernel_rfl⟩)
theorem tokM:Tryz.prog.follows .mixedOrders=true:=by kernel_rfl
abbrev G:Globs:=fun _=>none
@[simp] theorem bin_ii (op:BinOp)(t:TypeId)(k:IntKind)(a b:Int):bin T op t (.int k a) (.int k b)=ibin op k a b:=by simp[bin]
@[simp] theorem bin_shl (t:TypeId)(k k':IntKind)(a b:Int):bin T .shl t (.int k a) (.int k' b)=ibin .shl k a b:=by simp[bin]
@[simp] theorem bin_shr (t:TypeId)(k k':IntKind)(a b:Int):bin T .shr t (.int k a) (.int k' b)=ibin .shr k a b:=by simp[bin]
@[simp ↓] theorem sueq_36 (xOp xDst xA xB xN yOp yDst yA yB yN:Int):bin T .eql 36 (.agg [.int .i64 xOp,.int .i64 xDst,.int .i64 xA,.int .i64 xB,.int .i64 xN]) (.agg [.int .i64 yOp,.int .i64 yDst,.int .i64 yA,.int .i64 yB,.int .i64 yN])=some (.bool (eqD (⟨xOp,xDst,xA,xB,xN⟩:gQuad) (⟨yOp,yDst,yA,yB,yN⟩:gQuad))):=by
 have h:eqAgg T 36 [.int .i64 xOp,.int .i64 xDst,.int .i64 xA,.int .i64 xB,.int .i64 xN] [.int .i64 yOp,.int .i64 yDst,.int .i64 yA,.int .i64 yB,.int .i64 yN]=some (decide ((⟨xOp,xDst,xA,xB,xN⟩:gQuad)=(⟨yOp,yDst,yA,yB,yN⟩:gQuad))):=by
  simp[eqAgg,flatT,sS,gQuad.mk.injEq,Bool.decide_and,decide_eq_true_eq]
  try rfl
 simp only[bin,h,Option.map_some,bnot,eqD]
@[simp ↓] theorem sune_36 (xOp xDst xA xB xN yOp yDst yA yB yN:Int):bin T .neq 36 (.agg [.int .i64 xOp,.int .i64 xDst,.int .i64 xA,.int .i64 xB,.int .i64 xN]) (.agg [.int .i64 yOp,.int .i64 yDst,.int .i64 yA,.int .i64 yB,.int .i64 yN])=some (.bool (bnot (eqD (⟨xOp,xDst,xA,xB,xN⟩:gQuad) (⟨yOp,yDst,yA,yB,yN⟩:gQuad)))):=by
 have h:eqAgg T 36 [.int .i64 xOp,.int .i64 xDst,.int .i64 xA,.int .i64 xB,.int .i64 xN] [.int .i64 yOp,.int .i64 yDst,.int .i64 yA,.int .i64 yB,.int .i64 yN]=some (decide ((⟨xOp,xDst,xA,xB,xN⟩:gQuad)=(⟨yOp,yDst,yA,yB,yN⟩:gQuad))):=by
  simp[eqAgg,flatT,sS,gQuad.mk.injEq,Bool.decide_and,decide_eq_true_eq]
  try rfl
 simp only[bin,h,Option.map_some,bnot,eqD]
@[simp ↓] theorem sueq_189 (xKind xN yKind yN:Int):bin T .eql 189 (.agg [.int .i64 xKind,.int .i64 xN]) (.agg [.int .i64 yKind,.int .i64 yN])=some (.bool (eqD (⟨xKind,xN⟩:gFact) (⟨yKind,yN⟩:gFact))):=by
 have h:eqAgg T 189 [.int .i64 xKind,.int .i64 xN] [.int .i64 yKind,.int .i64 yN]=some (decide ((⟨xKind,xN⟩:gFact)=(⟨yKind,yN⟩:gFact))):=by
  simp[eqAgg,flatT,sS,gFact.mk.injEq,Bool.decide_and,decide_eq_true_eq]
  try rfl
 simp only[bin,h,Option.map_some,bnot,eqD]
@[simp ↓] theorem sune_189 (xKind xN yKind yN:Int):bin T .neq 189 (.agg [.int .i64 xKind,.int .i64 xN]) (.agg [.int .i64 yKind,.int .i64 yN])=some (.bool (bnot (eqD (⟨xKind,xN⟩:gFact) (⟨yKind,yN⟩:gFact)))):=by
 have h:eqAgg T 189 [.int .i64 xKind,.int .i64 xN] [.int .i64 yKind,.int .i64 yN]=some (decide ((⟨xKind,xN⟩:gFact)=(⟨yKind,yN⟩:gFact))):=by
  simp[eqAgg,flatT,sS,gFact.mk.injEq,Bool.decide_and,decide_eq_true_eq]
  try rfl
 simp only[bin,h,Option.map_some,bnot,eqD]
@[simp] theorem bineq_4 (a b:Bool):bin T .eql 4 (.bool a) (.bool b)=some (.bool (beqb a b)):=rfl
@[simp] theorem binne_4 (a b:Bool):bin T .neq 4 (.bool a) (.bool b)=some (.bool (bneb a b)):=rfl
@[simp] theorem conv_3_5 (k:IntKind)(n:Int):convA T 3 5 (.int k n)=some (.int .u8 (iconv .u8 n)):=rfl
@[simp] theorem conv_3_21 (k:IntKind)(n:Int):convA T 3 21 (.int k n)=some (.int .i32 (iconv .i32 n)):=rfl
@[simp] theorem conv_3_100 (k:IntKind)(n:Int):convA T 3 100 (.int k n)=some (.int .u16 (iconv .u16 n)):=rfl
@[simp] theorem conv_5_3 (k:IntKind)(n:Int):convA T 5 3 (.int k n)=some (.int .i64 (iconv .i64 n)):=rfl
@[simp] theorem conv_5_21 (k:IntKind)(n:Int):convA T 5 21 (.int k n)=some (.int .i32 (iconv .i32 n)):=rfl
@[simp] theorem conv_5_100 (k:IntKind)(n:Int):convA T 5 100 (.int k n)=some (.int .u16 (iconv .u16 n)):=rfl
@[simp] theorem conv_21_3 (k:IntKind)(n:Int):convA T 21 3 (.int k n)=some (.int .i64 (iconv .i64 n)):=rfl
@[simp] theorem conv_21_5 (k:IntKind)(n:Int):convA T 21 5 (.int k n)=some (.int .u8 (iconv .u8 n)):=rfl
@[simp] theorem conv_21_100 (k:IntKind)(n:Int):convA T 21 100 (.int k n)=some (.int .u16 (iconv .u16 n)):=rfl
@[simp] theorem conv_100_3 (k:IntKind)(n:Int):convA T 100 3 (.int k n)=some (.int .i64 (iconv .i64 n)):=rfl
@[simp] theorem conv_100_5 (k:IntKind)(n:Int):convA T 100 5 (.int k n)=some (.int .u8 (iconv .u8 n)):=rfl
@[simp] theorem conv_100_21 (k:IntKind)(n:Int):convA T 100 21 (.int k n)=some (.int .i32 (iconv .i32 n)):=rfl
@[simp] theorem len143 (l:List gStmt):lenA T 143 (.fsl (eL rStmt l))=some (.int .i64 (ilen l)):=yY (e:=163) rfl rStmt l
@[simp] theorem leno143 (o r:Nat)(l:List gStmt):lenA T 143 (.sl o r l.length)=some (.int .i64 (ilen l)):=wE (e:=163) rfl o r l
@[simp] theorem lenn143:lenA T 143 .nilsl=some (.int .i64 0):=rfl
@[simp] theorem lene143:lenA T 143 .esl=some (.int .i64 0):=rfl
@[simp] theorem src143 (σ:AHeap)(l:List gStmt)(z:List AV)(k:TK):srcA ⟨8,112,z,k⟩ σ (.fsl (eL rStmt l))=some (eL rStmt l):=yW (f:=rStmt) len_rStmt σ l
@[simp] theorem srco143 {σ:AHeap}{o:Nat}{l:List gStmt}(z:List AV)(k:TK)(h:σ.objs o=some ⟨163,8,eL rStmt l⟩):srcA ⟨8,112,z,k⟩ σ (.sl o 0 l.length)=some (eL rStmt l):=xI (ti:=⟨8,112,z,k⟩) lin_rStmt h
theorem ix143 {l:List gStmt}{i:Int}{v:gStmt}(h:idx l i=some v)(σ:AHeap)(k:IntKind):zR T σ 143 (.fsl (eL rStmt l)) (.int k i)=some (.fptr (rStmt v) 0):=wZ (e:=163) rfl rfl len_rStmt h σ k
theorem sB {l m r:List gStmt}(h:appx 112 l m=some r){σ:AHeap}{o:Nat}{x:AV}(id:Nat)(ho:σ.objs o=some ⟨163,8,eL rStmt l⟩)(hx:srcA ⟨8,112,[.int .i64 0,.int .i64 0,.int .i64 0,.int .i64 0,.int .i64 0,.nilsl,.nilsl,.nilsl],.struct [(0,3),(1,3),(2,3),(3,161),(6,143),(7,143)]⟩ σ x=some (eL rStmt m)):
  kD T 143 id (.sl o 0 l.length) x σ=some (.sl id 0 r.length,(σ.kill o).put id ⟨163,8,eL rStmt r⟩):=fU (e:=163) rfl rfl (by decide) h id ho hx
theorem cuth_143 {l r:List gStmt}{b:Int}(h:cutx l 0 b=some r)(σ:AHeap){kb:IntKind}:cutA T σ 143 (.fsl (eL rStmt l)) none (some (.int kb b))=some (.fsl (eL rStmt r)):=cutA_fsl (e:=163) rfl rfl len_rStmt rfl rfl h σ
@[simp] theorem len22 (l:List Int):lenA T 22 (.fsl (eL rU8 l))=some (.int .i64 (ilen l)):=yY (e:=5) rfl rU8 l
@[simp] theorem leno22 (o r:Nat)(l:List Int):lenA T 22 (.sl o r l.length)=some (.int .i64 (ilen l)):=wE (e:=5) rfl o r l
@[simp] theorem lenn22:lenA T 22 .nilsl=some (.int .i64 0):=rfl
@[simp] theorem lene22:lenA T 22 .esl=some (.int .i64 0):=rfl
@[simp] theorem src22 (σ:AHeap)(l:List Int)(z:List AV)(k:TK):srcA ⟨1,1,z,k⟩ σ (.fsl (eL rU8 l))=some (eL rU8 l):=yW (f:=rU8) (fun _=>rfl) σ l
@[simp] theorem srco22 {σ:AHeap}{o:Nat}{l:List Int}(z:List AV)(k:TK)(h:σ.objs o=some ⟨5,1,eL rU8 l⟩):srcA ⟨1,1,z,k⟩ σ (.sl o 0 l.length)=some (eL rU8 l):=xI (ti:=⟨1,1,z,k⟩) (fun _=>rfl) h
theorem ix22 {l:List Int}{i:Int}{v:Int}(h:idx l i=some v)(σ:AHeap)(k:IntKind):zR T σ 22 (.fsl (eL rU8 l)) (.int k i)=some (.fptr (rU8 v) 0):=wZ (e:=5) rfl rfl (fun _=>rfl) h σ k
theorem cuth_22 {l r:List Int}{b:Int}(h:cutx l 0 b=some r)(σ:AHeap){kb:IntKind}:cutA T σ 22 (.fsl (eL rU8 l)) none (some (.int kb b))=some (.fsl (eL rU8 r)):=cutA_fsl (e:=5) rfl rfl (fun _=>rfl) rfl rfl h σ
@[simp] theorem len23 (l:List gQuad):lenA T 23 (.fsl (eL rQuad l))=some (.int .i64 (ilen l)):=yY (e:=36) rfl rQuad l
@[simp] theorem leno23 (o r:Nat)(l:List gQuad):lenA T 23 (.sl o r l.length)=some (.int .i64 (ilen l)):=wE (e:=36) rfl o r l
@[simp] theorem lenn23:lenA T 23 .nilsl=some (.int .i64 0):=rfl
@[simp] theorem lene23:lenA T 23 .esl=some (.int .i64 0):=rfl
@[simp] theorem src23 (σ:AHeap)(l:List gQuad)(z:List AV)(k:TK):srcA ⟨5,40,z,k⟩ σ (.fsl (eL rQuad l))=some (eL rQuad l):=yW (f:=rQuad) (fun _=>rfl) σ l
@[simp] theorem srco23 {σ:AHeap}{o:Nat}{l:List gQuad}(z:List AV)(k:TK)(h:σ.objs o=some ⟨36,5,eL rQuad l⟩):srcA ⟨5,40,z,k⟩ σ (.sl o 0 l.length)=some (eL rQuad l):=xI (ti:=⟨5,40,z,k⟩) (fun _=>rfl) h
theorem ix23 {l:List gQuad}{i:Int}{v:gQuad}(h:idx l i=some v)(σ:AHeap)(k:IntKind):zR T σ 23 (.fsl (eL rQuad l)) (.int k i)=some (.fptr (rQuad v) 0):=wZ (e:=36) rfl rfl (fun _=>rfl) h σ k
theorem app23 {l m r:List gQuad}(h:appx 40 l m=some r){σ:AHeap}{o:Nat}{x:AV}(id:Nat)(ho:σ.objs o=some ⟨36,5,eL rQuad l⟩)(hx:srcA ⟨5,40,[.int .i64 0,.int .i64 0,.int .i64 0,.int .i64 0,.int .i64 0],.struct [(0,3),(1,3),(2,3),(3,3),(4,3)]⟩ σ x=some (eL rQuad m)):
  kD T 23 id (.sl o 0 l.length) x σ=some (.sl id 0 r.length,(σ.kill o).put id ⟨36,5,eL rQuad r⟩):=fU (e:=36) rfl rfl (by decide) h id ho hx
theorem appf23 {m r:List gQuad}(h:appx 40 [] m=some r){σ:AHeap}{s x:AV}(hs:s.noRoom=true)(hx:srcA ⟨5,40,[.int .i64 0,.int .i64 0,.int .i64 0,.int .i64 0,.int .i64 0],.struct [(0,3),(1,3),(2,3),(3,3),(4,3)]⟩ σ x=some (eL rQuad m)):
  jO T 23 s x σ=some (.fsl (eL rQuad r),σ):=appF_nil (e:=36) (ti:=⟨5,40,[.int .i64 0,.int .i64 0,.int .i64 0,.int .i64 0,.int .i64 0],.struct [(0,3),(1,3),(2,3),(3,3),(4,3)]⟩) rfl rfl (by decide) h hs hx
@[simp] theorem len24 (l:List Int):lenA T 24 (.fsl (eL rI l))=some (.int .i64 (ilen l)):=yY (e:=3) rfl rI l
@[simp] theorem leno24 (o r:Nat)(l:List Int):lenA T 24 (.sl o r l.length)=some (.int .i64 (ilen l)):=wE (e:=3) rfl o r l
@[simp] theorem lenn24:lenA T 24 .nilsl=some (.int .i64 0):=rfl
@[simp] theorem lene24:lenA T 24 .esl=some (.int .i64 0):=rfl
@[simp] theorem src24 (σ:AHeap)(l:List Int)(z:List AV)(k:TK):srcA ⟨1,8,z,k⟩ σ (.fsl (eL rI l))=some (eL rI l):=yW (f:=rI) (fun _=>rfl) σ l
@[simp] theorem srco24 {σ:AHeap}{o:Nat}{l:List Int}(z:List AV)(k:TK)(h:σ.objs o=some ⟨3,1,eL rI l⟩):srcA ⟨1,8,z,k⟩ σ (.sl o 0 l.length)=some (eL rI l):=xI (ti:=⟨1,8,z,k⟩) (fun _=>rfl) h
theorem ix24 {l:List Int}{i:Int}{v:Int}(h:idx l i=some v)(σ:AHeap)(k:IntKind):zR T σ 24 (.fsl (eL rI l)) (.int k i)=some (.fptr (rI v) 0):=wZ (e:=3) rfl rfl (fun _=>rfl) h σ k
theorem ixo24 {l:List Int}{i:Int}{v:Int}(h:idx l i=some v){σ:AHeap}{o:Nat}(hs:(σ.objs o).map AObj.sz=some 1)(k:IntKind):zR T σ 24 (.sl o 0 l.length) (.int k i)=some (.ptr o i.toNat 0):=fY (e:=3) rfl rfl h hs k
theorem app24 {l m r:List Int}(h:appx 8 l m=some r){σ:AHeap}{o:Nat}{x:AV}(id:Nat)(ho:σ.objs o=some ⟨3,1,eL rI l⟩)(hx:srcA ⟨1,8,[.int .i64 0],.int .i64⟩ σ x=some (eL rI m)):
  kD T 24 id (.sl o 0 l.length) x σ=some (.sl id 0 r.length,(σ.kill o).put id ⟨3,1,eL rI r⟩):=fU (e:=3) rfl rfl (by decide) h id ho hx
theorem appe24 {m r:List Int}(h:appx 8 [] m=some r){σ:AHeap}{x:AV}(id:Nat)(hx:srcA ⟨1,8,[.int .i64 0],.int .i64⟩ σ x=some (eL rI m)):
  kD T 24 id .esl x σ=some (.sl id 0 r.length,σ.put id ⟨3,1,eL rI r⟩):=appA_esl (e:=3) rfl rfl (by decide) h id hx
theorem makf24 {n:Int}{r:List Int}(h:makex 8 n (0:Int)=some r)(σ:AHeap)(id:Nat)(k k':IntKind):makeA T 24 true id (.int k n) (.int k' n) σ=some (.fsl (eL rI r),σ):=makA_fsl (e:=3) (ti:=⟨1,8,[.int .i64 0],.int .i64⟩) rfl rfl (by decide) (z:=(0:Int)) rfl h σ id k k'
@[simp] theorem len27 (l:List gBox):lenA T 27 (.fsl (eL rBox l))=some (.int .i64 (ilen l)):=yY (e:=40) rfl rBox l
@[simp] theorem leno27 (o r:Nat)(l:List gBox):lenA T 27 (.sl o r l.length)=some (.int .i64 (ilen l)):=wE (e:=40) rfl o r l
@[simp] theorem lenn27:lenA T 27 .nilsl=some (.int .i64 0):=rfl
@[simp] theorem lene27:lenA T 27 .esl=some (.int .i64 0):=rfl
@[simp] theorem src27 (σ:AHeap)(l:List gBox)(z:List AV)(k:TK):srcA ⟨2,32,z,k⟩ σ (.fsl (eL rBox l))=some (eL rBox l):=yW (f:=rBox) (fun _=>rfl) σ l
@[simp] theorem srco27 {σ:AHeap}{o:Nat}{l:List gBox}(z:List AV)(k:TK)(h:σ.objs o=some ⟨40,2,eL rBox l⟩):srcA ⟨2,32,z,k⟩ σ (.sl o 0 l.length)=some (eL rBox l):=xI (ti:=⟨2,32,z,k⟩) (fun _=>rfl) h
theorem ix27 {l:List gBox}{i:Int}{v:gBox}(h:idx l i=some v)(σ:AHeap)(k:IntKind):zR T σ 27 (.fsl (eL rBox l)) (.int k i)=some (.fptr (rBox v) 0):=wZ (e:=40) rfl rfl (fun _=>rfl) h σ k
theorem ixo27 {l:List gBox}{i:Int}{v:gBox}(h:idx l i=some v){σ:AHeap}{o:Nat}(hs:(σ.objs o).map AObj.sz=some 2)(k:IntKind):zR T σ 27 (.sl o 0 l.length) (.int k i)=some (.ptr o i.toNat 0):=fY (e:=40) rfl rfl h hs k
theorem app27 {l m r:List gBox}(h:appx 32 l m=some r){σ:AHeap}{o:Nat}{x:AV}(id:Nat)(ho:σ.objs o=some ⟨40,2,eL rBox l⟩)(hx:srcA ⟨2,32,[.int .i64 0,.nilsl],.struct [(0,3),(1,24)]⟩ σ x=some (eL rBox m)):
  kD T 27 id (.sl o 0 l.length) x σ=some (.sl id 0 r.length,(σ.kill o).put id ⟨40,2,eL rBox r⟩):=fU (e:=40) rfl rfl (by decide) h id ho hx
@[simp] theorem len159 (l:List gExpr):lenA T 159 (.fsl (eL rExpr l))=some (.int .i64 (ilen l)):=yY (e:=161) rfl rExpr l
@[simp] theorem leno159 (o r:Nat)(l:List gExpr):lenA T 159 (.sl o r l.length)=some (.int .i64 (ilen l)):=wE (e:=161) rfl o r l
@[simp] theorem lenn159:lenA T 159 .nilsl=some (.int .i64 0):=rfl
@[simp] theorem lene159:lenA T 159 .esl=some (.int .i64 0):=rfl
@[simp] theorem src159 (σ:AHeap)(l:List gExpr)(z:List AV)(k:TK):srcA ⟨3,40,z,k⟩ σ (.fsl (eL rExpr l))=some (eL rExpr l):=yW (f:=rExpr) len_rExpr σ l
@[simp] theorem srco159 {σ:AHeap}{o:Nat}{l:List gExpr}(z:List AV)(k:TK)(h:σ.objs o=some ⟨161,3,eL rExpr l⟩):srcA ⟨3,40,z,k⟩ σ (.sl o 0 l.length)=some (eL rExpr l):=xI (ti:=⟨3,40,z,k⟩) lin_rExpr h
theorem ix159 {l:List gExpr}{i:Int}{v:gExpr}(h:idx l i=some v)(σ:AHeap)(k:IntKind):zR T σ 159 (.fsl (eL rExpr l)) (.int k i)=some (.fptr (rExpr v) 0):=wZ (e:=161) rfl rfl len_rExpr h σ k
@[simp] theorem len173 (l:List (List gFact)):lenA T 173 (.fsl (eL kP l))=some (.int .i64 (ilen l)):=yY (e:=176) rfl kP l
@[simp] theorem leno173 (o r:Nat)(l:List (List gFact)):lenA T 173 (.sl o r l.length)=some (.int .i64 (ilen l)):=wE (e:=176) rfl o r l
@[simp] theorem lenn173:lenA T 173 .nilsl=some (.int .i64 0):=rfl
@[simp] theorem lene173:lenA T 173 .esl=some (.int .i64 0):=rfl
@[simp] theorem src173 (σ:AHeap)(l:List (List gFact))(z:List AV)(k:TK):srcA ⟨1,24,z,k⟩ σ (.fsl (eL kP l))=some (eL kP l):=yW (f:=kP) (fun _=>rfl) σ l
@[simp] theorem srco173 {σ:AHeap}{o:Nat}{l:List (List gFact)}(z:List AV)(k:TK)(h:σ.objs o=some ⟨176,1,eL kP l⟩):srcA ⟨1,24,z,k⟩ σ (.sl o 0 l.length)=some (eL kP l):=xI (ti:=⟨1,24,z,k⟩) (fun _=>rfl) h
theorem ix173 {l:List (List gFact)}{i:Int}{v:List gFact}(h:idx l i=some v)(σ:AHeap)(k:IntKind):zR T σ 173 (.fsl (eL kP l)) (.int k i)=some (.fptr (kP v) 0):=wZ (e:=176) rfl rfl (fun _=>rfl) h σ k
theorem oP {l:List (List gFact)}{i:Int}{v:List gFact}(h:idx l i=some v){σ:AHeap}{o:Nat}(hs:(σ.objs o).map AObj.sz=some 1)(k:IntKind):zR T σ 173 (.sl o 0 l.length) (.int k i)=some (.ptr o i.toNat 0):=fY (e:=176) rfl rfl h hs k
@[simp] theorem len176 (l:List gFact):lenA T 176 (.fsl (eL rFact l))=some (.int .i64 (ilen l)):=yY (e:=189) rfl rFact l
@[simp] theorem leno176 (o r:Nat)(l:List gFact):lenA T 176 (.sl o r l.length)=some (.int .i64 (ilen l)):=wE (e:=189) rfl o r l
@[simp] theorem lenn176:lenA T 176 .nilsl=some (.int .i64 0):=rfl
@[simp] theorem lene176:lenA T 176 .esl=some (.int .i64 0):=rfl
@[simp] theorem src176 (σ:AHeap)(l:List gFact)(z:List AV)(k:TK):srcA ⟨2,16,z,k⟩ σ (.fsl (eL rFact l))=some (eL rFact l):=yW (f:=rFact) (fun _=>rfl) σ l
@[simp] theorem srco176 {σ:AHeap}{o:Nat}{l:List gFact}(z:List AV)(k:TK)(h:σ.objs o=some ⟨189,2,eL rFact l⟩):srcA ⟨2,16,z,k⟩ σ (.sl o 0 l.length)=some (eL rFact l):=xI (ti:=⟨2,16,z,k⟩) (fun _=>rfl) h
theorem ix176 {l:List gFact}{i:Int}{v:gFact}(h:idx l i=some v)(σ:AHeap)(k:IntKind):zR T σ 176 (.fsl (eL rFact l)) (.int k i)=some (.fptr (rFact v) 0):=wZ (e:=189) rfl rfl (fun _=>rfl) h σ k
theorem mM {l:List gFact}{i:Int}{v:gFact}(h:idx l i=some v){σ:AHeap}{o:Nat}(hs:(σ.objs o).map AObj.sz=some 2)(k:IntKind):zR T σ 176 (.sl o 0 l.length) (.int k i)=some (.ptr o i.toNat 0):=fY (e:=189) rfl rfl h hs k
theorem appe176 {m r:List gFact}(h:appx 16 [] m=some r){σ:AHeap}{x:AV}(id:Nat)(hx:srcA ⟨2,16,[.int .i64 0,.int .i64 0],.struct [(0,3),(1,3)]⟩ σ x=some (eL rFact m)):
  kD T 176 id .esl x σ=some (.sl id 0 r.length,σ.put id ⟨189,2,eL rFact r⟩):=appA_esl (e:=189) rfl rfl (by decide) h id hx
theorem mak176 {n:Int}{r:List gFact}(h:makex 16 n (⟨0,0⟩:gFact)=some r)(σ:AHeap)(id:Nat)(k k':IntKind):makeA T 176 false id (.int k n) (.int k' n) σ=some (.sl id 0 r.length,σ.put id ⟨189,2,eL rFact r⟩):=makA_sl (e:=189) (ti:=⟨2,16,[.int .i64 0,.int .i64 0],.struct [(0,3),(1,3)]⟩) rfl rfl (by decide) (z:=(⟨0,0⟩:gFact)) rfl h σ id k k'
@[simp] theorem len54 (l:List (List gQuad)):lenA T 54 (.fsl (eL zA l))=some (.int .i64 (ilen l)):=yY (e:=23) rfl zA l
@[simp] theorem leno54 (o r:Nat)(l:List (List gQuad)):lenA T 54 (.sl o r l.length)=some (.int .i64 (ilen l)):=wE (e:=23) rfl o r l
@[simp] theorem lenn54:lenA T 54 .nilsl=some (.int .i64 0):=rfl
@[simp] theorem lene54:lenA T 54 .esl=some (.int .i64 0):=rfl
@[simp] theorem src54 (σ:AHeap)(l:List (List gQuad))(z:List AV)(k:TK):srcA ⟨1,24,z,k⟩ σ (.fsl (eL zA l))=some (eL zA l):=yW (f:=zA) (fun _=>rfl) σ l
@[simp] theorem srco54 {σ:AHeap}{o:Nat}{l:List (List gQuad)}(z:List AV)(k:TK)(h:σ.objs o=some ⟨23,1,eL zA l⟩):srcA ⟨1,24,z,k⟩ σ (.sl o 0 l.length)=some (eL zA l):=xI (ti:=⟨1,24,z,k⟩) (fun _=>rfl) h
theorem ix54 {l:List (List gQuad)}{i:Int}{v:List gQuad}(h:idx l i=some v)(σ:AHeap)(k:IntKind):zR T σ 54 (.fsl (eL zA l)) (.int k i)=some (.fptr (zA v) 0):=wZ (e:=23) rfl rfl (fun _=>rfl) h σ k
theorem app54 {l m r:List (List gQuad)}(h:appx 24 l m=some r){σ:AHeap}{o:Nat}{x:AV}(id:Nat)(ho:σ.objs o=some ⟨23,1,eL zA l⟩)(hx:srcA ⟨1,24,[.nilsl],.slice 36⟩ σ x=some (eL zA m)):
  kD T 54 id (.sl o 0 l.length) x σ=some (.sl id 0 r.length,(σ.kill o).put id ⟨23,1,eL zA r⟩):=fU (e:=23) rfl rfl (by decide) h id ho hx
@[simp] theorem len57 (l:List gThread):lenA T 57 (.fsl (eL zF l))=some (.int .i64 (ilen l)):=yY (e:=26) rfl zF l
@[simp] theorem leno57 (o r:Nat)(l:List gThread):lenA T 57 (.sl o r l.length)=some (.int .i64 (ilen l)):=wE (e:=26) rfl o r l
@[simp] theorem lenn57:lenA T 57 .nilsl=some (.int .i64 0):=rfl
@[simp] theorem lene57:lenA T 57 .esl=some (.int .i64 0):=rfl
@[simp] theorem src57 (σ:AHeap)(l:List gThread)(z:List AV)(k:TK):srcA ⟨2,32,z,k⟩ σ (.fsl (eL zF l))=some (eL zF l):=yW (f:=zF) (fun _=>rfl) σ l
@[simp] theorem srco57 {σ:AHeap}{o:Nat}{l:List gThread}(z:List AV)(k:TK)(h:σ.objs o=some ⟨26,2,eL zF l⟩):srcA ⟨2,32,z,k⟩ σ (.sl o 0 l.length)=some (eL zF l):=xI (ti:=⟨2,32,z,k⟩) (fun _=>rfl) h
theorem ix57 {l:List gThread}{i:Int}{v:gThread}(h:idx l i=some v)(σ:AHeap)(k:IntKind):zR T σ 57 (.fsl (eL zF l)) (.int k i)=some (.fptr (zF v) 0):=wZ (e:=26) rfl rfl (fun _=>rfl) h σ k
theorem ixo57 {l:List gThread}{i:Int}{v:gThread}(h:idx l i=some v){σ:AHeap}{o:Nat}(hs:(σ.objs o).map AObj.sz=some 2)(k:IntKind):zR T σ 57 (.sl o 0 l.length) (.int k i)=some (.ptr o i.toNat 0):=fY (e:=26) rfl rfl h hs k
theorem app57 {l m r:List gThread}(h:appx 32 l m=some r){σ:AHeap}{o:Nat}{x:AV}(id:Nat)(ho:σ.objs o=some ⟨26,2,eL zF l⟩)(hx:srcA ⟨2,32,[.nilsl,.int .i64 0],.struct [(0,24),(1,3)]⟩ σ x=some (eL zF m)):
  kD T 57 id (.sl o 0 l.length) x σ=some (.sl id 0 r.length,(σ.kill o).put id ⟨26,2,eL zF r⟩):=fU (e:=26) rfl rfl (by decide) h id ho hx
@[simp] theorem len66 (l:List Bool):lenA T 66 (.fsl (eL rB l))=some (.int .i64 (ilen l)):=yY (e:=4) rfl rB l
@[simp] theorem leno66 (o r:Nat)(l:List Bool):lenA T 66 (.sl o r l.length)=some (.int .i64 (ilen l)):=wE (e:=4) rfl o r l
@[simp] theorem lenn66:lenA T 66 .nilsl=some (.int .i64 0):=rfl
@[simp] theorem lene66:lenA T 66 .esl=some (.int .i64 0):=rfl
@[simp] theorem src66 (σ:AHeap)(l:List Bool)(z:List AV)(k:TK):srcA ⟨1,1,z,k⟩ σ (.fsl (eL rB l))=some (eL rB l):=yW (f:=rB) (fun _=>rfl) σ l
@[simp] theorem srco66 {σ:AHeap}{o:Nat}{l:List Bool}(z:List AV)(k:TK)(h:σ.objs o=some ⟨4,1,eL rB l⟩):srcA ⟨1,1,z,k⟩ σ (.sl o 0 l.length)=some (eL rB l):=xI (ti:=⟨1,1,z,k⟩) (fun _=>rfl) h
theorem ix66 {l:List Bool}{i:Int}{v:Bool}(h:idx l i=some v)(σ:AHeap)(k:IntKind):zR T σ 66 (.fsl (eL rB l)) (.int k i)=some (.fptr (rB v) 0):=wZ (e:=4) rfl rfl (fun _=>rfl) h σ k
theorem ixo66 {l:List Bool}{i:Int}{v:Bool}(h:idx l i=some v){σ:AHeap}{o:Nat}(hs:(σ.objs o).map AObj.sz=some 1)(k:IntKind):zR T σ 66 (.sl o 0 l.length) (.int k i)=some (.ptr o i.toNat 0):=fY (e:=4) rfl rfl h hs k
theorem appe66 {m r:List Bool}(h:appx 1 [] m=some r){σ:AHeap}{x:AV}(id:Nat)(hx:srcA ⟨1,1,[.bool false],.bool⟩ σ x=some (eL rB m)):
  kD T 66 id .esl x σ=some (.sl id 0 r.length,σ.put id ⟨4,1,eL rB r⟩):=appA_esl (e:=4) rfl rfl (by decide) h id hx
theorem mak66 {n:Int}{r:List Bool}(h:makex 1 n (false:Bool)=some r)(σ:AHeap)(id:Nat)(k k':IntKind):makeA T 66 false id (.int k n) (.int k' n) σ=some (.sl id 0 r.length,σ.put id ⟨4,1,eL rB r⟩):=makA_sl (e:=4) (ti:=⟨1,1,[.bool false],.bool⟩) rfl rfl (by decide) (z:=(false:Bool)) rfl h σ id k k'
@[simp] theorem len76 (l:List (List Bool)):lenA T 76 (.fsl (eL rL_B l))=some (.int .i64 (ilen l)):=yY (e:=66) rfl rL_B l
@[simp] theorem leno76 (o r:Nat)(l:List (List Bool)):lenA T 76 (.sl o r l.length)=some (.int .i64 (ilen l)):=wE (e:=66) rfl o r l
@[simp] theorem lenn76:lenA T 76 .nilsl=some (.int .i64 0):=rfl
@[simp] theorem lene76:lenA T 76 .esl=some (.int .i64 0):=rfl
@[simp] theorem src76 (σ:AHeap)(l:List (List Bool))(z:List AV)(k:TK):srcA ⟨1,24,z,k⟩ σ (.fsl (eL rL_B l))=some (eL rL_B l):=yW (f:=rL_B) (fun _=>rfl) σ l
@[simp] theorem srco76 {σ:AHeap}{o:Nat}{l:List (List Bool)}(z:List AV)(k:TK)(h:σ.objs o=some ⟨66,1,eL rL_B l⟩):srcA ⟨1,24,z,k⟩ σ (.sl o 0 l.length)=some (eL rL_B l):=xI (ti:=⟨1,24,z,k⟩) (fun _=>rfl) h
theorem ix76 {l:List (List Bool)}{i:Int}{v:List Bool}(h:idx l i=some v)(σ:AHeap)(k:IntKind):zR T σ 76 (.fsl (eL rL_B l)) (.int k i)=some (.fptr (rL_B v) 0):=wZ (e:=66) rfl rfl (fun _=>rfl) h σ k
theorem ixo76 {l:List (List Bool)}{i:Int}{v:List Bool}(h:idx l i=some v){σ:AHeap}{o:Nat}(hs:(σ.objs o).map AObj.sz=some 1)(k:IntKind):zR T σ 76 (.sl o 0 l.length) (.int k i)=some (.ptr o i.toNat 0):=fY (e:=66) rfl rfl h hs k
@[simp] theorem len114 (l:List Int):lenA T 114 (.fsl (eL jS l))=some (.int .i64 (ilen l)):=yY (e:=100) rfl jS l
@[simp] theorem leno114 (o r:Nat)(l:List Int):lenA T 114 (.sl o r l.length)=some (.int .i64 (ilen l)):=wE (e:=100) rfl o r l
@[simp] theorem lenn114:lenA T 114 .nilsl=some (.int .i64 0):=rfl
@[simp] theorem lene114:lenA T 114 .esl=some (.int .i64 0):=rfl
@[simp] theorem src114 (σ:AHeap)(l:List Int)(z:List AV)(k:TK):srcA ⟨1,2,z,k⟩ σ (.fsl (eL jS l))=some (eL jS l):=yW (f:=jS) (fun _=>rfl) σ l
@[simp] theorem srco114 {σ:AHeap}{o:Nat}{l:List Int}(z:List AV)(k:TK)(h:σ.objs o=some ⟨100,1,eL jS l⟩):srcA ⟨1,2,z,k⟩ σ (.sl o 0 l.length)=some (eL jS l):=xI (ti:=⟨1,2,z,k⟩) (fun _=>rfl) h
@[simp] theorem len120 (l:List (List Int)):lenA T 120 (.fsl (eL rL_I l))=some (.int .i64 (ilen l)):=yY (e:=24) rfl rL_I l
@[simp] theorem leno120 (o r:Nat)(l:List (List Int)):lenA T 120 (.sl o r l.length)=some (.int .i64 (ilen l)):=wE (e:=24) rfl o r l
@[simp] theorem lenn120:lenA T 120 .nilsl=some (.int .i64 0):=rfl
@[simp] theorem lene120:lenA T 120 .esl=some (.int .i64 0):=rfl
@[simp] theorem src120 (σ:AHeap)(l:List (List Int))(z:List AV)(k:TK):srcA ⟨1,24,z,k⟩ σ (.fsl (eL rL_I l))=some (eL rL_I l):=yW (f:=rL_I) (fun _=>rfl) σ l
@[simp] theorem srco120 {σ:AHeap}{o:Nat}{l:List (List Int)}(z:List AV)(k:TK)(h:σ.objs o=some ⟨24,1,eL rL_I l⟩):srcA ⟨1,24,z,k⟩ σ (.sl o 0 l.length)=some (eL rL_I l):=xI (ti:=⟨1,24,z,k⟩) (fun _=>rfl) h
theorem ix120 {l:List (List Int)}{i:Int}{v:List Int}(h:idx l i=some v)(σ:AHeap)(k:IntKind):zR T σ 120 (.fsl (eL rL_I l)) (.int k i)=some (.fptr (rL_I v) 0):=wZ (e:=24) rfl rfl (fun _=>rfl) h σ k
theorem tS {l:List (List Int)}{i:Int}{v:List Int}(h:idx l i=some v){σ:AHeap}{o:Nat}(hs:(σ.objs o).map AObj.sz=some 1)(k:IntKind):zR T σ 120 (.sl o 0 l.length) (.int k i)=some (.ptr o i.toNat 0):=fY (e:=24) rfl rfl h hs k
theorem cutoh_24 {l r:List Int}{b:Int}(h:cutx l 0 b=some r){σ:AHeap}{o:Nat}{kb:IntKind}(hs:(σ.objs o).map AObj.sz=some 1):cutA T σ 24 (.sl o 0 l.length) none (some (.int kb b))=some (.sl o 0 r.length):=cutA_sl (e:=3) rfl rfl rfl rfl h hs
theorem cutol_24 {l r:List Int}{a:Int}(h:cutx l a (ilen l)=some r){σ:AHeap}{o:Nat}{ka:IntKind}(hs:(σ.objs o).map AObj.sz=some 1):cutA T σ 24 (.sl o 0 l.length) (some (.int ka a)) none=some (.sl o a.toNat r.length):=cutA_sl (e:=3) rfl rfl rfl rfl h hs
theorem appv24 {l l' m r:List Int}{b:Int}(hc:cutx l 0 b=some l')(h:appx 8 l' m=some r){σ:AHeap}{o:Nat}{x:AV}(id:Nat)(ho:σ.objs o=some ⟨3,1,eL rI l⟩)(hx:srcA ⟨1,8,[.int .i64 0],.int .i64⟩ σ x=some (eL rI m)):
  kD T 24 id (.sl o 0 l'.length) x σ=some (.sl id 0 r.length,(σ.kill o).put id ⟨3,1,eL rI r⟩):=appA_slv (e:=3) (ti:=⟨1,8,[.int .i64 0],.int .i64⟩) rfl rfl (by decide) hc h id ho hx
theorem srcv24 {l r:List Int}{a b:Int}(hv:cutx l a b=some r){σ:AHeap}{o:Nat}(z:List AV)(k:TK)(h:σ.objs o=some ⟨3,1,eL rI l⟩):srcA ⟨1,8,z,k⟩ σ (.sl o a.toNat r.length)=some (eL rI r):=srcA_slv (ti:=⟨1,8,z,k⟩) (fun _=>rfl) hv h
theorem srcvn24 {l r:List Int}{a b:Int}(n:Nat)(hv:cutx l a b=some r)(hn:a.toNat=n){σ:AHeap}{o:Nat}(z:List AV)(k:TK)(h:σ.objs o=some ⟨3,1,eL rI l⟩):srcA ⟨1,8,z,k⟩ σ (.sl o n r.length)=some (eL rI r):=hn▸srcv24 hv z k h
theorem apr27 (f:gBox→List AV){l r:List gBox}{v:gBox}(h:appx 32 l [v]=some r){σ:AHeap}{o:Nat}(x0 x1:AV)(id:Nat)(ho:σ.objs o=some ⟨40,2,eL f l⟩):
  kD T 27 id (.sl o 0 l.length) (.fsl [[x0,x1]]) σ=some (.sl id 0 r.length,(σ.kill o).put id ⟨40,2,eL f l++[[x0,x1]]⟩):=fR (e:=40) (ti:=⟨2,32,[.int .i64 0,.nilsl],.struct [(0,3),(1,24)]⟩) rfl rfl (by decide) h id ho (oX rfl σ)
theorem apr54 (f:(List gQuad)→List AV){l r:List (List gQuad)}{v:List gQuad}(h:appx 24 l [v]=some r){σ:AHeap}{o:Nat}(x0:AV)(id:Nat)(ho:σ.objs o=some ⟨23,1,eL f l⟩):
  kD T 54 id (.sl o 0 l.length) (.fsl [[x0]]) σ=some (.sl id 0 r.length,(σ.kill o).put id ⟨23,1,eL f l++[[x0]]⟩):=fR (e:=23) (ti:=⟨1,24,[.nilsl],.slice 36⟩) rfl rfl (by decide) h id ho (oX rfl σ)
theorem apr57 (f:gThread→List AV){l r:List gThread}{v:gThread}(h:appx 32 l [v]=some r){σ:AHeap}{o:Nat}(x0 x1:AV)(id:Nat)(ho:σ.objs o=some ⟨26,2,eL f l⟩):
  kD T 57 id (.sl o 0 l.length) (.fsl [[x0,x1]]) σ=some (.sl id 0 r.length,(σ.kill o).put id ⟨26,2,eL f l++[[x0,x1]]⟩):=fR (e:=26) (ti:=⟨2,32,[.nilsl,.int .i64 0],.struct [(0,24),(1,3)]⟩) rfl rfl (by decide) h id ho (oX rfl σ)
theorem apr76 (f:(List Bool)→List AV){l r:List (List Bool)}{v:List Bool}(h:appx 24 l [v]=some r){σ:AHeap}{o:Nat}(x0:AV)(id:Nat)(ho:σ.objs o=some ⟨66,1,eL f l⟩):
  kD T 76 id (.sl o 0 l.length) (.fsl [[x0]]) σ=some (.sl id 0 r.length,(σ.kill o).put id ⟨66,1,eL f l++[[x0]]⟩):=fR (e:=66) (ti:=⟨1,24,[.nilsl],.slice 4⟩) rfl rfl (by decide) h id ho (oX rfl σ)
theorem apr120 (f:(List Int)→List AV){l r:List (List Int)}{v:List Int}(h:appx 24 l [v]=some r){σ:AHeap}{o:Nat}(x0:AV)(id:Nat)(ho:σ.objs o=some ⟨24,1,eL f l⟩):
  kD T 120 id (.sl o 0 l.length) (.fsl [[x0]]) σ=some (.sl id 0 r.length,(σ.kill o).put id ⟨24,1,eL f l++[[x0]]⟩):=fR (e:=24) (ti:=⟨1,24,[.nilsl],.slice 3⟩) rfl rfl (by decide) h id ho (oX rfl σ)
theorem apr173 (f:(List gFact)→List AV){l r:List (List gFact)}{v:List gFact}(h:appx 24 l [v]=some r){σ:AHeap}{o:Nat}(x0:AV)(id:Nat)(ho:σ.objs o=some ⟨176,1,eL f l⟩):
  kD T 173 id (.sl o 0 l.length) (.fsl [[x0]]) σ=some (.sl id 0 r.length,(σ.kill o).put id ⟨176,1,eL f l++[[x0]]⟩):=fR (e:=176) (ti:=⟨1,24,[.nilsl],.slice 189⟩) rfl rfl (by decide) h id ho (oX rfl σ)
theorem nf_rI (n:Nat)(x:Int):((rI x).all (AV.nf (n+1)))=true:=by simp[AV.nf,AV.simp1]
theorem nf_rB (n:Nat)(x:Bool):((rB x).all (AV.nf (n+1)))=true:=by simp[AV.nf,AV.simp1]
theorem nf_rFact (n:Nat)(x:gFact):((rFact x).all (AV.nf (n+1)))=true:=by simp[AV.nf,AV.simp1]
def kA (x:gBox):List AV:=[.int .i64 x.Room,.osl 3 1 (eL rI x.Items)]
@[simp] theorem rBox_o_eq (x:gBox):kA x=[.int .i64 x.Room,.osl 3 1 (eL rI x.Items)]:=rfl
@[simp] theorem thawm_rBox_o {D:Nat→Bool}{σ:AHeap}{d:Nat}(l:List gBox):(eL kA l).map (fun e=>e.map (thawA D σ (d+1)))=eL rBox l:=by
 simp only[eL,List.map_map]
 refine List.map_congr_left fun x _=>?_
 simp[thawA]
theorem xF (l:List gBox)(k:Nat)(xRoom:Int)(xItems:List Int):(eL kA l).set k [.int .i64 xRoom,.osl 3 1 (eL rI xItems)]=eL kA (l.set k (⟨xRoom,xItems⟩:gBox)):=zY kA l k (⟨xRoom,xItems⟩:gBox)
@[simp] theorem len_rBox_o (x:gBox):(kA x).length=2:=rfl
def yK (x:List Bool):List AV:=[.osl 4 1 (eL rB x)]
@[simp] theorem rL_B_o_eq (x:List Bool):yK x=[.osl 4 1 (eL rB x)]:=rfl
@[simp] theorem thawm_rL_B_o {D:Nat→Bool}{σ:AHeap}{d:Nat}(l:List (List Bool)):(eL yK l).map (fun e=>e.map (thawA D σ (d+1)))=eL rL_B l:=by
 simp only[eL,List.map_map]
 refine List.map_congr_left fun x _=>?_
 simp[thawA]
@[simp] theorem len_rL_B_o (x:List Bool):(yK x).length=1:=rfl
def zM (x:List gFact):List AV:=[.osl 189 2 (eL rFact x)]
@[simp] theorem rL_Fact_o_eq (x:List gFact):zM x=[.osl 189 2 (eL rFact x)]:=rfl
@[simp] theorem thawm_rL_Fact_o {D:Nat→Bool}{σ:AHeap}{d:Nat}(l:List (List gFact)):(eL zM l).map (fun e=>e.map (thawA D σ (d+1)))=eL kP l:=by
 simp only[eL,List.map_map]
 refine List.map_congr_left fun x _=>?_
 simp[thawA]
@[simp] theorem len_rL_Fact_o (x:List gFact):(zM x).length=1:=rfl
def zV (x:List Int):List AV:=[.osl 3 1 (eL rI x)]
@[simp] theorem rL_I_o_eq (x:List Int):zV x=[.osl 3 1 (eL rI x)]:=rfl
@[simp] theorem thawm_rL_I_o {D:Nat→Bool}{σ:AHeap}{d:Nat}(l:List (List Int)):(eL zV l).map (fun e=>e.map (thawA D σ (d+1)))=eL rL_I l:=by
 simp only[eL,List.map_map]
 refine List.map_congr_left fun x _=>?_
 simp[thawA]
@[simp] theorem len_rL_I_o (x:List Int):(zV x).length=1:=rfl
def zX (x:gThread):List AV:=[.osl 3 1 (eL rI x.Regs),.int .i64 x.Pc]
@[simp] theorem rThread_o_eq (x:gThread):zX x=[.osl 3 1 (eL rI x.Regs),.int .i64 x.Pc]:=rfl
@[simp] theorem thawm_rThread_o {D:Nat→Bool}{σ:AHeap}{d:Nat}(l:List gThread):(eL zX l).map (fun e=>e.map (thawA D σ (d+1)))=eL zF l:=by
 simp only[eL,List.map_map]
 refine List.map_congr_left fun x _=>?_
 simp[thawA]
theorem kO (l:List gThread)(k:Nat)(xRegs:List Int)(xPc:Int):(eL zX l).set k [.osl 3 1 (eL rI xRegs),.int .i64 xPc]=eL zX (l.set k (⟨xRegs,xPc⟩:gThread)):=zY zX l k (⟨xRegs,xPc⟩:gThread)
@[simp] theorem len_rThread_o (x:gThread):(zX x).length=2:=rfl
end Go.Proofs.YtdnkfkfjaaedpaaGreat
