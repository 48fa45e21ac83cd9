/- Words of the proof: ZH. No conditions. -/
import Derived.Test.YtlcilhmkbmgkeaaGreatDoorNZR0
import Derived.Test.YtlcilhmkbmgkeaaGreatDoorProg
import Derived.KernelRfl
set_option linter.unusedSimpArgs false
set_option linter.unusedVariables false
set_option maxRecDepth 20000
namespace Go.Proofs.YtlcilhmkbmgkeaaGreatDoor
open Go Go.Abs Go.RowKit

def T:Types:=fun t=>
 match t with
 |3=>some ⟨1,8,[.int .i64 0],.int .i64⟩ -- int
 |4=>some ⟨1,1,[.bool false],.bool⟩ -- bool
 |5=>some ⟨1,1,[.int .u8 0],.int .u8⟩ -- uint8
 |21=>some ⟨1,4,[.int .i32 0],.int .i32⟩ -- int32
 |24=>some ⟨1,24,[.nilsl],.slice 3⟩ -- []int
 |38=>some ⟨1,24,[.nilsl],.slice 5⟩ -- []uint8
 |39=>some ⟨1,24,[.nilsl],.slice 48⟩ -- []impl.Quad
 |44=>some ⟨1,24,[.nilsl],.slice 103⟩ -- []impl.Instr
 |48=>some ⟨5,40,[.int .i64 0,.int .i64 0,.int .i64 0,.int .i64 0,.int .i64 0],.struct [(0,3),(1,3),(2,3),(3,3),(4,3)]⟩ -- impl.Quad
 |103=>some ⟨5,40,[.int .i64 0,.int .i64 0,.int .i64 0,.int .i64 0,.int .i64 0],.struct [(0,3),(1,3),(2,3),(3,3),(4,3)]⟩ -- impl.Instr
 |112=>some ⟨1,8,[.nilp],.ptr⟩ -- *spec.l6Rd
 |115=>some ⟨1,8,[.nilp],.ptr⟩ -- *impl.emitter
 |117=>some ⟨2,32,[.int .i64 0,.nilsl],.struct [(0,3),(1,44)]⟩ -- impl.emitter
 |123=>some ⟨12,96,[.int .i64 0,.int .i64 0,.int .i64 0,.int .i64 0,.int .i64 0,.int .i64 0,.int .i64 0,.int .i64 0,.int .i64 0,.int .i64 0,.int .i64 0,.int .i64 0],.array 12 3⟩ -- [12]int
 |138=>some ⟨1,4,[.int .u32 0],.int .u32⟩ -- uint32
 |140=>some ⟨2,32,[.nilsl,.int .i64 0],.struct [(0,38),(1,3)]⟩ -- spec.l6Rd
 |141=>some ⟨8,64,[.int .i64 0,.int .i64 0,.int .i64 0,.int .i64 0,.int .i64 0,.int .i64 0,.int .i64 0,.int .i64 0],.array 8 3⟩ -- [8]int
 |160=>some ⟨1,24,[.nilsl],.slice 180⟩ -- []impl.Stmt
 |176=>some ⟨1,24,[.nilsl],.slice 178⟩ -- []impl.Expr
 |178=>some ⟨3,40,[.int .i64 0,.int .i64 0,.nilsl],.struct [(0,3),(1,3),(2,176)]⟩ -- impl.Expr
 |180=>some ⟨8,112,[.int .i64 0,.int .i64 0,.int .i64 0,.int .i64 0,.int .i64 0,.nilsl,.nilsl,.nilsl],.struct [(0,3),(1,3),(2,3),(3,178),(6,160),(7,160)]⟩ -- impl.Stmt
 |190=>some ⟨1,24,[.nilsl],.slice 193⟩ -- [][]impl.Fact
 |193=>some ⟨1,24,[.nilsl],.slice 212⟩ -- []impl.Fact
 |194=>some ⟨1,24,[.nilsl],.slice 24⟩ -- [][]int
 |198=>some ⟨1,24,[.nilsl],.slice 201⟩ -- [][]bool
 |201=>some ⟨1,24,[.nilsl],.slice 4⟩ -- []bool
 |212=>some ⟨2,16,[.int .i64 0,.int .i64 0],.struct [(0,3),(1,3)]⟩ -- impl.Fact
 |_=>none

@[simp] theorem T_3:T 3=some ⟨1,8,[.int .i64 0],.int .i64⟩:=rfl
@[simp] theorem T_4:T 4=some ⟨1,1,[.bool false],.bool⟩:=rfl
@[simp] theorem T_5:T 5=some ⟨1,1,[.int .u8 0],.int .u8⟩:=rfl
@[simp] theorem T_21:T 21=some ⟨1,4,[.int .i32 0],.int .i32⟩:=rfl
@[simp] theorem T_24:T 24=some ⟨1,24,[.nilsl],.slice 3⟩:=rfl
@[simp] theorem T_38:T 38=some ⟨1,24,[.nilsl],.slice 5⟩:=rfl
@[simp] theorem T_39:T 39=some ⟨1,24,[.nilsl],.slice 48⟩:=rfl
@[simp] theorem T_44:T 44=some ⟨1,24,[.nilsl],.slice 103⟩:=rfl
@[simp] theorem T_48:T 48=some ⟨5,40,[.int .i64 0,.int .i64 0,.int .i64 0,.int .i64 0,.int .i64 0],.struct [(0,3),(1,3),(2,3),(3,3),(4,3)]⟩:=rfl
@[simp] theorem T_103:T 103=some ⟨5,40,[.int .i64 0,.int .i64 0,.int .i64 0,.int .i64 0,.int .i64 0],.struct [(0,3),(1,3),(2,3),(3,3),(4,3)]⟩:=rfl
@[simp] theorem T_112:T 112=some ⟨1,8,[.nilp],.ptr⟩:=rfl
@[simp] theorem T_115:T 115=some ⟨1,8,[.nilp],.ptr⟩:=rfl
@[simp] theorem T_117:T 117=some ⟨2,32,[.int .i64 0,.nilsl],.struct [(0,3),(1,44)]⟩:=rfl
@[simp] theorem T_123:T 123=some ⟨12,96,[.int .i64 0,.int .i64 0,.int .i64 0,.int .i64 0,.int .i64 0,.int .i64 0,.int .i64 0,.int .i64 0,.int .i64 0,.int .i64 0,.int .i64 0,.int .i64 0],.array 12 3⟩:=rfl
@[simp] theorem T_138:T 138=some ⟨1,4,[.int .u32 0],.int .u32⟩:=rfl
@[simp] theorem T_140:T 140=some ⟨2,32,[.nilsl,.int .i64 0],.struct [(0,38),(1,3)]⟩:=rfl
@[simp] theorem T_141:T 141=some ⟨8,64,[.int .i64 0,.int .i64 0,.int .i64 0,.int .i64 0,.int .i64 0,.int .i64 0,.int .i64 0,.int .i64 0],.array 8 3⟩:=rfl
@[simp] theorem T_160:T 160=some ⟨1,24,[.nilsl],.slice 180⟩:=rfl
@[simp] theorem T_176:T 176=some ⟨1,24,[.nilsl],.slice 178⟩:=rfl
@[simp] theorem T_178:T 178=some ⟨3,40,[.int .i64 0,.int .i64 0,.nilsl],.struct [(0,3),(1,3),(2,176)]⟩:=rfl
@[simp] theorem T_180:T 180=some ⟨8,112,[.int .i64 0,.int .i64 0,.int .i64 0,.int .i64 0,.int .i64 0,.nilsl,.nilsl,.nilsl],.struct [(0,3),(1,3),(2,3),(3,178),(6,160),(7,160)]⟩:=rfl
@[simp] theorem T_190:T 190=some ⟨1,24,[.nilsl],.slice 193⟩:=rfl
@[simp] theorem T_193:T 193=some ⟨1,24,[.nilsl],.slice 212⟩:=rfl
@[simp] theorem T_194:T 194=some ⟨1,24,[.nilsl],.slice 24⟩:=rfl
@[simp] theorem T_198:T 198=some ⟨1,24,[.nilsl],.slice 201⟩:=rfl
@[simp] theorem T_201:T 201=some ⟨1,24,[.nilsl],.slice 4⟩:=rfl
@[simp] theorem T_212:T 212=some ⟨2,16,[.int .i64 0,.int .i64 0],.struct [(0,3),(1,3)]⟩:=rfl
theorem tok:TOk Tryz.prog T:=by
 intro t i h
 unfold T at h
 split at h<;>first|(cases h;done)|skip
 all_goals (cases h;refine⟨by kernel_rfl,by kernel_rfl,by kernel_rfl,by kernel_rfl,by kernel_rfl⟩)
theorem tokM:Tryz.prog.follows .mixedOrders=true:=by kernel_rfl
def G:Globs:=fun g=>match g with
 |1=>some (gI [7,8,6,8,11,9,10,1,2,3,4,5])
 |3=>some (gI [8,9,18,19,20,21,22,23])
 |_=>none
@[simp] theorem G_1:G 1=some (gI [7,8,6,8,11,9,10,1,2,3,4,5]):=rfl
@[simp] theorem G_3:G 3=some (gI [8,9,18,19,20,21,22,23]):=rfl
@[simp] theorem bin_ii (op:BinOp) (t:TypeId) (k:IntKind) (a b:Int):bin T op t (.int k a) (.int k b)=ibin op k a b:=by simp[bin]
@[simp] theorem bin_shl (t:TypeId) (k k':IntKind) (a b:Int):bin T .shl t (.int k a) (.int k' b)=ibin .shl k a b:=by simp[bin]
@[simp] theorem bin_shr (t:TypeId) (k k':IntKind) (a b:Int):bin T .shr t (.int k a) (.int k' b)=ibin .shr k a b:=by simp[bin]
@[simp ↓] theorem sueq_48 (xOp xDst xA xB xN yOp yDst yA yB yN:Int):bin T .eql 48 (.agg [.int .i64 xOp,.int .i64 xDst,.int .i64 xA,.int .i64 xB,.int .i64 xN]) (.agg [.int .i64 yOp,.int .i64 yDst,.int .i64 yA,.int .i64 yB,.int .i64 yN])=some (.bool (eqD (⟨xOp,xDst,xA,xB,xN⟩:gQuad) (⟨yOp,yDst,yA,yB,yN⟩:gQuad))):=by
 have h:eqAgg T 48 [.int .i64 xOp,.int .i64 xDst,.int .i64 xA,.int .i64 xB,.int .i64 xN] [.int .i64 yOp,.int .i64 yDst,.int .i64 yA,.int .i64 yB,.int .i64 yN]=some (decide ((⟨xOp,xDst,xA,xB,xN⟩:gQuad)=(⟨yOp,yDst,yA,yB,yN⟩:gQuad))):=by
  simp[eqAgg,flatT,eqCells,gQuad.mk.injEq,Bool.decide_and,decide_eq_true_eq]
  try rfl
 simp only[bin,h,Option.map_some,bnot,eqD]
@[simp ↓] theorem sune_48 (xOp xDst xA xB xN yOp yDst yA yB yN:Int):bin T .neq 48 (.agg [.int .i64 xOp,.int .i64 xDst,.int .i64 xA,.int .i64 xB,.int .i64 xN]) (.agg [.int .i64 yOp,.int .i64 yDst,.int .i64 yA,.int .i64 yB,.int .i64 yN])=some (.bool (bnot (eqD (⟨xOp,xDst,xA,xB,xN⟩:gQuad) (⟨yOp,yDst,yA,yB,yN⟩:gQuad)))):=by
 have h:eqAgg T 48 [.int .i64 xOp,.int .i64 xDst,.int .i64 xA,.int .i64 xB,.int .i64 xN] [.int .i64 yOp,.int .i64 yDst,.int .i64 yA,.int .i64 yB,.int .i64 yN]=some (decide ((⟨xOp,xDst,xA,xB,xN⟩:gQuad)=(⟨yOp,yDst,yA,yB,yN⟩:gQuad))):=by
  simp[eqAgg,flatT,eqCells,gQuad.mk.injEq,Bool.decide_and,decide_eq_true_eq]
  try rfl
 simp only[bin,h,Option.map_some,bnot,eqD]
@[simp ↓] theorem sueq_212 (xKind xN yKind yN:Int):bin T .eql 212 (.agg [.int .i64 xKind,.int .i64 xN]) (.agg [.int .i64 yKind,.int .i64 yN])=some (.bool (eqD (⟨xKind,xN⟩:gFact) (⟨yKind,yN⟩:gFact))):=by
 have h:eqAgg T 212 [.int .i64 xKind,.int .i64 xN] [.int .i64 yKind,.int .i64 yN]=some (decide ((⟨xKind,xN⟩:gFact)=(⟨yKind,yN⟩:gFact))):=by
  simp[eqAgg,flatT,eqCells,gFact.mk.injEq,Bool.decide_and,decide_eq_true_eq]
  try rfl
 simp only[bin,h,Option.map_some,bnot,eqD]
@[simp ↓] theorem sune_212 (xKind xN yKind yN:Int):bin T .neq 212 (.agg [.int .i64 xKind,.int .i64 xN]) (.agg [.int .i64 yKind,.int .i64 yN])=some (.bool (bnot (eqD (⟨xKind,xN⟩:gFact) (⟨yKind,yN⟩:gFact)))):=by
 have h:eqAgg T 212 [.int .i64 xKind,.int .i64 xN] [.int .i64 yKind,.int .i64 yN]=some (decide ((⟨xKind,xN⟩:gFact)=(⟨yKind,yN⟩:gFact))):=by
  simp[eqAgg,flatT,eqCells,gFact.mk.injEq,Bool.decide_and,decide_eq_true_eq]
  try rfl
 simp only[bin,h,Option.map_some,bnot,eqD]
@[simp ↓] theorem sueq_103 (xOp xRd xRs xRt xImm yOp yRd yRs yRt yImm:Int):bin T .eql 103 (.agg [.int .i64 xOp,.int .i64 xRd,.int .i64 xRs,.int .i64 xRt,.int .i64 xImm]) (.agg [.int .i64 yOp,.int .i64 yRd,.int .i64 yRs,.int .i64 yRt,.int .i64 yImm])=some (.bool (eqD (⟨xOp,xRd,xRs,xRt,xImm⟩:gInstr) (⟨yOp,yRd,yRs,yRt,yImm⟩:gInstr))):=by
 have h:eqAgg T 103 [.int .i64 xOp,.int .i64 xRd,.int .i64 xRs,.int .i64 xRt,.int .i64 xImm] [.int .i64 yOp,.int .i64 yRd,.int .i64 yRs,.int .i64 yRt,.int .i64 yImm]=some (decide ((⟨xOp,xRd,xRs,xRt,xImm⟩:gInstr)=(⟨yOp,yRd,yRs,yRt,yImm⟩:gInstr))):=by
  simp[eqAgg,flatT,eqCells,gInstr.mk.injEq,Bool.decide_and,decide_eq_true_eq]
  try rfl
 simp only[bin,h,Option.map_some,bnot,eqD]
@[simp ↓] theorem sune_103 (xOp xRd xRs xRt xImm yOp yRd yRs yRt yImm:Int):bin T .neq 103 (.agg [.int .i64 xOp,.int .i64 xRd,.int .i64 xRs,.int .i64 xRt,.int .i64 xImm]) (.agg [.int .i64 yOp,.int .i64 yRd,.int .i64 yRs,.int .i64 yRt,.int .i64 yImm])=some (.bool (bnot (eqD (⟨xOp,xRd,xRs,xRt,xImm⟩:gInstr) (⟨yOp,yRd,yRs,yRt,yImm⟩:gInstr)))):=by
 have h:eqAgg T 103 [.int .i64 xOp,.int .i64 xRd,.int .i64 xRs,.int .i64 xRt,.int .i64 xImm] [.int .i64 yOp,.int .i64 yRd,.int .i64 yRs,.int .i64 yRt,.int .i64 yImm]=some (decide ((⟨xOp,xRd,xRs,xRt,xImm⟩:gInstr)=(⟨yOp,yRd,yRs,yRt,yImm⟩:gInstr))):=by
  simp[eqAgg,flatT,eqCells,gInstr.mk.injEq,Bool.decide_and,decide_eq_true_eq]
  try rfl
 simp only[bin,h,Option.map_some,bnot,eqD]
@[simp] theorem bineq_4 (a b:Bool):bin T .eql 4 (.bool a) (.bool b)=some (.bool (beqb a b)):=rfl
@[simp] theorem binne_4 (a b:Bool):bin T .neq 4 (.bool a) (.bool b)=some (.bool (bneb a b)):=rfl
@[simp] theorem conv_3_5 (k:IntKind) (n:Int):convA T 3 5 (.int k n)=some (.int .u8 (iconv .u8 n)):=rfl
@[simp] theorem conv_3_138 (k:IntKind) (n:Int):convA T 3 138 (.int k n)=some (.int .u32 (iconv .u32 n)):=rfl
@[simp] theorem conv_3_21 (k:IntKind) (n:Int):convA T 3 21 (.int k n)=some (.int .i32 (iconv .i32 n)):=rfl
@[simp] theorem conv_5_3 (k:IntKind) (n:Int):convA T 5 3 (.int k n)=some (.int .i64 (iconv .i64 n)):=rfl
@[simp] theorem conv_5_138 (k:IntKind) (n:Int):convA T 5 138 (.int k n)=some (.int .u32 (iconv .u32 n)):=rfl
@[simp] theorem conv_5_21 (k:IntKind) (n:Int):convA T 5 21 (.int k n)=some (.int .i32 (iconv .i32 n)):=rfl
@[simp] theorem conv_138_3 (k:IntKind) (n:Int):convA T 138 3 (.int k n)=some (.int .i64 (iconv .i64 n)):=rfl
@[simp] theorem conv_138_5 (k:IntKind) (n:Int):convA T 138 5 (.int k n)=some (.int .u8 (iconv .u8 n)):=rfl
@[simp] theorem conv_138_21 (k:IntKind) (n:Int):convA T 138 21 (.int k n)=some (.int .i32 (iconv .i32 n)):=rfl
@[simp] theorem conv_21_3 (k:IntKind) (n:Int):convA T 21 3 (.int k n)=some (.int .i64 (iconv .i64 n)):=rfl
@[simp] theorem conv_21_5 (k:IntKind) (n:Int):convA T 21 5 (.int k n)=some (.int .u8 (iconv .u8 n)):=rfl
@[simp] theorem conv_21_138 (k:IntKind) (n:Int):convA T 21 138 (.int k n)=some (.int .u32 (iconv .u32 n)):=rfl
@[simp] theorem len24 (l:List Int):lenA T 24 (.fsl (encL rI l))=some (.int .i64 (ilen l)):=lenA_fsl (e:=3) rfl rI l
@[simp] theorem leno24 (o r:Nat) (l:List Int):lenA T 24 (.sl o r l.length)=some (.int .i64 (ilen l)):=lenA_sl (e:=3) rfl o r l
@[simp] theorem lenn24:lenA T 24 .nilsl=some (.int .i64 0):=rfl
@[simp] theorem lene24:lenA T 24 .esl=some (.int .i64 0):=rfl
@[simp] theorem src24 (σ:AHeap) (l:List Int) (z:List AV) (k:TK):srcA ⟨1,8,z,k⟩ σ (.fsl (encL rI l))=some (encL rI l):=srcA_fsl (f:=rI) (fun _=>rfl) σ l
@[simp] theorem srco24 {σ:AHeap} {o:Nat} {l:List Int} (z:List AV) (k:TK) (h:σ.objs o=some ⟨3,1,encL rI l⟩):srcA ⟨1,8,z,k⟩ σ (.sl o 0 l.length)=some (encL rI l):=srcA_sl (ti:=⟨1,8,z,k⟩) (fun _=>rfl) h
theorem ix24 {l:List Int} {i:Int} {v:Int} (h:idx l i=some v) (σ:AHeap) (k:IntKind):indexAddrA T σ 24 (.fsl (encL rI l)) (.int k i)=some (.fptr (rI v) 0):=ixA_fsl (e:=3) rfl rfl (fun _=>rfl) h σ k
theorem ixo24 {l:List Int} {i:Int} {v:Int} (h:idx l i=some v) {σ:AHeap} {o:Nat} (hs:(σ.objs o).map AObj.sz=some 1) (k:IntKind):indexAddrA T σ 24 (.sl o 0 l.length) (.int k i)=some (.ptr o i.toNat 0):=ixA_sl (e:=3) rfl rfl h hs k
theorem app24 {l m r:List Int} (h:appx 8 l m=some r) {σ:AHeap} {o:Nat} {x:AV} (id:Nat) (ho:σ.objs o=some ⟨3,1,encL rI l⟩) (hx:srcA ⟨1,8,[.int .i64 0],.int .i64⟩ σ x=some (encL rI m)):
  appendA T 24 id (.sl o 0 l.length) x σ=some (.sl id 0 r.length,(σ.kill o).put id ⟨3,1,encL rI r⟩):=appA_sl (e:=3) rfl rfl (by decide) h id ho hx
theorem appe24 {m r:List Int} (h:appx 8 [] m=some r) {σ:AHeap} {x:AV} (id:Nat) (hx:srcA ⟨1,8,[.int .i64 0],.int .i64⟩ σ x=some (encL rI m)):
  appendA T 24 id .esl x σ=some (.sl id 0 r.length,σ.put id ⟨3,1,encL rI r⟩):=appA_esl (e:=3) rfl rfl (by decide) h id hx
@[simp] theorem len160 (l:List gStmt):lenA T 160 (.fsl (encL rStmt l))=some (.int .i64 (ilen l)):=lenA_fsl (e:=180) rfl rStmt l
@[simp] theorem leno160 (o r:Nat) (l:List gStmt):lenA T 160 (.sl o r l.length)=some (.int .i64 (ilen l)):=lenA_sl (e:=180) rfl o r l
@[simp] theorem lenn160:lenA T 160 .nilsl=some (.int .i64 0):=rfl
@[simp] theorem lene160:lenA T 160 .esl=some (.int .i64 0):=rfl
@[simp] theorem src160 (σ:AHeap) (l:List gStmt) (z:List AV) (k:TK):srcA ⟨8,112,z,k⟩ σ (.fsl (encL rStmt l))=some (encL rStmt l):=srcA_fsl (f:=rStmt) len_rStmt σ l
@[simp] theorem srco160 {σ:AHeap} {o:Nat} {l:List gStmt} (z:List AV) (k:TK) (h:σ.objs o=some ⟨180,8,encL rStmt l⟩):srcA ⟨8,112,z,k⟩ σ (.sl o 0 l.length)=some (encL rStmt l):=srcA_sl (ti:=⟨8,112,z,k⟩) lin_rStmt h
theorem ix160 {l:List gStmt} {i:Int} {v:gStmt} (h:idx l i=some v) (σ:AHeap) (k:IntKind):indexAddrA T σ 160 (.fsl (encL rStmt l)) (.int k i)=some (.fptr (rStmt v) 0):=ixA_fsl (e:=180) rfl rfl len_rStmt h σ k
theorem app160 {l m r:List gStmt} (h:appx 112 l m=some r) {σ:AHeap} {o:Nat} {x:AV} (id:Nat) (ho:σ.objs o=some ⟨180,8,encL rStmt l⟩) (hx:srcA ⟨8,112,[.int .i64 0,.int .i64 0,.int .i64 0,.int .i64 0,.int .i64 0,.nilsl,.nilsl,.nilsl],.struct [(0,3),(1,3),(2,3),(3,178),(6,160),(7,160)]⟩ σ x=some (encL rStmt m)):
  appendA T 160 id (.sl o 0 l.length) x σ=some (.sl id 0 r.length,(σ.kill o).put id ⟨180,8,encL rStmt r⟩):=appA_sl (e:=180) rfl rfl (by decide) h id ho hx
theorem cuth_160 {l r:List gStmt} {b:Int} (h:cutx l 0 b=some r) (σ:AHeap) {kb:IntKind}:cutA T σ 160 (.fsl (encL rStmt l)) none (some (.int kb b))=some (.fsl (encL rStmt r)):=cutA_fsl (e:=180) rfl rfl len_rStmt rfl rfl h σ
@[simp] theorem len38 (l:List Int):lenA T 38 (.fsl (encL rI_u8 l))=some (.int .i64 (ilen l)):=lenA_fsl (e:=5) rfl rI_u8 l
@[simp] theorem leno38 (o r:Nat) (l:List Int):lenA T 38 (.sl o r l.length)=some (.int .i64 (ilen l)):=lenA_sl (e:=5) rfl o r l
@[simp] theorem lenn38:lenA T 38 .nilsl=some (.int .i64 0):=rfl
@[simp] theorem lene38:lenA T 38 .esl=some (.int .i64 0):=rfl
@[simp] theorem src38 (σ:AHeap) (l:List Int) (z:List AV) (k:TK):srcA ⟨1,1,z,k⟩ σ (.fsl (encL rI_u8 l))=some (encL rI_u8 l):=srcA_fsl (f:=rI_u8) (fun _=>rfl) σ l
@[simp] theorem srco38 {σ:AHeap} {o:Nat} {l:List Int} (z:List AV) (k:TK) (h:σ.objs o=some ⟨5,1,encL rI_u8 l⟩):srcA ⟨1,1,z,k⟩ σ (.sl o 0 l.length)=some (encL rI_u8 l):=srcA_sl (ti:=⟨1,1,z,k⟩) (fun _=>rfl) h
theorem ix38 {l:List Int} {i:Int} {v:Int} (h:idx l i=some v) (σ:AHeap) (k:IntKind):indexAddrA T σ 38 (.fsl (encL rI_u8 l)) (.int k i)=some (.fptr (rI_u8 v) 0):=ixA_fsl (e:=5) rfl rfl (fun _=>rfl) h σ k
theorem cuth_38 {l r:List Int} {b:Int} (h:cutx l 0 b=some r) (σ:AHeap) {kb:IntKind}:cutA T σ 38 (.fsl (encL rI_u8 l)) none (some (.int kb b))=some (.fsl (encL rI_u8 r)):=cutA_fsl (e:=5) rfl rfl (fun _=>rfl) rfl rfl h σ
@[simp] theorem len39 (l:List gQuad):lenA T 39 (.fsl (encL rQuad l))=some (.int .i64 (ilen l)):=lenA_fsl (e:=48) rfl rQuad l
@[simp] theorem leno39 (o r:Nat) (l:List gQuad):lenA T 39 (.sl o r l.length)=some (.int .i64 (ilen l)):=lenA_sl (e:=48) rfl o r l
@[simp] theorem lenn39:lenA T 39 .nilsl=some (.int .i64 0):=rfl
@[simp] theorem lene39:lenA T 39 .esl=some (.int .i64 0):=rfl
@[simp] theorem src39 (σ:AHeap) (l:List gQuad) (z:List AV) (k:TK):srcA ⟨5,40,z,k⟩ σ (.fsl (encL rQuad l))=some (encL rQuad l):=srcA_fsl (f:=rQuad) (fun _=>rfl) σ l
@[simp] theorem srco39 {σ:AHeap} {o:Nat} {l:List gQuad} (z:List AV) (k:TK) (h:σ.objs o=some ⟨48,5,encL rQuad l⟩):srcA ⟨5,40,z,k⟩ σ (.sl o 0 l.length)=some (encL rQuad l):=srcA_sl (ti:=⟨5,40,z,k⟩) (fun _=>rfl) h
theorem ix39 {l:List gQuad} {i:Int} {v:gQuad} (h:idx l i=some v) (σ:AHeap) (k:IntKind):indexAddrA T σ 39 (.fsl (encL rQuad l)) (.int k i)=some (.fptr (rQuad v) 0):=ixA_fsl (e:=48) rfl rfl (fun _=>rfl) h σ k
theorem ixo39 {l:List gQuad} {i:Int} {v:gQuad} (h:idx l i=some v) {σ:AHeap} {o:Nat} (hs:(σ.objs o).map AObj.sz=some 5) (k:IntKind):indexAddrA T σ 39 (.sl o 0 l.length) (.int k i)=some (.ptr o i.toNat 0):=ixA_sl (e:=48) rfl rfl h hs k
theorem app39 {l m r:List gQuad} (h:appx 40 l m=some r) {σ:AHeap} {o:Nat} {x:AV} (id:Nat) (ho:σ.objs o=some ⟨48,5,encL rQuad l⟩) (hx:srcA ⟨5,40,[.int .i64 0,.int .i64 0,.int .i64 0,.int .i64 0,.int .i64 0],.struct [(0,3),(1,3),(2,3),(3,3),(4,3)]⟩ σ x=some (encL rQuad m)):
  appendA T 39 id (.sl o 0 l.length) x σ=some (.sl id 0 r.length,(σ.kill o).put id ⟨48,5,encL rQuad r⟩):=appA_sl (e:=48) rfl rfl (by decide) h id ho hx
theorem appe39 {m r:List gQuad} (h:appx 40 [] m=some r) {σ:AHeap} {x:AV} (id:Nat) (hx:srcA ⟨5,40,[.int .i64 0,.int .i64 0,.int .i64 0,.int .i64 0,.int .i64 0],.struct [(0,3),(1,3),(2,3),(3,3),(4,3)]⟩ σ x=some (encL rQuad m)):
  appendA T 39 id .esl x σ=some (.sl id 0 r.length,σ.put id ⟨48,5,encL rQuad r⟩):=appA_esl (e:=48) rfl rfl (by decide) h id hx
@[simp] theorem len44 (l:List gInstr):lenA T 44 (.fsl (encL rInstr l))=some (.int .i64 (ilen l)):=lenA_fsl (e:=103) rfl rInstr l
@[simp] theorem leno44 (o r:Nat) (l:List gInstr):lenA T 44 (.sl o r l.length)=some (.int .i64 (ilen l)):=lenA_sl (e:=103) rfl o r l
@[simp] theorem lenn44:lenA T 44 .nilsl=some (.int .i64 0):=rfl
@[simp] theorem lene44:lenA T 44 .esl=some (.int .i64 0):=rfl
@[simp] theorem src44 (σ:AHeap) (l:List gInstr) (z:List AV) (k:TK):srcA ⟨5,40,z,k⟩ σ (.fsl (encL rInstr l))=some (encL rInstr l):=srcA_fsl (f:=rInstr) (fun _=>rfl) σ l
@[simp] theorem srco44 {σ:AHeap} {o:Nat} {l:List gInstr} (z:List AV) (k:TK) (h:σ.objs o=some ⟨103,5,encL rInstr l⟩):srcA ⟨5,40,z,k⟩ σ (.sl o 0 l.length)=some (encL rInstr l):=srcA_sl (ti:=⟨5,40,z,k⟩) (fun _=>rfl) h
theorem app44 {l m r:List gInstr} (h:appx 40 l m=some r) {σ:AHeap} {o:Nat} {x:AV} (id:Nat) (ho:σ.objs o=some ⟨103,5,encL rInstr l⟩) (hx:srcA ⟨5,40,[.int .i64 0,.int .i64 0,.int .i64 0,.int .i64 0,.int .i64 0],.struct [(0,3),(1,3),(2,3),(3,3),(4,3)]⟩ σ x=some (encL rInstr m)):
  appendA T 44 id (.sl o 0 l.length) x σ=some (.sl id 0 r.length,(σ.kill o).put id ⟨103,5,encL rInstr r⟩):=appA_sl (e:=103) rfl rfl (by decide) h id ho hx
@[simp] theorem len176 (l:List gExpr):lenA T 176 (.fsl (encL rExpr l))=some (.int .i64 (ilen l)):=lenA_fsl (e:=178) rfl rExpr l
@[simp] theorem leno176 (o r:Nat) (l:List gExpr):lenA T 176 (.sl o r l.length)=some (.int .i64 (ilen l)):=lenA_sl (e:=178) rfl o r l
@[simp] theorem lenn176:lenA T 176 .nilsl=some (.int .i64 0):=rfl
@[simp] theorem lene176:lenA T 176 .esl=some (.int .i64 0):=rfl
@[simp] theorem src176 (σ:AHeap) (l:List gExpr) (z:List AV) (k:TK):srcA ⟨3,40,z,k⟩ σ (.fsl (encL rExpr l))=some (encL rExpr l):=srcA_fsl (f:=rExpr) len_rExpr σ l
@[simp] theorem srco176 {σ:AHeap} {o:Nat} {l:List gExpr} (z:List AV) (k:TK) (h:σ.objs o=some ⟨178,3,encL rExpr l⟩):srcA ⟨3,40,z,k⟩ σ (.sl o 0 l.length)=some (encL rExpr l):=srcA_sl (ti:=⟨3,40,z,k⟩) lin_rExpr h
theorem ix176 {l:List gExpr} {i:Int} {v:gExpr} (h:idx l i=some v) (σ:AHeap) (k:IntKind):indexAddrA T σ 176 (.fsl (encL rExpr l)) (.int k i)=some (.fptr (rExpr v) 0):=ixA_fsl (e:=178) rfl rfl len_rExpr h σ k
@[simp] theorem len190 (l:List (List gFact)):lenA T 190 (.fsl (encL rL_Fact l))=some (.int .i64 (ilen l)):=lenA_fsl (e:=193) rfl rL_Fact l
@[simp] theorem leno190 (o r:Nat) (l:List (List gFact)):lenA T 190 (.sl o r l.length)=some (.int .i64 (ilen l)):=lenA_sl (e:=193) rfl o r l
@[simp] theorem lenn190:lenA T 190 .nilsl=some (.int .i64 0):=rfl
@[simp] theorem lene190:lenA T 190 .esl=some (.int .i64 0):=rfl
@[simp] theorem src190 (σ:AHeap) (l:List (List gFact)) (z:List AV) (k:TK):srcA ⟨1,24,z,k⟩ σ (.fsl (encL rL_Fact l))=some (encL rL_Fact l):=srcA_fsl (f:=rL_Fact) (fun _=>rfl) σ l
@[simp] theorem srco190 {σ:AHeap} {o:Nat} {l:List (List gFact)} (z:List AV) (k:TK) (h:σ.objs o=some ⟨193,1,encL rL_Fact l⟩):srcA ⟨1,24,z,k⟩ σ (.sl o 0 l.length)=some (encL rL_Fact l):=srcA_sl (ti:=⟨1,24,z,k⟩) (fun _=>rfl) h
theorem ix190 {l:List (List gFact)} {i:Int} {v:(List gFact)} (h:idx l i=some v) (σ:AHeap) (k:IntKind):indexAddrA T σ 190 (.fsl (encL rL_Fact l)) (.int k i)=some (.fptr (rL_Fact v) 0):=ixA_fsl (e:=193) rfl rfl (fun _=>rfl) h σ k
theorem ixo190 {l:List (List gFact)} {i:Int} {v:(List gFact)} (h:idx l i=some v) {σ:AHeap} {o:Nat} (hs:(σ.objs o).map AObj.sz=some 1) (k:IntKind):indexAddrA T σ 190 (.sl o 0 l.length) (.int k i)=some (.ptr o i.toNat 0):=ixA_sl (e:=193) rfl rfl h hs k
@[simp] theorem len193 (l:List gFact):lenA T 193 (.fsl (encL rFact l))=some (.int .i64 (ilen l)):=lenA_fsl (e:=212) rfl rFact l
@[simp] theorem leno193 (o r:Nat) (l:List gFact):lenA T 193 (.sl o r l.length)=some (.int .i64 (ilen l)):=lenA_sl (e:=212) rfl o r l
@[simp] theorem lenn193:lenA T 193 .nilsl=some (.int .i64 0):=rfl
@[simp] theorem lene193:lenA T 193 .esl=some (.int .i64 0):=rfl
@[simp] theorem src193 (σ:AHeap) (l:List gFact) (z:List AV) (k:TK):srcA ⟨2,16,z,k⟩ σ (.fsl (encL rFact l))=some (encL rFact l):=srcA_fsl (f:=rFact) (fun _=>rfl) σ l
@[simp] theorem srco193 {σ:AHeap} {o:Nat} {l:List gFact} (z:List AV) (k:TK) (h:σ.objs o=some ⟨212,2,encL rFact l⟩):srcA ⟨2,16,z,k⟩ σ (.sl o 0 l.length)=some (encL rFact l):=srcA_sl (ti:=⟨2,16,z,k⟩) (fun _=>rfl) h
theorem ix193 {l:List gFact} {i:Int} {v:gFact} (h:idx l i=some v) (σ:AHeap) (k:IntKind):indexAddrA T σ 193 (.fsl (encL rFact l)) (.int k i)=some (.fptr (rFact v) 0):=ixA_fsl (e:=212) rfl rfl (fun _=>rfl) h σ k
theorem ixo193 {l:List gFact} {i:Int} {v:gFact} (h:idx l i=some v) {σ:AHeap} {o:Nat} (hs:(σ.objs o).map AObj.sz=some 2) (k:IntKind):indexAddrA T σ 193 (.sl o 0 l.length) (.int k i)=some (.ptr o i.toNat 0):=ixA_sl (e:=212) rfl rfl h hs k
theorem appe193 {m r:List gFact} (h:appx 16 [] m=some r) {σ:AHeap} {x:AV} (id:Nat) (hx:srcA ⟨2,16,[.int .i64 0,.int .i64 0],.struct [(0,3),(1,3)]⟩ σ x=some (encL rFact m)):
  appendA T 193 id .esl x σ=some (.sl id 0 r.length,σ.put id ⟨212,2,encL rFact r⟩):=appA_esl (e:=212) rfl rfl (by decide) h id hx
theorem mak193 {n:Int} {r:List gFact} (h:makex 16 n (⟨0,0⟩:gFact)=some r) (σ:AHeap) (id:Nat) (k k':IntKind):makeA T 193 false id (.int k n) (.int k' n) σ=some (.sl id 0 r.length,σ.put id ⟨212,2,encL rFact r⟩):=makA_sl (e:=212) (ti:=⟨2,16,[.int .i64 0,.int .i64 0],.struct [(0,3),(1,3)]⟩) rfl rfl (by decide) (z:=(⟨0,0⟩:gFact)) rfl h σ id k k'
@[simp] theorem len194 (l:List (List Int)):lenA T 194 (.fsl (encL rL_I l))=some (.int .i64 (ilen l)):=lenA_fsl (e:=24) rfl rL_I l
@[simp] theorem leno194 (o r:Nat) (l:List (List Int)):lenA T 194 (.sl o r l.length)=some (.int .i64 (ilen l)):=lenA_sl (e:=24) rfl o r l
@[simp] theorem lenn194:lenA T 194 .nilsl=some (.int .i64 0):=rfl
@[simp] theorem lene194:lenA T 194 .esl=some (.int .i64 0):=rfl
@[simp] theorem src194 (σ:AHeap) (l:List (List Int)) (z:List AV) (k:TK):srcA ⟨1,24,z,k⟩ σ (.fsl (encL rL_I l))=some (encL rL_I l):=srcA_fsl (f:=rL_I) (fun _=>rfl) σ l
@[simp] theorem srco194 {σ:AHeap} {o:Nat} {l:List (List Int)} (z:List AV) (k:TK) (h:σ.objs o=some ⟨24,1,encL rL_I l⟩):srcA ⟨1,24,z,k⟩ σ (.sl o 0 l.length)=some (encL rL_I l):=srcA_sl (ti:=⟨1,24,z,k⟩) (fun _=>rfl) h
theorem ix194 {l:List (List Int)} {i:Int} {v:(List Int)} (h:idx l i=some v) (σ:AHeap) (k:IntKind):indexAddrA T σ 194 (.fsl (encL rL_I l)) (.int k i)=some (.fptr (rL_I v) 0):=ixA_fsl (e:=24) rfl rfl (fun _=>rfl) h σ k
theorem ixo194 {l:List (List Int)} {i:Int} {v:(List Int)} (h:idx l i=some v) {σ:AHeap} {o:Nat} (hs:(σ.objs o).map AObj.sz=some 1) (k:IntKind):indexAddrA T σ 194 (.sl o 0 l.length) (.int k i)=some (.ptr o i.toNat 0):=ixA_sl (e:=24) rfl rfl h hs k
@[simp] theorem len198 (l:List (List Bool)):lenA T 198 (.fsl (encL rL_B l))=some (.int .i64 (ilen l)):=lenA_fsl (e:=201) rfl rL_B l
@[simp] theorem leno198 (o r:Nat) (l:List (List Bool)):lenA T 198 (.sl o r l.length)=some (.int .i64 (ilen l)):=lenA_sl (e:=201) rfl o r l
@[simp] theorem lenn198:lenA T 198 .nilsl=some (.int .i64 0):=rfl
@[simp] theorem lene198:lenA T 198 .esl=some (.int .i64 0):=rfl
@[simp] theorem src198 (σ:AHeap) (l:List (List Bool)) (z:List AV) (k:TK):srcA ⟨1,24,z,k⟩ σ (.fsl (encL rL_B l))=some (encL rL_B l):=srcA_fsl (f:=rL_B) (fun _=>rfl) σ l
@[simp] theorem srco198 {σ:AHeap} {o:Nat} {l:List (List Bool)} (z:List AV) (k:TK) (h:σ.objs o=some ⟨201,1,encL rL_B l⟩):srcA ⟨1,24,z,k⟩ σ (.sl o 0 l.length)=some (encL rL_B l):=srcA_sl (ti:=⟨1,24,z,k⟩) (fun _=>rfl) h
theorem ix198 {l:List (List Bool)} {i:Int} {v:(List Bool)} (h:idx l i=some v) (σ:AHeap) (k:IntKind):indexAddrA T σ 198 (.fsl (encL rL_B l)) (.int k i)=some (.fptr (rL_B v) 0):=ixA_fsl (e:=201) rfl rfl (fun _=>rfl) h σ k
theorem ixo198 {l:List (List Bool)} {i:Int} {v:(List Bool)} (h:idx l i=some v) {σ:AHeap} {o:Nat} (hs:(σ.objs o).map AObj.sz=some 1) (k:IntKind):indexAddrA T σ 198 (.sl o 0 l.length) (.int k i)=some (.ptr o i.toNat 0):=ixA_sl (e:=201) rfl rfl h hs k
@[simp] theorem len201 (l:List Bool):lenA T 201 (.fsl (encL rB l))=some (.int .i64 (ilen l)):=lenA_fsl (e:=4) rfl rB l
@[simp] theorem leno201 (o r:Nat) (l:List Bool):lenA T 201 (.sl o r l.length)=some (.int .i64 (ilen l)):=lenA_sl (e:=4) rfl o r l
@[simp] theorem lenn201:lenA T 201 .nilsl=some (.int .i64 0):=rfl
@[simp] theorem lene201:lenA T 201 .esl=some (.int .i64 0):=rfl
@[simp] theorem src201 (σ:AHeap) (l:List Bool) (z:List AV) (k:TK):srcA ⟨1,1,z,k⟩ σ (.fsl (encL rB l))=some (encL rB l):=srcA_fsl (f:=rB) (fun _=>rfl) σ l
@[simp] theorem srco201 {σ:AHeap} {o:Nat} {l:List Bool} (z:List AV) (k:TK) (h:σ.objs o=some ⟨4,1,encL rB l⟩):srcA ⟨1,1,z,k⟩ σ (.sl o 0 l.length)=some (encL rB l):=srcA_sl (ti:=⟨1,1,z,k⟩) (fun _=>rfl) h
theorem ix201 {l:List Bool} {i:Int} {v:Bool} (h:idx l i=some v) (σ:AHeap) (k:IntKind):indexAddrA T σ 201 (.fsl (encL rB l)) (.int k i)=some (.fptr (rB v) 0):=ixA_fsl (e:=4) rfl rfl (fun _=>rfl) h σ k
theorem ixo201 {l:List Bool} {i:Int} {v:Bool} (h:idx l i=some v) {σ:AHeap} {o:Nat} (hs:(σ.objs o).map AObj.sz=some 1) (k:IntKind):indexAddrA T σ 201 (.sl o 0 l.length) (.int k i)=some (.ptr o i.toNat 0):=ixA_sl (e:=4) rfl rfl h hs k
theorem appe201 {m r:List Bool} (h:appx 1 [] m=some r) {σ:AHeap} {x:AV} (id:Nat) (hx:srcA ⟨1,1,[.bool false],.bool⟩ σ x=some (encL rB m)):
  appendA T 201 id .esl x σ=some (.sl id 0 r.length,σ.put id ⟨4,1,encL rB r⟩):=appA_esl (e:=4) rfl rfl (by decide) h id hx
theorem mak201 {n:Int} {r:List Bool} (h:makex 1 n (false:Bool)=some r) (σ:AHeap) (id:Nat) (k k':IntKind):makeA T 201 false id (.int k n) (.int k' n) σ=some (.sl id 0 r.length,σ.put id ⟨4,1,encL rB r⟩):=makA_sl (e:=4) (ti:=⟨1,1,[.bool false],.bool⟩) rfl rfl (by decide) (z:=(false:Bool)) rfl h σ id k k'
theorem gx123 {l:List Int} {i:Int} {v:Int} (h:idx l i=some v) (σ:AHeap) (k:IntKind) (hn:l.length=12:=by rfl):indexAddrA T σ 123 (.fptr (gI l) 0) (.int k i)=some (.fptr (rI v) 0):=by rw[gI_eq];exact gixR (e:=3) rfl rfl (fun _=>rfl) hn h σ k
theorem gx141 {l:List Int} {i:Int} {v:Int} (h:idx l i=some v) (σ:AHeap) (k:IntKind) (hn:l.length=8:=by rfl):indexAddrA T σ 141 (.fptr (gI l) 0) (.int k i)=some (.fptr (rI v) 0):=by rw[gI_eq];exact gixR (e:=3) rfl rfl (fun _=>rfl) hn h σ k
theorem apr190 (f:(List gFact)→List AV) {l r:List (List gFact)} {v:(List gFact)} (h:appx 24 l [v]=some r) {σ:AHeap} {o:Nat} (x0:AV) (id:Nat) (ho:σ.objs o=some ⟨193,1,encL f l⟩):
  appendA T 190 id (.sl o 0 l.length) (.fsl [[x0]]) σ=some (.sl id 0 r.length,(σ.kill o).put id ⟨193,1,encL f l++[[x0]]⟩):=aprA_sl (e:=193) (ti:=⟨1,24,[.nilsl],.slice 212⟩) rfl rfl (by decide) h id ho (srcA_raw rfl σ)
theorem apr194 (f:(List Int)→List AV) {l r:List (List Int)} {v:(List Int)} (h:appx 24 l [v]=some r) {σ:AHeap} {o:Nat} (x0:AV) (id:Nat) (ho:σ.objs o=some ⟨24,1,encL f l⟩):
  appendA T 194 id (.sl o 0 l.length) (.fsl [[x0]]) σ=some (.sl id 0 r.length,(σ.kill o).put id ⟨24,1,encL f l++[[x0]]⟩):=aprA_sl (e:=24) (ti:=⟨1,24,[.nilsl],.slice 3⟩) rfl rfl (by decide) h id ho (srcA_raw rfl σ)
theorem apr198 (f:(List Bool)→List AV) {l r:List (List Bool)} {v:(List Bool)} (h:appx 24 l [v]=some r) {σ:AHeap} {o:Nat} (x0:AV) (id:Nat) (ho:σ.objs o=some ⟨201,1,encL f l⟩):
  appendA T 198 id (.sl o 0 l.length) (.fsl [[x0]]) σ=some (.sl id 0 r.length,(σ.kill o).put id ⟨201,1,encL f l++[[x0]]⟩):=aprA_sl (e:=201) (ti:=⟨1,24,[.nilsl],.slice 4⟩) rfl rfl (by decide) h id ho (srcA_raw rfl σ)
theorem nf_rI (n:Nat) (x:Int):((rI x).all (AV.nf (n+1)))=true:=by simp[AV.nf,AV.simp1]
theorem nf_rQuad (n:Nat) (x:gQuad):((rQuad x).all (AV.nf (n+1)))=true:=by simp[AV.nf,AV.simp1]
theorem nf_rFact (n:Nat) (x:gFact):((rFact x).all (AV.nf (n+1)))=true:=by simp[AV.nf,AV.simp1]
theorem nf_rB (n:Nat) (x:Bool):((rB x).all (AV.nf (n+1)))=true:=by simp[AV.nf,AV.simp1]
def rL_B_o (x:(List Bool)):List AV:=[.osl 4 1 (encL rB x)]
@[simp] theorem rL_B_o_eq (x:(List Bool)):rL_B_o x=[.osl 4 1 (encL rB x)]:=rfl
@[simp] theorem thawm_rL_B_o {D:Nat→Bool} {σ:AHeap} {d:Nat} (l:List (List Bool)):(encL rL_B_o l).map (fun e=>e.map (thawA D σ (d+1)))=encL rL_B l:=by
 simp only[encL,List.map_map]
 refine List.map_congr_left fun x _=>?_
 simp[thawA]
@[simp] theorem len_rL_B_o (x:(List Bool)):(rL_B_o x).length=1:=rfl
def rL_Fact_o (x:(List gFact)):List AV:=[.osl 212 2 (encL rFact x)]
@[simp] theorem rL_Fact_o_eq (x:(List gFact)):rL_Fact_o x=[.osl 212 2 (encL rFact x)]:=rfl
@[simp] theorem thawm_rL_Fact_o {D:Nat→Bool} {σ:AHeap} {d:Nat} (l:List (List gFact)):(encL rL_Fact_o l).map (fun e=>e.map (thawA D σ (d+1)))=encL rL_Fact l:=by
 simp only[encL,List.map_map]
 refine List.map_congr_left fun x _=>?_
 simp[thawA]
@[simp] theorem len_rL_Fact_o (x:(List gFact)):(rL_Fact_o x).length=1:=rfl
def rL_I_o (x:(List Int)):List AV:=[.osl 3 1 (encL rI x)]
@[simp] theorem rL_I_o_eq (x:(List Int)):rL_I_o x=[.osl 3 1 (encL rI x)]:=rfl
@[simp] theorem thawm_rL_I_o {D:Nat→Bool} {σ:AHeap} {d:Nat} (l:List (List Int)):(encL rL_I_o l).map (fun e=>e.map (thawA D σ (d+1)))=encL rL_I l:=by
 simp only[encL,List.map_map]
 refine List.map_congr_left fun x _=>?_
 simp[thawA]
@[simp] theorem len_rL_I_o (x:(List Int)):(rL_I_o x).length=1:=rfl
end Go.Proofs.YtlcilhmkbmgkeaaGreatDoor
