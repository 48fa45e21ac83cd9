/- Crews: the program and the reference make, check and run them alike. -/
import Derived.Test.YtolmjhgondilhaaGreatNThE
import Derived.Test.YtolmjhgondilhaaGreatNCrP
import Derived.Test.YtolmjhgondilhaaGreatNOpJ
set_option linter.unusedSimpArgs false
set_option linter.unusedVariables false
set_option maxHeartbeats 8000000
namespace Go.Abs
open Go

theorem copy_loop {O β:Type}{step:Int×List β->Option (Flow (Int×List β) (List β))}(l:List O)(f:O->β)
  (h:∀k (hk:k<l.length),step ((k:Int),(l.take k).map f)=some (.next (((k+1:Nat):Int),(l.take (k+1)).map f))) (hd:step ((l.length:Int),l.map f)=some (.done (l.map f))):
  loopM step (0,[])=some (l.map f):=
 kW l.length (fun k=>((k:Int),(l.take k).map f)) (l.map f) (by simp) h (by simpa using hd)
theorem oC {O β:Type}(l:List O)(f:O->β)(k:Nat)(hk:k<l.length):(l.take (k+1)).map f=(l.take k).map f++[f l[k]]:=by
 rw[List.take_add_one,List.getElem?_eq_getElem hk,List.map_append]
 rfl
def nE (l:List (List gQuad)):Prop:=l.length<=1000/\∀x∈l,x.length<=1000
theorem cloneQ_id (l:List gQuad)(hl:l.length<=1000):kG l=some l:=by
 unfold kG
 rw[if_neg (by decide),kV 40 [] l (by simp;unfold maxLen;omega)];rfl
theorem codesCopy_id {l:List (List gQuad)}(h:nE l):tD l=some l:=by
 unfold tD
 rw[copy_loop (step:=wO l) l id (fun k hk=>?_) ?_,bS']
 .simp
 .unfold wO
  dsimp only
  rw[if_neg (by rw[zE,zC];omega)]
 .unfold wO
  dsimp only
  have:=h.1
  rw[if_pos (by rw[zE,zC];omega),zU (List.getElem?_eq_getElem hk),bS',cloneQ_id _ (h.2 _ (List.getElem_mem hk)),bS',kV 24 _ _ (by simp;unfold maxLen;omega),bS',iadd1 (by omega),oC l id k hk]
  rfl
theorem l24Codes_id {l:List (List gQuad)}(h:nE l):qU l=some l:=by
 unfold qU
 rw[copy_loop (step:=vS l) l id (fun k hk=>?_) ?_,bS']
 .simp
 .unfold vS
  dsimp only
  rw[if_neg (by rw[zE,zC];omega)]
 .unfold vS
  dsimp only
  have:=h.1
  have h2:=h.2 _ (List.getElem_mem hk)
  rw[if_pos (by rw[zE,zC];omega),zU (List.getElem?_eq_getElem hk),bS',kV 40 [] _ (by simp;unfold maxLen;omega),bS',kV 24 _ _ (by simp;unfold maxLen;omega),bS',iadd1 (by omega),oC l id k hk]
  rfl
def newB (l:List Int):List gBox:=l.map fun r=>⟨r,[]⟩
theorem boxesNew_val (l:List Int)(hl:l.length<=1000):tE l=some (newB l):=by
 unfold tE
 rw[copy_loop (step:=xX l) l (fun r=>(⟨r,[]⟩:gBox)) (fun k hk=>?_) ?_,bS']
 .rfl
 .unfold xX
  dsimp only
  rw[if_neg (by rw[zE,zC];omega)]
 .unfold xX
  dsimp only
  rw[if_pos (by rw[zE,zC];omega),zU (List.getElem?_eq_getElem hk),bS',kV 32 _ _ (by simp;unfold maxLen;omega),bS',iadd1 (by omega),oC l _ k hk]
theorem l16Empty_val (l:List Int)(hl:l.length<=1000):oP l=some (newB l):=by
 unfold oP
 rw[copy_loop (step:=vV l) l (fun r=>(⟨r,[]⟩:gBox)) (fun k hk=>?_) ?_,bS']
 .rfl
 .unfold vV
  dsimp only
  rw[if_neg (by rw[zE,zC];omega)]
 .unfold vV
  dsimp only
  rw[if_pos (by rw[zE,zC];omega),zU (List.getElem?_eq_getElem hk),bS',kV 32 _ _ (by simp;unfold maxLen;omega),bS',iadd1 (by omega),oC l _ k hk]
def yZ (l:List Int):Bool:=(l.all fun r=>decide (1<=r)&&decide (r<=4))&&decide (l.length<=3)
theorem roomsValid_val (l:List Int)(hl:l.length<=1000):xK l=some (yZ l):=by
 unfold xK
 have:=tN (step:=jD l) l (fun r=>decide (1<=r)&&decide (r<=4)) (.inl ()) (.inr false) (fun k hk=>?_) ?_
 .rw[this]
  unfold yZ
  have e:ile (ilen l) 3=decide (l.length<=3):=by rw[Bool.eq_iff_iff,hZ];unfold ilen;simp;omega
  cases l.all fun r=>decide (1<=r)&&decide (r<=4)<;>simp[e]
 .unfold jD
  dsimp only
  rw[if_pos (by rw[zE,zC];omega),zU (List.getElem?_eq_getElem hk),bS',if_or,bS',iadd1 (by omega)]
  by_cases hr:1<=l[k]/\l[k]<=4
  .rw[if_neg (by simp[ilt,igt];omega),if_pos (by simp[hr])]
  .rw[if_pos (by simp[ilt,igt];omega),if_neg (by simp;omega)]
 .unfold jD
  dsimp only
  rw[if_neg (by rw[zE,zC];omega)]
theorem l12Rooms_val (l:List Int)(hl:l.length<=1000):oS l=some (yZ l):=by
 unfold oS
 have:=tN (step:=vX l) l (fun r=>decide (1<=r)&&decide (r<=4)) (.inl ()) (.inr false) (fun k hk=>?_) ?_
 .rw[this]
  unfold yZ
  have e:ile (ilen l) 3=decide (l.length<=3):=by rw[Bool.eq_iff_iff,hZ];unfold ilen;simp;omega
  cases l.all fun r=>decide (1<=r)&&decide (r<=4)<;>simp[e]
 .unfold vX
  dsimp only
  rw[if_pos (by rw[zE,zC];omega),zU (List.getElem?_eq_getElem hk),bS',wU,bS',iadd1 (by omega)]
  by_cases hr:1<=l[k]/\l[k]<=4
  .rw[decide_eq_true hr,if_neg (by simp[bnot]),if_pos (by simp[hr])]
  .rw[decide_eq_false hr,if_pos (by simp[bnot]),if_neg (by simp;omega)]
 .unfold vX
  dsimp only
  rw[if_neg (by rw[zE,zC];omega)]
end Go.Abs

/- Crews: checked alike on both sides. -/
set_option linter.unusedSimpArgs false
set_option linter.unusedVariables false
set_option maxHeartbeats 8000000
namespace Go.Abs
open Go

noncomputable def tvB (t:gThread)(l:List gQuad):Bool:=(jN t l).getD false
theorem tv_val {t:gThread}{l:List gQuad}(ht:t.Regs.length<=4000000)(hl:l.length<=1000):xY t l=some (tvB t l)/\jN t l=some (tvB t l)/\(tvB t l=true<->zX false l/\Fit t l.length):=by
 obtain⟨v,hv,hv1⟩:=codeValid_any l (by omega)
 have e1:jN t l=some (v&&fitB t l.length):=by
  unfold jN
  rw[hv,sFits t l ht (by omega)]
  simp only[bS',yS,jQ]
 have e2:xY t l=some (v&&fitB t l.length):=by
  unfold xY
  rw[dD,hv,iFits t l ht]
  simp only[bS',yS,jQ]
 have e3:tvB t l=(v&&fitB t l.length):=by unfold tvB;rw[e1];rfl
 rw[e3]
 refine⟨e2,e1,?_⟩
 rw[Bool.and_eq_true,fitB_iff]
 constructor
 .rintro⟨rfl,h⟩;exact⟨hv1 rfl,h⟩
 .rintro⟨h1,h2⟩
  rw[kM h1] at hv
  cases hv
  exact⟨rfl,h2⟩
def talkB (m:Nat)(l:List gQuad):Bool:=l.all fun q=>decide (q.Op=6\/q.Op=7->q.N<m)
theorem talkB_iff (m:Nat)(l:List gQuad):talkB m l=true<->Talks l m:=by
 unfold talkB Talks
 simp only[List.all_eq_true,decide_eq_true_eq]
theorem l24Code_val (l:List gQuad)(m:Nat)(hl:l.length<=1000):fJ l m=some (talkB m l):=by
 unfold fJ talkB
 have:=tN (step:=tV l m) l (fun q=>decide (q.Op=6\/q.Op=7->q.N<m)) (.inl ()) (.inr false) (fun k hk=>?_) ?_
 .rw[this,bS']
  cases l.all fun q=>decide (q.Op=6\/q.Op=7->q.N<m)<;>rfl
 .unfold tV
  dsimp only
  rw[if_pos (by rw[zE,zC];omega),zU (List.getElem?_eq_getElem hk),bS',(there_val _ _).2,bS',iadd1 (by omega)]
  cases decide (l[k].Op=6\/l[k].Op=7->l[k].N<m)<;>rfl
 .unfold tV
  dsimp only
  rw[if_neg (by rw[zE,zC];omega)]
theorem crewL2_val (c:gCrew)(l:List gQuad)(hl:l.length<=1000):loopM (jW c l) 0=some (if talkB c.Boxes.length l=true then .inl () else .inr false):=by
 unfold talkB
 refine tN (step:=jW c l) l (fun q=>decide (q.Op=6\/q.Op=7->q.N<c.Boxes.length)) (.inl ()) (.inr false) (fun k hk=>?_) ?_
 .unfold jW
  dsimp only
  rw[if_pos (by rw[zE,zC];omega),zU (List.getElem?_eq_getElem hk),bS',zC c.Boxes,(there_val _ _).1,bS',iadd1 (by omega)]
  cases decide (l[k].Op=6\/l[k].Op=7->l[k].N<c.Boxes.length)<;>rfl
 .unfold jW
  dsimp only
  rw[if_neg (by rw[zE,zC];omega)]
noncomputable def memB (c:gCrew)(k:Nat):Bool:=match c.Codes[k]?,c.Threads[k]? with
 |some l,some t=>tvB t l&&talkB c.Boxes.length l
 |_,_=>false
def topB (c:gCrew):Bool:=decide ((1<=c.Codes.length/\c.Codes.length<=3)/\c.Threads.length=c.Codes.length/\(0<=c.Turn/\c.Turn<c.Codes.length)/\(0<=c.Idle/\c.Idle<=c.Codes.length))&&jC c.Boxes
noncomputable def crewB (c:gCrew):Bool:=topB c&&c.Out.all isW&&(List.range c.Codes.length).all (memB c)
structure SmallCr (c:gCrew):Prop where
 codes:nE c.Codes
 thr:c.Threads.length<=1000
 regs:∀t∈c.Threads,t.Regs.length<=1000
 box:c.Boxes.length<=1000
 items:∀b∈c.Boxes,b.Items.length<=1000
 out:c.Out.length<=1000000
section
variable {c:gCrew}
theorem SmallCr.mem (h:SmallCr c)(hl:c.Threads.length=c.Codes.length){k:Nat}(hk:k<c.Codes.length):∃l t,c.Codes[k]? =some l/\c.Threads[k]? =some t/\l.length<=1000/\t.Regs.length<=1000:=by
 have hk2:k<c.Threads.length:=by omega
 exact⟨_,_,List.getElem?_eq_getElem hk,List.getElem?_eq_getElem hk2,h.codes.2 _ (List.getElem_mem hk),h.regs _ (List.getElem_mem hk2)⟩
theorem dU (h:SmallCr c):xM c=some (crewB c):=by
 unfold xM nM
 rw[nZ _ (by have:=h.out;unfold maxLen;omega),i_boxesValid_val _ (by have:=h.box;omega) (fun b hb=>by have:=h.items b hb;omega)]
 simp only[jQ,if_or,bS',yS]
 by_cases hg:topB c=true/\c.Out.all isW=true
 .obtain⟨g1,g2⟩:=hg
  have g3:=g1
  simp only[topB,Bool.and_eq_true,decide_eq_true_eq] at g3
  obtain⟨⟨⟨q1,q2⟩,q3,⟨q4,q5⟩,q6,q7⟩,q8⟩:=g3
  have e0:(ige (ilen c.Codes) 1&&ile (ilen c.Codes) 3&&ige c.Turn 0&&ilt c.Turn (ilen c.Codes)&&ige c.Idle 0&&ile c.Idle (ilen c.Codes)&&c.Out.all isW)=true:=by
   rw[g2]
   simp only[zC,Bool.and_eq_true,tC,hZ,zE,and_true]
   omega
  have e1:ine (ilen c.Threads) (ilen c.Codes)=false:=by rw[Bool.eq_false_iff,ne_eq,xJ,zC,zC];omega
  rw[e0,e1,q8,if_neg (by simp[bnot])]
  have:=tN (step:=wP c) (List.range c.Codes.length) (memB c) (.inl ()) (.inr false) (fun k hk=>?_) ?_
  .rw[this,bS']
   unfold crewB
   rw[g1,g2]
   cases (List.range c.Codes.length).all (memB c)<;>rfl
  .rw[List.length_range] at hk
   obtain⟨l,t,a1,a2,a3,a4⟩:=h.mem q3 hk
   unfold wP
   dsimp only
   rw[if_pos (by rw[zE,zC];omega),zU a1,bS',zU a2,bS',(tv_val (by omega) a3).1,bS',iadd1 (by omega),crewL2_val c l a3,List.getElem_range]
   unfold memB
   rw[a1,a2]
   dsimp only
   rcases Bool.eq_false_or_eq_true (tvB t l) with hx|hx<;>rcases Bool.eq_false_or_eq_true (talkB c.Boxes.length l) with hy|hy<;>simp[hx,hy,bnot]
  .unfold wP
   dsimp only
   rw[List.length_range,if_neg (by rw[zE,zC];omega)]
 .have e:(bnot (ige (ilen c.Codes) 1&&ile (ilen c.Codes) 3&&ige c.Turn 0&&ilt c.Turn (ilen c.Codes)&&ige c.Idle 0&&ile c.Idle (ilen c.Codes)&&c.Out.all isW)||ine (ilen c.Threads) (ilen c.Codes)||bnot (jC c.Boxes))=true:=by
   refine Decidable.byContradiction fun hn=>hg ?_
   simp only[zC,Bool.not_eq_true,Bool.or_eq_false_iff,bnot,Bool.not_eq_false',Bool.and_eq_true,tC,hZ,zE] at hn
   obtain⟨⟨⟨⟨⟨⟨⟨⟨n1,n2⟩,n3⟩,n4⟩,n5⟩,n6⟩,n7⟩,n8⟩,n9⟩:=hn
   rw[Bool.eq_false_iff,ne_eq,xJ] at n8
   refine⟨?_,n7⟩
   simp only[topB,Bool.and_eq_true,decide_eq_true_eq]
   exact⟨⟨⟨by omega,by omega⟩,by omega,⟨n3,n4⟩,n5,n6⟩,n9⟩
  rw[e,if_pos rfl]
  have:crewB c=false:=by
   rw[Bool.eq_false_iff,ne_eq]
   intro hc
   unfold crewB at hc
   simp only[Bool.and_eq_true] at hc
   exact hg hc.1
  rw[this]
theorem sCrewValid (h:SmallCr c):wW c=some (crewB c):=by
 unfold wW
 rw[mM _ _ (by have:=h.out;unfold maxLen;omega),s_l15Boxes_val _ (by have:=h.box;omega) (fun b hb=>by have:=h.items b hb;omega)]
 simp only[jQ,if_or,bS',yS,wU]
 have hth:=h.thr
 by_cases g1:topB c=true
 .have g3:=g1
  simp only[topB,Bool.and_eq_true,decide_eq_true_eq] at g3
  obtain⟨⟨⟨q1,q2⟩,q3,⟨q4,q5⟩,q6,q7⟩,q8⟩:=g3
  have e1:ine (ilen c.Codes) (ilen c.Threads)=false:=by rw[Bool.eq_false_iff,ne_eq,xJ,zC,zC];omega
  have e2:isub .i64 (ilen c.Threads) 1=(c.Threads.length:Int)-1:=by rw[zC,yJ _ _ (by omega)]
  rw[e2,e1,q8,decide_eq_true (show(1:Int)<=ilen c.Threads/\ilen c.Threads<=3 by rw[zC];omega),decide_eq_true (show(0:Int)<=c.Turn/\c.Turn<=(c.Threads.length:Int)-1 by omega),decide_eq_true (show(0:Int)<=c.Idle/\c.Idle<=ilen c.Threads by rw[zC];omega),if_neg (by simp[bnot])]
  have:=tN (step:=wH c) (List.range c.Codes.length) (memB c) (.inl ()) (.inr false) (fun k hk=>?_) ?_
  .rw[this,bS']
   unfold crewB
   rw[g1]
   cases (List.range c.Codes.length).all (memB c)<;>simp[ilen]
  .rw[List.length_range] at hk
   obtain⟨l,t,a1,a2,a3,a4⟩:=h.mem q3 hk
   unfold wH
   dsimp only
   rw[if_pos (by rw[zE,zC];omega),zU a2,bS',zU a1,bS',(tv_val (by omega) a3).2.1,bS',iadd1 (by omega),zC,l24Code_val l _ a3,List.getElem_range]
   unfold memB
   rw[a1,a2]
   dsimp only
   rcases Bool.eq_false_or_eq_true (tvB t l) with hx|hx<;>rcases Bool.eq_false_or_eq_true (talkB c.Boxes.length l) with hy|hy<;>simp[hx,hy,bnot]
  .unfold wH
   dsimp only
   rw[List.length_range,if_neg (by rw[zE,zC];omega)]
 .have e:(bnot (decide ((1:Int)<=ilen c.Threads/\ilen c.Threads<=3))||ine (ilen c.Codes) (ilen c.Threads)||bnot (jC c.Boxes)||bnot (decide (0<=c.Turn/\c.Turn<=isub .i64 (ilen c.Threads) 1))||bnot (decide (0<=c.Idle/\c.Idle<=ilen c.Threads)))=true:=by
   refine Decidable.byContradiction fun hn=>g1 ?_
   simp only[Bool.not_eq_true,Bool.or_eq_false_iff,bnot,Bool.not_eq_false',decide_eq_true_eq] at hn
   obtain⟨⟨⟨⟨n1,n2⟩,n3⟩,n4⟩,n5⟩:=hn
   have e2:isub .i64 (ilen c.Threads) 1=(c.Threads.length:Int)-1:=by rw[zC,yJ _ _ (by omega)]
   rw[e2] at n4
   rw[zC] at n1 n5
   rw[zC,zC] at n2
   rw[Bool.eq_false_iff,ne_eq,xJ] at n2
   simp only[topB,Bool.and_eq_true,decide_eq_true_eq]
   exact⟨⟨⟨by omega,by omega⟩,by omega,⟨n4.1,by omega⟩,n5.1,by omega⟩,n3⟩
  rw[e,if_pos rfl]
  have:crewB c=false:=by
   rw[Bool.eq_false_iff,ne_eq]
   intro hc
   unfold crewB at hc
   simp only[Bool.and_eq_true] at hc
   exact g1 hc.1.1
  rw[this]
theorem xP (h:SmallCr c):crewB c=true<->CrewOk c:=by
 unfold crewB
 simp only[Bool.and_eq_true,topB,decide_eq_true_eq,List.all_eq_true,List.mem_range]
 constructor
 .rintro⟨⟨⟨⟨q1,q3,q4,q6⟩,q8⟩,hw⟩,hm⟩
  refine⟨q1,q3,q8,q4,q6,fun x hx=>(isW_iff x).1 (hw x hx),fun k l t e1 e2=>?_⟩
  have hk:=(List.getElem?_eq_some_iff.1 e1).1
  have:=hm k hk
  unfold memB at this
  rw[e1,e2] at this
  simp only[Bool.and_eq_true] at this
  have hl:=h.codes.2 l (List.mem_of_getElem? e1)
  have ht:=h.regs t (List.mem_of_getElem? e2)
  obtain⟨a1,a2⟩:=((tv_val (by omega) hl).2.2).1 this.1
  exact⟨a1,a2,(talkB_iff _ _).1 this.2⟩
 .intro hc
  refine⟨⟨⟨⟨hc.many,hc.same,hc.turn,hc.idle⟩,hc.box⟩,fun x hx=>(isW_iff x).2 (hc.out x hx)⟩,fun k hk=>?_⟩
  obtain⟨l,t,e1,e2,hl,ht⟩:=h.mem hc.same hk
  obtain⟨a1,a2,a3⟩:=hc.thr k l t e1 e2
  unfold memB
  rw[e1,e2]
  simp only[Bool.and_eq_true]
  exact⟨((tv_val (by omega) hl).2.2).2 ⟨a1,a2⟩,(talkB_iff _ _).2 a3⟩
end
end Go.Abs

/- Crews: run alike on both sides. -/
set_option linter.unusedSimpArgs false
set_option linter.unusedVariables false
set_option maxHeartbeats 8000000
namespace Go.Abs
open Go

theorem kind_in {l:List gQuad}{t:gThread}{bx:List gBox}{q:gQuad}(h:Can l t bx q):(thrP q t bx).2.2.2=1\/(thrP q t bx).2.2.2=2\/(thrP q t bx).2.2.2=3\/(thrP q t bx).2.2.2=4:=by
 refine h.cases (P:=fun r=>r.2.2.2=1\/r.2.2.2=2\/r.2.2.2=3\/r.2.2.2=4) ?_ ?_ ?_ ?_ ?_ ?_ ?_ ?_ ?_ ?_ ?_<;>intros<;>first|(simp;done)|(split<;>simp)
theorem nextTurn_val {m t i k:Int}(hm:1<=m/\m<=3)(ht:0<=t/\t<m)(hi:0<=i/\i<m)(hk:k=1\/k=2\/k=3\/k=4):
  qW m t i k=some ((nextT m t i k).1,(nextT m t i k).2,true)/\xV m t i k=some ((nextT m t i k).1,(nextT m t i k).2,true):=by
 have e1:remx (iadd .i64 t 1) m=some ((t+1) % m):=by rw[zV _ _ (by omega),remx_eq _ _ (by omega) (by omega)]
 have e2:iadd .i64 i 1=i+1:=zV _ _ (by omega)
 have g1:(ilt m 1||igt m 3||ilt t 0||ige t m||ilt i 0||ige i m)=false:=by
  rw[Bool.eq_false_iff,ne_eq]
  simp only[Bool.or_eq_true,zE,yK,tC]
  omega
 have g2:(bnot (decide (1<=m/\m<=3))||bnot (decide (0<=t/\t<=m-1))||bnot (decide (0<=i/\i<=m-1)))=false:=by
  rw[decide_eq_true hm,decide_eq_true (show 0<=t/\t<=m-1 by omega),decide_eq_true (show 0<=i/\i<=m-1 by omega)]
  rfl
 have e3:isub .i64 m 1=m-1:=yJ _ _ (by omega)
 unfold qW xV nextT
 simp only[wU,if_or,bS',e3,g1,g2,Bool.false_eq_true,if_false,e1,e2,ieq_d]
 rcases hk with rfl|rfl|rfl|rfl<;>simp
def strip (c:gCrew):gCrew:=⟨c.Codes,c.Threads,c.Boxes,0,0,c.Out⟩
section
variable {c:gCrew}
theorem crewN_rest (hi:¬c.Idle<c.Codes.length)(n:Nat):crewN n c=c:=by
 induction n with
 |zero=>rfl
 |succ n ih=>show crewN n (crewS c)=c;rw[vH hi,ih]
theorem crewS_out (h:CrewOk c):(crewS c).Out.length<=c.Out.length+1:=by
 by_cases hi:c.Idle<c.Codes.length
 .obtain⟨l,t,q,h1,h2,h3,h4,h5⟩:=h.now
  rw[wQ hi h1 h2 h3]
  have:(thrP q t c.Boxes).2.2.1.length<=1:=by
   refine h4.cases (P:=fun r=>r.2.2.1.length<=1) ?_ ?_ ?_ ?_ ?_ ?_ ?_ ?_ ?_ ?_ ?_<;>intros<;>first|(simp;done)|(split<;>simp)
  simp only[crewG,List.length_append]
  omega
 .rw[vH hi];omega
theorem nF {O:Type}{l:List O}{x:O}{n:Int}(h0:0<=n)(h:l[n.toNat]? =some x):idx l n=some x:=by
 have:=zU h
 rwa [Int.toNat_of_nonneg h0] at this
theorem iRun1 (h:CrewOk c)(hi:c.Idle<c.Codes.length)(ho:c.Out.length<=1000000):∃k,pZ c.Turn (strip c)=some (k,strip (crewS c))/\qW c.Codes.length c.Turn c.Idle k=some ((crewS c).Turn,(crewS c).Idle,true):=by
 obtain⟨l,t,q,h1,h2,h3,h4,h5⟩:=h.now
 have h0:=h.turn.1
 have hn:=nextTurn_val (m:=c.Codes.length) (t:=c.Turn) (i:=c.Idle) (k:=(thrP q t c.Boxes).2.2.2) (by have:=h.many;omega) h.turn ⟨h.idle.1,hi⟩ (kind_in h4)
 rw[wQ hi h1 h2 h3]
 refine⟨(thrP q t c.Boxes).2.2.2,?_,hn.1⟩
 unfold pZ strip
 dsimp only
 rw[nF h0 h2,bS',nF h0 h1,bS',thread_step h4 ho,bS',sN _ (nF h0 h2)]
 rfl
theorem sStep (h:CrewOk c)(hi:c.Idle<c.Codes.length)(ho:c.Out.length<=1000000):wE c=some (crewS c):=by
 obtain⟨l,t,q,h1,h2,h3,h4,h5⟩:=h.now
 have h0:=h.turn.1
 have hn:=nextTurn_val (m:=c.Codes.length) (t:=c.Turn) (i:=c.Idle) (k:=(thrP q t c.Boxes).2.2.2) (by have:=h.many;omega) h.turn ⟨h.idle.1,hi⟩ (kind_in h4)
 have hlen:ilen (c.Threads.set c.Turn.toNat (thrP q t c.Boxes).1)=(c.Codes.length:Int):=by rw[zC];simp[h.same]
 have hp:(thrP q t c.Boxes).2.2.1.length<=1:=by
  refine h4.cases (P:=fun r=>r.2.2.1.length<=1) ?_ ?_ ?_ ?_ ?_ ?_ ?_ ?_ ?_ ?_ ?_<;>intros<;>first|(simp;done)|(split<;>simp)
 rw[wQ hi h1 h2 h3]
 unfold wE
 rw[nF h0 h2,bS',nF h0 h1,bS',h4.idx,bS',l23Step h4,bS',sN _ (nF h0 h2),bS',kV 8 _ _ (by unfold maxLen;omega),bS',hlen,hn.2]
 rfl
theorem turns_val (n:Nat):∀{c:gCrew},CrewOk c->n<=200000->c.Out.length+n<=1000000->
  loopM (zW (c.Codes.length:Int)) ((n:Int),c.Turn,c.Idle,strip c)=some (.inl ((crewN n c).Turn,(crewN n c).Idle,strip (crewN n c))):=by
 induction n with
 |zero=>
  intro c h _ _
  refine xW ?_
  unfold zW
  dsimp only
  rw[if_neg (by simp[igt]),bS',if_neg (by simp)]
  rfl
 |succ n ih=>
  intro c h hn ho
  by_cases hi:c.Idle<c.Codes.length
  .obtain⟨k,e1,e2⟩:=iRun1 h hi (by omega)
   have hs:=crewS_out h
   have:=ih h.step (by omega) (by omega)
   rw[gE] at this
   rw[mB (s':=((n:Int),(crewS c).Turn,(crewS c).Idle,strip (crewS c))) ?_]
   .exact this
   unfold zW
   dsimp only
   rw[if_pos (by rw[yK];omega),bS',if_pos (by rw[zE];exact hi),e1,bS',e2,bS',if_neg (by simp[bnot]),yJ _ _ (by omega)]
   simp
  .rw[crewN_rest hi]
   refine xW ?_
   unfold zW
   dsimp only
   rw[if_pos (by rw[yK];omega),bS',if_neg (by rw[zE];exact hi)]
theorem iThreads (h:SmallCr c)(d z:gCrew)(hd:d.Threads=[]):loopM (sJ c) (0,z,d)=some (z,⟨d.Codes,c.Threads,d.Boxes,d.Turn,d.Idle,d.Out⟩):=by
 have hth:=h.thr
 refine kW c.Threads.length (fun k=>((k:Int),z,(⟨d.Codes,c.Threads.take k,d.Boxes,d.Turn,d.Idle,d.Out⟩:gCrew))) _ ?_ (fun k hk=>?_) ?_
 .simp[<- hd]
 .unfold sJ
  dsimp only
  rw[if_pos (by rw[zE,zC];omega),zU (List.getElem?_eq_getElem hk),bS',clone_o_eq,clone_id _ (by have:=h.regs _ (List.getElem_mem hk);omega),bS',kV 32 _ _ (by simp;unfold maxLen;omega),bS',iadd1 (by omega),List.take_add_one,List.getElem?_eq_getElem hk]
  rfl
 .unfold sJ
  dsimp only
  rw[if_neg (by rw[zE,zC];omega),List.take_length]
theorem sThreads (h:SmallCr c)(d z:gCrew)(hd:d.Threads=[]):loopM (yP c) (0,z,d)=some (z,⟨d.Codes,c.Threads,d.Boxes,d.Turn,d.Idle,d.Out⟩):=by
 have hth:=h.thr
 refine kW c.Threads.length (fun k=>((k:Int),z,(⟨d.Codes,c.Threads.take k,d.Boxes,d.Turn,d.Idle,d.Out⟩:gCrew))) _ ?_ (fun k hk=>?_) ?_
 .simp[<- hd]
 .unfold yP jJ
  dsimp only
  rw[if_pos (by rw[zE,zC];omega),zU (List.getElem?_eq_getElem hk),bS',sM _ (by have:=h.regs _ (List.getElem_mem hk);omega),bS',bS',kV 32 _ _ (by simp;unfold maxLen;omega),bS',iadd1 (by omega),List.take_add_one,List.getElem?_eq_getElem hk]
  rfl
 .unfold yP
  dsimp only
  rw[if_neg (by rw[zE,zC];omega),List.take_length]
def zeroC:gCrew:=⟨[],[],[],0,0,[]⟩
theorem iRun_val (h:SmallCr c)(n:Int)(ho:c.Out.length<=800000):yQ c n=some (if crewB c=true/\0<=n/\n<=100000 then(crewN n.toNat c,true) else(zeroC,false)):=by
 unfold yQ
 rw[dU h]
 simp only[if_or,bS']
 by_cases hg:crewB c=true/\0<=n/\n<=100000
 .obtain⟨g1,g2,g3⟩:=hg
  have hc:=(xP h).1 g1
  rw[if_pos (c:=crewB c=true/\0<=n/\n<=100000) ⟨g1,g2,g3⟩,g1,if_neg (by simp[bnot,ilt,igt];omega),codesCopy_id h.codes,bS',boxesCopy_o_eq,i_boxesCopy_id _ (by have:=h.box;omega) (fun b hb=>by have:=h.items b hb;omega),bS',clone_o_eq,clone_id _ (by omega),bS',iThreads h _ _ rfl,bS']
  dsimp only
  have hm:ilen c.Threads=(c.Codes.length:Int):=by rw[zC,hc.same]
  have ht:=turns_val n.toNat hc (by omega) (by omega)
  rw[Int.toNat_of_nonneg g2] at ht
  unfold kR
  rw[hm]
  unfold strip at ht
  rw[ht]
  rfl
 .rw[if_neg (c:=crewB c=true/\0<=n/\n<=100000) hg]
  have:(bnot (crewB c)||ilt n 0||igt n 100000)=true:=by
   refine Decidable.byContradiction fun hn=>hg ?_
   simp only[Bool.not_eq_true,Bool.or_eq_false_iff,bnot,Bool.not_eq_false'] at hn
   obtain⟨⟨n1,n2⟩,n3⟩:=hn
   rw[Bool.eq_false_iff,ne_eq,zE] at n2
   rw[Bool.eq_false_iff,ne_eq,yK] at n3
   exact⟨n1,by omega,by omega⟩
  rw[this,if_pos rfl]
  rfl
theorem sTurns (m:Nat)(z:gCrew):∀(k i:Nat) {c:gCrew},k+i=m->CrewOk c->m<=200000->c.Out.length+k<=1000000->loopM (jE (m:Int)) ((i:Int),z,c)=some (z,crewN k c):=by
 intro k
 induction k with
 |zero=>
  intro i c hk h _ _
  refine xW ?_
  unfold jE
  dsimp only
  rw[if_neg (by rw[zE];omega),bS',if_neg (by simp)]
  rfl
 |succ k ih=>
  intro i c hk h hm ho
  have hlen:ilen c.Threads=(c.Codes.length:Int):=by rw[zC,h.same]
  by_cases hi:c.Idle<c.Codes.length
  .have hs:=crewS_out h
   rw[mB (s':=(((i+1:Nat):Int),z,crewS c)) ?_]
   .exact ih (i+1) (by omega) h.step hm (by omega)
   unfold jE
   dsimp only
   rw[if_pos (by rw[zE];omega),bS',if_pos (by rw[zE,hlen];exact hi),sStep h hi (by omega),bS',iadd1 (by omega)]
  .rw[crewN_rest hi]
   refine xW ?_
   unfold jE
   dsimp only
   rw[if_pos (by rw[zE];omega),bS',if_neg (by rw[zE,hlen];exact hi)]
theorem sRun_val (h:SmallCr c)(n:Int)(ho:c.Out.length<=800000):jA c n=some (if crewB c=true/\0<=n/\n<=100000 then(crewN n.toNat c,true) else(zeroC,false)):=by
 unfold jA
 rw[sCrewValid h]
 simp only[if_or,bS',wU]
 by_cases hg:crewB c=true/\0<=n/\n<=100000
 .obtain⟨g1,g2⟩:=hg
  have hc:=(xP h).1 g1
  rw[if_pos (c:=crewB c=true/\0<=n/\n<=100000) ⟨g1,g2⟩,g1,decide_eq_true g2,if_neg (by simp[bnot])]
  unfold yT
  rw[l24Codes_id h.codes,bS',oQ _ (by have:=h.box;omega) (fun b hb=>by have:=h.items b hb;omega),bS',sM _ (by omega),bS',bS',sThreads h _ _ rfl,bS',bS']
  dsimp only
  have ht:=sTurns n.toNat ⟨[],[],[],0,0,[]⟩ n.toNat 0 (by omega) hc (by omega) (by omega)
  rw[Int.toNat_of_nonneg g2.1] at ht
  rw[show((0:Nat):Int)=0 from rfl] at ht
  rw[ht]
  rfl
 .rw[if_neg (c:=crewB c=true/\0<=n/\n<=100000) hg]
  have:(bnot (crewB c)||bnot (decide (0<=n/\n<=100000)))=true:=by
   refine Decidable.byContradiction fun hn=>hg ?_
   simp only[Bool.not_eq_true,Bool.or_eq_false_iff,bnot,Bool.not_eq_false',decide_eq_true_eq] at hn
   exact hn
  rw[this,if_pos rfl]
  rfl
end
end Go.Abs

/- Crews: made alike on both sides. -/
set_option linter.unusedSimpArgs false
set_option linter.unusedVariables false
set_option maxHeartbeats 8000000
namespace Go.Abs
open Go

def thr0:gThread:=⟨List.replicate 12 0,0⟩
def crew0 (rooms:List Int)(codes:List (List gQuad)):gCrew:=⟨codes,List.replicate codes.length thr0,newB rooms,0,0,[]⟩
theorem mk12:makex 8 12 (0:Int)=some (List.replicate 12 0):=by
 unfold makex
 rw[if_pos (by unfold maxLen;omega)]
 rfl
theorem rep_snoc {O:Type}(k:Nat)(x:O):List.replicate k x++[x]=List.replicate (k+1) x:=by
 rw[List.replicate_succ']
theorem iNewL (codes:List (List gQuad))(hl:codes.length<=1000)(d z:gCrew)(hd:d.Threads=[]):loopM (vG codes) (0,z,d)=some (z,⟨d.Codes,List.replicate codes.length thr0,d.Boxes,d.Turn,d.Idle,d.Out⟩):=by
 refine kW codes.length (fun k=>((k:Int),z,(⟨d.Codes,List.replicate k thr0,d.Boxes,d.Turn,d.Idle,d.Out⟩:gCrew))) _ ?_ (fun k hk=>?_) ?_
 .simp[<- hd]
 .unfold vG
  dsimp only
  rw[if_pos (by rw[zE,zC];omega),mk12,bS',kV 32 _ _ (by simp;unfold maxLen;omega),bS',iadd1 (by omega),<- rep_snoc k thr0]
  rfl
 .unfold vG
  dsimp only
  rw[if_neg (by rw[zE,zC];omega)]
theorem sNewL (codes:List (List gQuad))(hl:codes.length<=1000)(d z:gCrew)(hd:d.Threads=[]):loopM (sC codes) (0,z,d)=some (z,⟨d.Codes,List.replicate codes.length thr0,d.Boxes,d.Turn,d.Idle,d.Out⟩):=by
 refine kW codes.length (fun k=>((k:Int),z,(⟨d.Codes,List.replicate k thr0,d.Boxes,d.Turn,d.Idle,d.Out⟩:gCrew))) _ ?_ (fun k hk=>?_) ?_
 .simp[<- hd]
 .unfold sC
  dsimp only
  rw[if_pos (by rw[zE,zC];omega),mk12,bS',kV 32 _ _ (by simp;unfold maxLen;omega),bS',iadd1 (by omega),<- rep_snoc k thr0]
  rfl
 .unfold sC
  dsimp only
  rw[if_neg (by rw[zE,zC];omega)]
theorem small0 {rooms:List Int}{codes:List (List gQuad)}(hr:rooms.length<=1000)(hc:nE codes):SmallCr (crew0 rooms codes):=by
 refine⟨hc,by simp[crew0,hc.1],fun t ht=>?_,by simp[crew0,newB,hr],fun b hb=>?_,by simp[crew0]⟩
 .simp only[crew0,List.mem_replicate] at ht
  rw[ht.2];simp[thr0]
 .simp only[crew0,newB,List.mem_map] at hb
  obtain⟨r,_,rfl⟩:=hb
  simp
theorem iNew_val {rooms:List Int}{codes:List (List gQuad)}(hr:rooms.length<=1000)(hc:nE codes):xO rooms codes=some (if yZ rooms=true/\crewB (crew0 rooms codes)=true then(crew0 rooms codes,true) else(zeroC,false)):=by
 unfold xO
 rw[codesCopy_id hc,bS',boxesNew_val rooms hr,bS',iNewL codes hc.1 _ _ rfl,bS']
 dsimp only
 rw[roomsValid_val rooms hr]
 have:=dU (small0 hr hc)
 unfold crew0 at this ⊢
 rw[this]
 simp only[if_or,bS']
 rcases Bool.eq_false_or_eq_true (yZ rooms) with hx|hx<;>rcases Bool.eq_false_or_eq_true (crewB (crew0 rooms codes)) with hy|hy<;>(have hy':=hy;unfold crew0 at hy';simp[hx,hy',bnot,zeroC])
theorem sNew_val {rooms:List Int}{codes:List (List gQuad)}(hr:rooms.length<=1000)(hc:nE codes):uB rooms codes=some (if yZ rooms=true/\crewB (crew0 rooms codes)=true then(crew0 rooms codes,true) else(zeroC,false)):=by
 unfold uB
 rw[l12Rooms_val rooms hr,bS']
 rcases Bool.eq_false_or_eq_true (yZ rooms) with hx|hx
 .rw[hx,if_neg (by simp[bnot]),l24Codes_id hc,bS',bS',l16Empty_val rooms hr,bS',sNewL codes hc.1 _ _ rfl,bS']
  dsimp only
  have:=sCrewValid (small0 hr hc)
  unfold crew0 at this ⊢
  rw[this,bS']
  rcases Bool.eq_false_or_eq_true (crewB (crew0 rooms codes)) with hy|hy<;>(have hy':=hy;unfold crew0 at hy';simp[hy',bnot,zeroC])
 .rw[hx,if_pos (by rfl)]
  simp[zeroC]
end Go.Abs

/- Crews that are compared with themselves; what is drawn for a new crew. -/
set_option linter.unusedSimpArgs false
set_option linter.unusedVariables false
set_option maxHeartbeats 8000000
namespace Go.Abs
open Go

theorem jI (l:List Int)(hl:l.length<=2000000):jV l l=some true:=by
 unfold jV
 rw[if_neg (by simp[ine])]
 have:=kW (step:=uH l l) (s0:=(0:Int)) l.length (fun k=>(k:Int)) (.inl ()) rfl (fun k hk=>?_) ?_
 .rw[this];rfl
 .unfold uH
  dsimp only
  rw[if_pos (by rw[zE];unfold ilen;omega),zU (List.getElem?_eq_getElem hk)]
  simp only[bS']
  rw[if_neg (by simp[ine]),zV _ _ (by omega)]
  rfl
 .unfold uH
  dsimp only
  rw[if_neg (by rw[zE];unfold ilen;omega)]
theorem sameThread_refl (t:gThread)(h:t.Regs.length<=1000000):sF t t=some true:=by
 unfold sF
 rw[if_pos (by simp[ieq]),jI _ (by omega)]
 rfl
theorem sameBox_refl (b:gBox)(h:b.Items.length<=1000000):fY b b=some true:=by
 unfold fY
 rw[if_pos (by simp[ieq]),jI _ (by omega)]
 rfl
theorem dZ (l:List gBox)(hl:l.length<=1000000)(hi:∀b∈l,b.Items.length<=1000000):pQ l l=some true:=by
 unfold pQ
 rw[if_neg (by simp[ine])]
 have:=kW (step:=wM l l) (s0:=(0:Int)) l.length (fun k=>(k:Int)) (.inl ()) rfl (fun k hk=>?_) ?_
 .rw[this];rfl
 .unfold wM
  dsimp only
  rw[if_pos (by rw[zE];unfold ilen;omega),zU (List.getElem?_eq_getElem hk)]
  simp only[bS',sameBox_refl _ (hi _ (List.getElem_mem hk))]
  rw[show bnot true=false from rfl,if_neg (by decide),zV _ _ (by omega)]
  rfl
 .unfold wM
  dsimp only
  rw[if_neg (by rw[zE];unfold ilen;omega)]
theorem sameCode_refl (l:List gQuad)(hl:l.length<=1000000):mC l l=some true:=by
 unfold mC
 rw[if_neg (by simp[ine])]
 have:=kW (step:=uI l l) (s0:=(0:Int)) l.length (fun k=>(k:Int)) (.inl ()) rfl (fun k hk=>?_) ?_
 .rw[this];rfl
 .unfold uI
  dsimp only
  rw[if_pos (by rw[zE];unfold ilen;omega),zU (List.getElem?_eq_getElem hk)]
  simp only[bS']
  rw[if_neg (by simp[eqD,bnot]),zV _ _ (by omega)]
  rfl
 .unfold uI
  dsimp only
  rw[if_neg (by rw[zE];unfold ilen;omega)]
theorem dY (l:List (List gQuad))(h:nE l):tB l l=some true:=by
 have hl:=h.1
 unfold tB
 rw[if_neg (by simp[ine])]
 have:=kW (step:=wL l l) (s0:=(0:Int)) l.length (fun k=>(k:Int)) (.inl ()) rfl (fun k hk=>?_) ?_
 .rw[this];rfl
 .unfold wL
  dsimp only
  rw[if_pos (by rw[zE];unfold ilen;omega),zU (List.getElem?_eq_getElem hk)]
  simp only[bS',sameCode_refl l[k] (by have:=h.2 _ (List.getElem_mem hk);omega)]
  rw[show bnot true=false from rfl,if_neg (by decide),zV _ _ (by omega)]
  rfl
 .unfold wL
  dsimp only
  rw[if_neg (by rw[zE];unfold ilen;omega)]
theorem sameTalk_refl (c:gCrew)(h:SmallCr c):jU c c=some true:=by
 have hl:=h.thr
 unfold jU
 rw[if_neg (by simp[ine]),bS',if_neg (by simp[ine]),bS',if_neg (by simp[ine])]
 have:=kW (step:=yX c c) (s0:=(0:Int)) c.Threads.length (fun k=>(k:Int)) (.inl ()) rfl (fun k hk=>?_) ?_
 .rw[this,bS']
  dsimp only
  rw[dZ _ (by have:=h.box;omega) (fun b hb=>by have:=h.items b hb;omega),bS',if_pos rfl,jI _ (by have:=h.out;omega)]
  rfl
 .unfold yX
  dsimp only
  rw[if_pos (by rw[zE];unfold ilen;omega),zU (List.getElem?_eq_getElem hk)]
  simp only[bS']
  rw[if_neg (by simp[ine]),zV _ _ (by omega)]
  rfl
 .unfold yX
  dsimp only
  rw[if_neg (by rw[zE];unfold ilen;omega)]
theorem sameState_refl (c:gCrew)(h:SmallCr c):pN c c=some true:=by
 have hl:=h.thr
 unfold pN
 rw[if_neg (by simp[ine])]
 have:=kW (step:=wI c c) (s0:=(0:Int)) c.Threads.length (fun k=>(k:Int)) (.inl ()) rfl (fun k hk=>?_) ?_
 .rw[this,bS']
  dsimp only
  rw[sameTalk_refl c h]
  rfl
 .unfold wI
  dsimp only
  rw[if_pos (by rw[zE];unfold ilen;omega),zU (List.getElem?_eq_getElem hk)]
  simp only[bS',sameThread_refl c.Threads[k] (by have:=h.regs _ (List.getElem_mem hk);omega)]
  rw[show bnot true=false from rfl,if_neg (by decide),zV _ _ (by omega)]
  rfl
 .unfold wI
  dsimp only
  rw[if_neg (by rw[zE];unfold ilen;omega)]
theorem xS (c:gCrew)(h:SmallCr c):kJ c c=some true:=by
 unfold kJ
 rw[dY _ h.codes,bS',if_pos rfl,sameState_refl c h]
 rfl
end Go.Abs

/- What is drawn for a new crew. -/
set_option linter.unusedSimpArgs false
set_option linter.unusedVariables false
set_option maxHeartbeats 8000000
namespace Go.Abs
open Go

section
variable {b:List Int} (hb:Bytes b) (hl:b.length<=1048576)
include hb hl
theorem Ok.codes {k:Int}{r:gL6Rd}(hr:Rd b k r)(hk:k<=100000):Ok (xE r) (fun q=>Rd b (k+250000) q.2/\(1<=q.1.length/\q.1.length<=3)/\∀x∈q.1,zX true x):=by
 unfold xE
 refine Ok.bind (Ok.pick hb hl hr (by decide) (by omega)) fun q1 h1=>?_
 have e1:iadd .i64 1 q1.1=1+q1.1:=zV _ _ (by omega)
 refine Ok.bind (P:=fun e:gL6Rd×List (List gQuad)=>Rd b (k+250000) e.1/\(e.2.length:Int)=1+q1.1/\∀x∈e.2,zX true x) ?_ fun e he=>Ok.pure ⟨he.1,by have:=he.2.1;simp only;omega,he.2.2⟩
 refine Ok.loop (fun s=>∃i:Nat,s.1=(i:Int)/\(i:Int)<=1+q1.1/\Rd b (k+1+81000*i) s.2.1/\s.2.2.length=i/\∀x∈s.2.2,zX true x) (fun s=>(1+q1.1-s.1).toNat) _ ⟨0,rfl,by omega,h1.1.le (by omega),rfl,by simp⟩ ?_
 rintro⟨i',rd,l⟩ ⟨i,h2,h3,h4,h5,h6⟩
 simp only at h2 h3 h4 h5 h6
 subst h2
 unfold vL
 dsimp only
 rw[e1,iadd1 (by omega)]
 refine Ok.ite (fun h=>?_) fun h=>?_
 .rw[zE] at h
  refine Ok.bind (Ok.good hb hl h4 (by omega)) fun q2 k2=>?_
  refine Ok.bind (Ok.app (by simp;omega)) fun l2 k3=>Ok.pure ⟨⟨i+1,rfl,by omega,k2.1.le (by push_cast;omega),by rw[k3];simp[h5],?_⟩,by simp only;omega⟩
  intro x hx
  rw[k3] at hx
  rcases List.mem_append.1 hx with hx|hx
  .exact h6 x hx
  .simp at hx;subst hx;exact k2.2
 .rw[zE] at h
  exact Ok.pure ⟨h4.le (by omega),by simp only;omega,h6⟩
end
theorem nN {l:List gQuad}{Z:Bool}(h:zX Z l):l.length<=1000:=by have:=h.1.2;omega
theorem Ok.drawCN {l:List Int}(hb:Bytes l)(hl:l.length<=1048576):Ok (yE l) (fun r=>r.1.length<=2/\nE r.2):=by
 unfold yE
 refine Ok.bind (Ok.open hb hl) fun r1 h1=>?_
 obtain⟨b,hb,hl,hr⟩:=h1
 refine Ok.bind (Ok.pick hb hl hr (by decide) (by omega)) fun r2 h2=>?_
 refine Ok.bind (Ok.pick hb hl h2.1 (by decide) (by omega)) fun r3 h3=>?_
 rw[bS']
 refine Ok.bind (Ok.codes hb hl h3.1 (by omega)) fun r5 h5=>?_
 refine Ok.bind (Ok.pick hb hl h5.1 (by decide) (by omega)) fun r6 h6=>?_
 have hs:nE r5.1:=⟨by have:=h5.2.1;omega,fun x hx=>nN (h5.2.2 x hx)⟩
 refine Ok.ite (fun _=>Ok.pure ⟨by simp,hs⟩) fun _=>Ok.ite (fun _=>?_) fun _=>Ok.ite (fun _=>?_) fun _=>Ok.pure ⟨by simp,hs⟩
 .refine Ok.bind (Ok.idx (by simp)) fun v _=>Ok.bind (Ok.set (by simp)) fun l8 e=>Ok.pure ⟨by rw[e];simp,hs⟩
 .refine Ok.bind (Ok.app (by have:=h5.2.1;simp;omega)) fun l9 e=>Ok.pure ⟨by simp,?_⟩
  rw[e]
  refine⟨by have:=h5.2.1;simp;omega,fun x hx=>?_⟩
  rcases List.mem_append.1 hx with hx|hx
  .exact hs.2 x hx
  .simp at hx;rw[hx];simp
end Go.Abs
