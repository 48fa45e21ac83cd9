/- Crews: the program and the reference make, check and run them alike. -/
import Derived.Test.YtolmjhgondilhaaGreatNThM
import Derived.Test.YtolmjhgondilhaaGreatNOpJ
set_option linter.unusedSimpArgs false
set_option linter.unusedVariables false
set_option maxHeartbeats 8000000
namespace Go.Abs
open Go

theorem copy_loop {O β:Type}{step:Int×List β->Option (Flow (Int×List β) (List β))}(l:List O)(f:O->β)
  (h:∀k (hk:k<l.length),step ((k:Int),(l.take k).map f)=some (.next (((k+1:Nat):Int),(l.take (k+1)).map f))) (hd:step ((l.length:Int),l.map f)=some (.done (l.map f))):
  loopM step (0,[])=some (l.map f):=
 yC l.length (fun k=>((k:Int),(l.take k).map f)) (l.map f) (by simp) h (by simpa using hd)
theorem take_snoc {O β:Type}(l:List O)(f:O->β)(k:Nat)(hk:k<l.length):(l.take (k+1)).map f=(l.take k).map f++[f l[k]]:=by
 rw[List.take_add_one,List.getElem?_eq_getElem hk,List.map_append]
 rfl
def SmallC (l:List (List gQuad)):Prop:=l.length<=1000/\∀x∈l,x.length<=1000
theorem cloneQ_id (l:List gQuad)(hl:l.length<=1000):zZ l=some l:=by
 unfold zZ
 rw[if_neg (by decide),kS 40 [] l (by simp;unfold maxLen;omega)];rfl
theorem codesCopy_id {l:List (List gQuad)}(h:SmallC l):tZ l=some l:=by
 unfold tZ
 rw[copy_loop (step:=xD l) l id (fun k hk=>?_) ?_,bS']
 .simp
 .unfold xD
  dsimp only
  rw[if_neg (by rw[zD,zF];omega)]
 .unfold xD
  dsimp only
  have:=h.1
  rw[if_pos (by rw[zD,zF];omega),zV (List.getElem?_eq_getElem hk),bS',cloneQ_id _ (h.2 _ (List.getElem_mem hk)),bS',kS 24 _ _ (by simp;unfold maxLen;omega),bS',iadd1 (by omega),take_snoc l id k hk]
  rfl
theorem l24Codes_id {l:List (List gQuad)}(h:SmallC l):tB l=some l:=by
 unfold tB
 rw[copy_loop (step:=wD l) l id (fun k hk=>?_) ?_,bS']
 .simp
 .unfold wD
  dsimp only
  rw[if_neg (by rw[zD,zF];omega)]
 .unfold wD
  dsimp only
  have:=h.1
  have h2:=h.2 _ (List.getElem_mem hk)
  rw[if_pos (by rw[zD,zF];omega),zV (List.getElem?_eq_getElem hk),bS',kS 40 [] _ (by simp;unfold maxLen;omega),bS',kS 24 _ _ (by simp;unfold maxLen;omega),bS',iadd1 (by omega),take_snoc l id k hk]
  rfl
def newB (l:List Int):List gBox:=l.map fun r=>⟨r,[]⟩
theorem l16Empty_val (l:List Int)(hl:l.length<=1000):pC l=some (newB l):=by
 unfold pC
 rw[copy_loop (step:=wF l) l (fun r=>(⟨r,[]⟩:gBox)) (fun k hk=>?_) ?_,bS']
 .rfl
 .unfold wF
  dsimp only
  rw[if_neg (by rw[zD,zF];omega)]
 .unfold wF
  dsimp only
  rw[if_pos (by rw[zD,zF];omega),zV (List.getElem?_eq_getElem hk),bS',kS 32 _ _ (by simp;unfold maxLen;omega),bS',iadd1 (by omega),take_snoc l _ k hk]
def dU (l:List Int):Bool:=(l.all fun r=>decide (1<=r)&&decide (r<=4))&&decide (l.length<=3)
theorem l12Rooms_val (l:List Int)(hl:l.length<=1000):pF l=some (dU l):=by
 unfold pF
 have:=uY (step:=wH l) l (fun r=>decide (1<=r)&&decide (r<=4)) (.inl ()) (.inr false) (fun k hk=>?_) ?_
 .rw[this]
  unfold dU
  have e:ile (ilen l) 3=decide (l.length<=3):=by rw[Bool.eq_iff_iff,dV];unfold ilen;simp;omega
  cases l.all fun r=>decide (1<=r)&&decide (r<=4)<;>simp[e]
 .unfold wH
  dsimp only
  rw[if_pos (by rw[zD,zF];omega),zV (List.getElem?_eq_getElem hk),bS',xJ,bS',iadd1 (by omega)]
  by_cases hr:1<=l[k]/\l[k]<=4
  .rw[decide_eq_true hr,if_neg (by simp[bnot]),if_pos (by simp[hr])]
  .rw[decide_eq_false hr,if_pos (by simp[bnot]),if_neg (by simp;omega)]
 .unfold wH
  dsimp only
  rw[if_neg (by rw[zD,zF];omega)]
end Go.Abs

/- Crews: checked alike on both sides. -/
set_option linter.unusedSimpArgs false
set_option linter.unusedVariables false
set_option maxHeartbeats 8000000
namespace Go.Abs
open Go

noncomputable def tvB (t:gThread)(l:List gQuad):Bool:=(yT t l).getD false
theorem tv_val {t:gThread}{l:List gQuad}(ht:t.Regs.length<=4000000)(hl:l.length<=1000):yV t l=some (tvB t l)/\yT t l=some (tvB t l)/\(tvB t l=true<->kH false l/\Fit t l.length):=by
 obtain⟨v,hv,hv1⟩:=codeValid_any l (by omega)
 have e1:yT t l=some (v&&fitB t l.length):=by
  unfold yT
  rw[hv,sFits t l ht (by omega)]
  simp only[bS',yF,jK]
 have e2:yV t l=some (v&&fitB t l.length):=by
  unfold yV
  rw[codeValid_eq,hv,iFits t l ht]
  simp only[bS',yF,jK]
 have e3:tvB t l=(v&&fitB t l.length):=by unfold tvB;rw[e1];rfl
 rw[e3]
 refine⟨e2,e1,?_⟩
 rw[Bool.and_eq_true,fitB_iff]
 constructor
 .rintro⟨rfl,h⟩;exact⟨hv1 rfl,h⟩
 .rintro⟨h1,h2⟩
  rw[kM h1] at hv
  cases hv
  exact⟨rfl,h2⟩
def talkB (m:Nat)(l:List gQuad):Bool:=l.all fun q=>decide (q.Op=6\/q.Op=7->q.N<m)
theorem talkB_iff (m:Nat)(l:List gQuad):talkB m l=true<->Talks l m:=by
 unfold talkB Talks
 simp only[List.all_eq_true,decide_eq_true_eq]
theorem l24Code_val (l:List gQuad)(m:Nat)(hl:l.length<=1000):oY l m=some (talkB m l):=by
 unfold oY talkB
 have:=uY (step:=vV l m) l (fun q=>decide (q.Op=6\/q.Op=7->q.N<m)) (.inl ()) (.inr false) (fun k hk=>?_) ?_
 .rw[this,bS']
  cases l.all fun q=>decide (q.Op=6\/q.Op=7->q.N<m)<;>rfl
 .unfold vV
  dsimp only
  rw[if_pos (by rw[zD,zF];omega),zV (List.getElem?_eq_getElem hk),bS',(there_val _ _).2,bS',iadd1 (by omega)]
  cases decide (l[k].Op=6\/l[k].Op=7->l[k].N<m)<;>rfl
 .unfold vV
  dsimp only
  rw[if_neg (by rw[zD,zF];omega)]
theorem crewL2_val (c:gCrew)(l:List gQuad)(hl:l.length<=1000):loopM (yZ c l) 0=some (if talkB c.Boxes.length l=true then .inl () else .inr false):=by
 unfold talkB
 refine uY (step:=yZ c l) l (fun q=>decide (q.Op=6\/q.Op=7->q.N<c.Boxes.length)) (.inl ()) (.inr false) (fun k hk=>?_) ?_
 .unfold yZ
  dsimp only
  rw[if_pos (by rw[zD,zF];omega),zV (List.getElem?_eq_getElem hk),bS',zF c.Boxes,(there_val _ _).1,bS',iadd1 (by omega)]
  cases decide (l[k].Op=6\/l[k].Op=7->l[k].N<c.Boxes.length)<;>rfl
 .unfold yZ
  dsimp only
  rw[if_neg (by rw[zD,zF];omega)]
noncomputable def memB (c:gCrew)(k:Nat):Bool:=match c.Codes[k]?,c.Threads[k]? with
 |some l,some t=>tvB t l&&talkB c.Boxes.length l
 |_,_=>false
def topB (c:gCrew):Bool:=decide ((1<=c.Codes.length/\c.Codes.length<=3)/\c.Threads.length=c.Codes.length/\(0<=c.Turn/\c.Turn<c.Codes.length)/\(0<=c.Idle/\c.Idle<=c.Codes.length))&&yM c.Boxes
noncomputable def crewB (c:gCrew):Bool:=topB c&&c.Out.all isW&&(List.range c.Codes.length).all (memB c)
structure SmallCr (c:gCrew):Prop where
 codes:SmallC c.Codes
 thr:c.Threads.length<=1000
 regs:∀t∈c.Threads,t.Regs.length<=1000
 box:c.Boxes.length<=1000
 items:∀b∈c.Boxes,b.Items.length<=1000
 out:c.Out.length<=1000000
section
variable {c:gCrew}
theorem SmallCr.mem (h:SmallCr c)(hl:c.Threads.length=c.Codes.length){k:Nat}(hk:k<c.Codes.length):∃l t,c.Codes[k]? =some l/\c.Threads[k]? =some t/\l.length<=1000/\t.Regs.length<=1000:=by
 have hk2:k<c.Threads.length:=by omega
 exact⟨_,_,List.getElem?_eq_getElem hk,List.getElem?_eq_getElem hk2,h.codes.2 _ (List.getElem_mem hk),h.regs _ (List.getElem_mem hk2)⟩
theorem iCrewValid (h:SmallCr c):sB c=some (crewB c):=by
 unfold sB sO
 rw[sZ _ (by have:=h.out;unfold maxLen;omega),oC _ (by have:=h.box;omega) (fun b hb=>by have:=h.items b hb;omega)]
 simp only[jK,if_or,bS',yF]
 by_cases hg:topB c=true/\c.Out.all isW=true
 .obtain⟨g1,g2⟩:=hg
  have g3:=g1
  simp only[topB,Bool.and_eq_true,decide_eq_true_eq] at g3
  obtain⟨⟨⟨q1,q2⟩,q3,⟨q4,q5⟩,q6,q7⟩,q8⟩:=g3
  have e0:(ige (ilen c.Codes) 1&&ile (ilen c.Codes) 3&&ige c.Turn 0&&ilt c.Turn (ilen c.Codes)&&ige c.Idle 0&&ile c.Idle (ilen c.Codes)&&c.Out.all isW)=true:=by
   rw[g2]
   simp only[zF,Bool.and_eq_true,mR,dV,zD,and_true]
   omega
  have e1:ine (ilen c.Threads) (ilen c.Codes)=false:=by rw[Bool.eq_false_iff,ne_eq,wS,zF,zF];omega
  rw[e0,e1,q8,if_neg (by simp[bnot])]
  have:=uY (step:=xF c) (List.range c.Codes.length) (memB c) (.inl ()) (.inr false) (fun k hk=>?_) ?_
  .rw[this,bS']
   unfold crewB
   rw[g1,g2]
   cases (List.range c.Codes.length).all (memB c)<;>rfl
  .rw[List.length_range] at hk
   obtain⟨l,t,a1,a2,a3,a4⟩:=h.mem q3 hk
   unfold xF
   dsimp only
   rw[if_pos (by rw[zD,zF];omega),zV a1,bS',zV a2,bS',(tv_val (by omega) a3).1,bS',iadd1 (by omega),crewL2_val c l a3,List.getElem_range]
   unfold memB
   rw[a1,a2]
   dsimp only
   rcases Bool.eq_false_or_eq_true (tvB t l) with hx|hx<;>rcases Bool.eq_false_or_eq_true (talkB c.Boxes.length l) with hy|hy<;>simp[hx,hy,bnot]
  .unfold xF
   dsimp only
   rw[List.length_range,if_neg (by rw[zD,zF];omega)]
 .have e:(bnot (ige (ilen c.Codes) 1&&ile (ilen c.Codes) 3&&ige c.Turn 0&&ilt c.Turn (ilen c.Codes)&&ige c.Idle 0&&ile c.Idle (ilen c.Codes)&&c.Out.all isW)||ine (ilen c.Threads) (ilen c.Codes)||bnot (yM c.Boxes))=true:=by
   refine Decidable.byContradiction fun hn=>hg ?_
   simp only[zF,Bool.not_eq_true,Bool.or_eq_false_iff,bnot,Bool.not_eq_false',Bool.and_eq_true,mR,dV,zD] at hn
   obtain⟨⟨⟨⟨⟨⟨⟨⟨n1,n2⟩,n3⟩,n4⟩,n5⟩,n6⟩,n7⟩,n8⟩,n9⟩:=hn
   rw[Bool.eq_false_iff,ne_eq,wS] at n8
   refine⟨?_,n7⟩
   simp only[topB,Bool.and_eq_true,decide_eq_true_eq]
   exact⟨⟨⟨by omega,by omega⟩,by omega,⟨n3,n4⟩,n5,n6⟩,n9⟩
  rw[e,if_pos rfl]
  have:crewB c=false:=by
   rw[Bool.eq_false_iff,ne_eq]
   intro hc
   unfold crewB at hc
   simp only[Bool.and_eq_true] at hc
   exact hg hc.1
  rw[this]
theorem sCrewValid (h:SmallCr c):xM c=some (crewB c):=by
 unfold xM
 rw[nC _ _ (by have:=h.out;unfold maxLen;omega),s_l15Boxes_val _ (by have:=h.box;omega) (fun b hb=>by have:=h.items b hb;omega)]
 simp only[jK,if_or,bS',yF,xJ]
 have hth:=h.thr
 by_cases g1:topB c=true
 .have g3:=g1
  simp only[topB,Bool.and_eq_true,decide_eq_true_eq] at g3
  obtain⟨⟨⟨q1,q2⟩,q3,⟨q4,q5⟩,q6,q7⟩,q8⟩:=g3
  have e1:ine (ilen c.Codes) (ilen c.Threads)=false:=by rw[Bool.eq_false_iff,ne_eq,wS,zF,zF];omega
  have e2:isub .i64 (ilen c.Threads) 1=(c.Threads.length:Int)-1:=by rw[zF,yI _ _ (by omega)]
  rw[e2,e1,q8,decide_eq_true (show(1:Int)<=ilen c.Threads/\ilen c.Threads<=3 by rw[zF];omega),decide_eq_true (show(0:Int)<=c.Turn/\c.Turn<=(c.Threads.length:Int)-1 by omega),decide_eq_true (show(0:Int)<=c.Idle/\c.Idle<=ilen c.Threads by rw[zF];omega),if_neg (by simp[bnot])]
  have:=uY (step:=jX c) (List.range c.Codes.length) (memB c) (.inl ()) (.inr false) (fun k hk=>?_) ?_
  .rw[this,bS']
   unfold crewB
   rw[g1]
   cases (List.range c.Codes.length).all (memB c)<;>simp[ilen]
  .rw[List.length_range] at hk
   obtain⟨l,t,a1,a2,a3,a4⟩:=h.mem q3 hk
   unfold jX
   dsimp only
   rw[if_pos (by rw[zD,zF];omega),zV a2,bS',zV a1,bS',(tv_val (by omega) a3).2.1,bS',iadd1 (by omega),zF,l24Code_val l _ a3,List.getElem_range]
   unfold memB
   rw[a1,a2]
   dsimp only
   rcases Bool.eq_false_or_eq_true (tvB t l) with hx|hx<;>rcases Bool.eq_false_or_eq_true (talkB c.Boxes.length l) with hy|hy<;>simp[hx,hy,bnot]
  .unfold jX
   dsimp only
   rw[List.length_range,if_neg (by rw[zD,zF];omega)]
 .have e:(bnot (decide ((1:Int)<=ilen c.Threads/\ilen c.Threads<=3))||ine (ilen c.Codes) (ilen c.Threads)||bnot (yM c.Boxes)||bnot (decide (0<=c.Turn/\c.Turn<=isub .i64 (ilen c.Threads) 1))||bnot (decide (0<=c.Idle/\c.Idle<=ilen c.Threads)))=true:=by
   refine Decidable.byContradiction fun hn=>g1 ?_
   simp only[Bool.not_eq_true,Bool.or_eq_false_iff,bnot,Bool.not_eq_false',decide_eq_true_eq] at hn
   obtain⟨⟨⟨⟨n1,n2⟩,n3⟩,n4⟩,n5⟩:=hn
   have e2:isub .i64 (ilen c.Threads) 1=(c.Threads.length:Int)-1:=by rw[zF,yI _ _ (by omega)]
   rw[e2] at n4
   rw[zF] at n1 n5
   rw[zF,zF] at n2
   rw[Bool.eq_false_iff,ne_eq,wS] at n2
   simp only[topB,Bool.and_eq_true,decide_eq_true_eq]
   exact⟨⟨⟨by omega,by omega⟩,by omega,⟨n4.1,by omega⟩,n5.1,by omega⟩,n3⟩
  rw[e,if_pos rfl]
  have:crewB c=false:=by
   rw[Bool.eq_false_iff,ne_eq]
   intro hc
   unfold crewB at hc
   simp only[Bool.and_eq_true] at hc
   exact g1 hc.1.1
  rw[this]
theorem fZ (h:SmallCr c):crewB c=true<->CrewOk c:=by
 unfold crewB
 simp only[Bool.and_eq_true,topB,decide_eq_true_eq,List.all_eq_true,List.mem_range]
 constructor
 .rintro⟨⟨⟨⟨q1,q3,q4,q6⟩,q8⟩,hw⟩,hm⟩
  refine⟨q1,q3,q8,q4,q6,fun x hx=>(fA x).1 (hw x hx),fun k l t e1 e2=>?_⟩
  have hk:=(List.getElem?_eq_some_iff.1 e1).1
  have:=hm k hk
  unfold memB at this
  rw[e1,e2] at this
  simp only[Bool.and_eq_true] at this
  have hl:=h.codes.2 l (List.mem_of_getElem? e1)
  have ht:=h.regs t (List.mem_of_getElem? e2)
  obtain⟨a1,a2⟩:=((tv_val (by omega) hl).2.2).1 this.1
  exact⟨a1,a2,(talkB_iff _ _).1 this.2⟩
 .intro hc
  refine⟨⟨⟨⟨hc.many,hc.same,hc.turn,hc.idle⟩,hc.box⟩,fun x hx=>(fA x).2 (hc.out x hx)⟩,fun k hk=>?_⟩
  obtain⟨l,t,e1,e2,hl,ht⟩:=h.mem hc.same hk
  obtain⟨a1,a2,a3⟩:=hc.thr k l t e1 e2
  unfold memB
  rw[e1,e2]
  simp only[Bool.and_eq_true]
  exact⟨((tv_val (by omega) hl).2.2).2 ⟨a1,a2⟩,(talkB_iff _ _).2 a3⟩
end
end Go.Abs

/- Crews: run alike on both sides. -/
set_option linter.unusedSimpArgs false
set_option linter.unusedVariables false
set_option maxHeartbeats 8000000
namespace Go.Abs
open Go

theorem kind_in {l:List gQuad}{t:gThread}{bx:List gBox}{q:gQuad}(h:Can l t bx q):(thrP q t bx).2.2.2=1\/(thrP q t bx).2.2.2=2\/(thrP q t bx).2.2.2=3\/(thrP q t bx).2.2.2=4:=by
 refine h.cases (P:=fun r=>r.2.2.2=1\/r.2.2.2=2\/r.2.2.2=3\/r.2.2.2=4) ?_ ?_ ?_ ?_ ?_ ?_ ?_ ?_ ?_ ?_ ?_<;>intros<;>first|(simp;done)|(split<;>simp)
theorem mN {m t i k:Int}(hm:1<=m/\m<=3)(ht:0<=t/\t<m)(hi:0<=i/\i<m)(hk:k=1\/k=2\/k=3\/k=4):
  vH m t i k=some ((nextT m t i k).1,(nextT m t i k).2,true)/\pG m t i k=some ((nextT m t i k).1,(nextT m t i k).2,true):=by
 have e1:remx (iadd .i64 t 1) m=some ((t+1) % m):=by rw[zS _ _ (by omega),remx_eq _ _ (by omega) (by omega)]
 have e2:iadd .i64 i 1=i+1:=zS _ _ (by omega)
 have g1:(ilt m 1||igt m 3||ilt t 0||ige t m||ilt i 0||ige i m)=false:=by
  rw[Bool.eq_false_iff,ne_eq]
  simp only[Bool.or_eq_true,zD,jJ,mR]
  omega
 have g2:(bnot (decide (1<=m/\m<=3))||bnot (decide (0<=t/\t<=m-1))||bnot (decide (0<=i/\i<=m-1)))=false:=by
  rw[decide_eq_true hm,decide_eq_true (show 0<=t/\t<=m-1 by omega),decide_eq_true (show 0<=i/\i<=m-1 by omega)]
  rfl
 have e3:isub .i64 m 1=m-1:=yI _ _ (by omega)
 unfold vH pG nextT
 simp only[xJ,if_or,bS',e3,g1,g2,Bool.false_eq_true,if_false,e1,e2,ieq_d]
 rcases hk with rfl|rfl|rfl|rfl<;>simp
def strip (c:gCrew):gCrew:=⟨c.Codes,c.Threads,c.Boxes,0,0,c.Out⟩
section
variable {c:gCrew}
theorem crewN_rest (hi:¬c.Idle<c.Codes.length)(n:Nat):crewN n c=c:=by
 induction n with
 |zero=>rfl
 |succ n ih=>show crewN n (crewS c)=c;rw[vI hi,ih]
theorem crewS_out (h:CrewOk c):(crewS c).Out.length<=c.Out.length+1:=by
 by_cases hi:c.Idle<c.Codes.length
 .obtain⟨l,t,q,h1,h2,h3,h4,h5⟩:=h.now
  rw[uF hi h1 h2 h3]
  have:(thrP q t c.Boxes).2.2.1.length<=1:=by
   refine h4.cases (P:=fun r=>r.2.2.1.length<=1) ?_ ?_ ?_ ?_ ?_ ?_ ?_ ?_ ?_ ?_ ?_<;>intros<;>first|(simp;done)|(split<;>simp)
  simp only[crewG,List.length_append]
  omega
 .rw[vI hi];omega
theorem uN {O:Type}{l:List O}{x:O}{n:Int}(h0:0<=n)(h:l[n.toNat]? =some x):idx l n=some x:=by
 have:=zV h
 rwa [Int.toNat_of_nonneg h0] at this
theorem iRun1 (h:CrewOk c)(hi:c.Idle<c.Codes.length)(ho:c.Out.length<=1000000):∃k,sC c.Turn (strip c)=some (k,strip (crewS c))/\vH c.Codes.length c.Turn c.Idle k=some ((crewS c).Turn,(crewS c).Idle,true):=by
 obtain⟨l,t,q,h1,h2,h3,h4,h5⟩:=h.now
 have h0:=h.turn.1
 have hn:=mN (m:=c.Codes.length) (t:=c.Turn) (i:=c.Idle) (k:=(thrP q t c.Boxes).2.2.2) (by have:=h.many;omega) h.turn ⟨h.idle.1,hi⟩ (kind_in h4)
 rw[uF hi h1 h2 h3]
 refine⟨(thrP q t c.Boxes).2.2.2,?_,hn.1⟩
 unfold sC strip
 dsimp only
 rw[uN h0 h2,bS',uN h0 h1,bS',thread_step h4 ho,bS',pY _ (uN h0 h2)]
 rfl
theorem sStep (h:CrewOk c)(hi:c.Idle<c.Codes.length)(ho:c.Out.length<=1000000):pB c=some (crewS c):=by
 obtain⟨l,t,q,h1,h2,h3,h4,h5⟩:=h.now
 have h0:=h.turn.1
 have hn:=mN (m:=c.Codes.length) (t:=c.Turn) (i:=c.Idle) (k:=(thrP q t c.Boxes).2.2.2) (by have:=h.many;omega) h.turn ⟨h.idle.1,hi⟩ (kind_in h4)
 have hlen:ilen (c.Threads.set c.Turn.toNat (thrP q t c.Boxes).1)=(c.Codes.length:Int):=by rw[zF];simp[h.same]
 have hp:(thrP q t c.Boxes).2.2.1.length<=1:=by
  refine h4.cases (P:=fun r=>r.2.2.1.length<=1) ?_ ?_ ?_ ?_ ?_ ?_ ?_ ?_ ?_ ?_ ?_<;>intros<;>first|(simp;done)|(split<;>simp)
 rw[uF hi h1 h2 h3]
 unfold pB
 rw[uN h0 h2,bS',uN h0 h1,bS',h4.idx,bS',l23Step h4,bS',pY _ (uN h0 h2),bS',kS 8 _ _ (by unfold maxLen;omega),bS',hlen,hn.2]
 rfl
theorem turns_val (n:Nat):∀{c:gCrew},CrewOk c->n<=200000->c.Out.length+n<=1000000->
  loopM (zT (c.Codes.length:Int)) ((n:Int),c.Turn,c.Idle,strip c)=some (.inl ((crewN n c).Turn,(crewN n c).Idle,strip (crewN n c))):=by
 induction n with
 |zero=>
  intro c h _ _
  refine jR ?_
  unfold zT
  dsimp only
  rw[if_neg (by simp[igt]),bS',if_neg (by simp)]
  rfl
 |succ n ih=>
  intro c h hn ho
  by_cases hi:c.Idle<c.Codes.length
  .obtain⟨k,e1,e2⟩:=iRun1 h hi (by omega)
   have hs:=crewS_out h
   have:=ih h.step (by omega) (by omega)
   rw[fC] at this
   rw[pP (s':=((n:Int),(crewS c).Turn,(crewS c).Idle,strip (crewS c))) ?_]
   .exact this
   unfold zT
   dsimp only
   rw[if_pos (by rw[jJ];omega),bS',if_pos (by rw[zD];exact hi),e1,bS',e2,bS',if_neg (by simp[bnot]),yI _ _ (by omega)]
   simp
  .rw[crewN_rest hi]
   refine jR ?_
   unfold zT
   dsimp only
   rw[if_pos (by rw[jJ];omega),bS',if_neg (by rw[zD];exact hi)]
theorem iThreads (h:SmallCr c)(d z:gCrew)(hd:d.Threads=[]):loopM (uE c) (0,z,d)=some (z,⟨d.Codes,c.Threads,d.Boxes,d.Turn,d.Idle,d.Out⟩):=by
 have hth:=h.thr
 refine yC c.Threads.length (fun k=>((k:Int),z,(⟨d.Codes,c.Threads.take k,d.Boxes,d.Turn,d.Idle,d.Out⟩:gCrew))) _ ?_ (fun k hk=>?_) ?_
 .simp[<- hd]
 .unfold uE
  dsimp only
  rw[if_pos (by rw[zD,zF];omega),zV (List.getElem?_eq_getElem hk),bS',dY,clone_id _ (by have:=h.regs _ (List.getElem_mem hk);omega),bS',kS 32 _ _ (by simp;unfold maxLen;omega),bS',iadd1 (by omega),List.take_add_one,List.getElem?_eq_getElem hk]
  rfl
 .unfold uE
  dsimp only
  rw[if_neg (by rw[zD,zF];omega),List.take_length]
theorem sThreads (h:SmallCr c)(d z:gCrew)(hd:d.Threads=[]):loopM (jE c) (0,z,d)=some (z,⟨d.Codes,c.Threads,d.Boxes,d.Turn,d.Idle,d.Out⟩):=by
 have hth:=h.thr
 refine yC c.Threads.length (fun k=>((k:Int),z,(⟨d.Codes,c.Threads.take k,d.Boxes,d.Turn,d.Idle,d.Out⟩:gCrew))) _ ?_ (fun k hk=>?_) ?_
 .simp[<- hd]
 .unfold jE xL
  dsimp only
  rw[if_pos (by rw[zD,zF];omega),zV (List.getElem?_eq_getElem hk),bS',uI _ (by have:=h.regs _ (List.getElem_mem hk);omega),bS',bS',kS 32 _ _ (by simp;unfold maxLen;omega),bS',iadd1 (by omega),List.take_add_one,List.getElem?_eq_getElem hk]
  rfl
 .unfold jE
  dsimp only
  rw[if_neg (by rw[zD,zF];omega),List.take_length]
def zeroC:gCrew:=⟨[],[],[],0,0,[]⟩
theorem iRun_val (h:SmallCr c)(n:Int)(ho:c.Out.length<=800000):sD c n=some (if crewB c=true/\0<=n/\n<=100000 then(crewN n.toNat c,true) else(zeroC,false)):=by
 unfold sD
 rw[iCrewValid h]
 simp only[if_or,bS']
 by_cases hg:crewB c=true/\0<=n/\n<=100000
 .obtain⟨g1,g2,g3⟩:=hg
  have hc:=(fZ h).1 g1
  rw[if_pos (c:=crewB c=true/\0<=n/\n<=100000) ⟨g1,g2,g3⟩,g1,if_neg (by simp[bnot,ilt,igt];omega),codesCopy_id h.codes,bS',gN,gL _ (by have:=h.box;omega) (fun b hb=>by have:=h.items b hb;omega),bS',dY,clone_id _ (by omega),bS',iThreads h _ _ rfl,bS']
  dsimp only
  have hm:ilen c.Threads=(c.Codes.length:Int):=by rw[zF,hc.same]
  have ht:=turns_val n.toNat hc (by omega) (by omega)
  rw[Int.toNat_of_nonneg g2] at ht
  unfold kK
  rw[hm]
  unfold strip at ht
  rw[ht]
  rfl
 .rw[if_neg (c:=crewB c=true/\0<=n/\n<=100000) hg]
  have:(bnot (crewB c)||ilt n 0||igt n 100000)=true:=by
   refine Decidable.byContradiction fun hn=>hg ?_
   simp only[Bool.not_eq_true,Bool.or_eq_false_iff,bnot,Bool.not_eq_false'] at hn
   obtain⟨⟨n1,n2⟩,n3⟩:=hn
   rw[Bool.eq_false_iff,ne_eq,zD] at n2
   rw[Bool.eq_false_iff,ne_eq,jJ] at n3
   exact⟨n1,by omega,by omega⟩
  rw[this,if_pos rfl]
  rfl
theorem sTurns (m:Nat)(z:gCrew):∀(k i:Nat) {c:gCrew},k+i=m->CrewOk c->m<=200000->c.Out.length+k<=1000000->loopM (xR (m:Int)) ((i:Int),z,c)=some (z,crewN k c):=by
 intro k
 induction k with
 |zero=>
  intro i c hk h _ _
  refine jR ?_
  unfold xR
  dsimp only
  rw[if_neg (by rw[zD];omega),bS',if_neg (by simp)]
  rfl
 |succ k ih=>
  intro i c hk h hm ho
  have hlen:ilen c.Threads=(c.Codes.length:Int):=by rw[zF,h.same]
  by_cases hi:c.Idle<c.Codes.length
  .have hs:=crewS_out h
   rw[pP (s':=(((i+1:Nat):Int),z,crewS c)) ?_]
   .exact ih (i+1) (by omega) h.step hm (by omega)
   unfold xR
   dsimp only
   rw[if_pos (by rw[zD];omega),bS',if_pos (by rw[zD,hlen];exact hi),sStep h hi (by omega),bS',iadd1 (by omega)]
  .rw[crewN_rest hi]
   refine jR ?_
   unfold xR
   dsimp only
   rw[if_pos (by rw[zD];omega),bS',if_neg (by rw[zD,hlen];exact hi)]
theorem sRun_val (h:SmallCr c)(n:Int)(ho:c.Out.length<=800000):tT c n=some (if crewB c=true/\0<=n/\n<=100000 then(crewN n.toNat c,true) else(zeroC,false)):=by
 unfold tT
 rw[sCrewValid h]
 simp only[if_or,bS',xJ]
 by_cases hg:crewB c=true/\0<=n/\n<=100000
 .obtain⟨g1,g2⟩:=hg
  have hc:=(fZ h).1 g1
  rw[if_pos (c:=crewB c=true/\0<=n/\n<=100000) ⟨g1,g2⟩,g1,decide_eq_true g2,if_neg (by simp[bnot])]
  unfold vU
  rw[l24Codes_id h.codes,bS',pD _ (by have:=h.box;omega) (fun b hb=>by have:=h.items b hb;omega),bS',uI _ (by omega),bS',bS',sThreads h _ _ rfl,bS',bS']
  dsimp only
  have ht:=sTurns n.toNat ⟨[],[],[],0,0,[]⟩ n.toNat 0 (by omega) hc (by omega) (by omega)
  rw[Int.toNat_of_nonneg g2.1] at ht
  rw[show((0:Nat):Int)=0 from rfl] at ht
  rw[ht]
  rfl
 .rw[if_neg (c:=crewB c=true/\0<=n/\n<=100000) hg]
  have:(bnot (crewB c)||bnot (decide (0<=n/\n<=100000)))=true:=by
   refine Decidable.byContradiction fun hn=>hg ?_
   simp only[Bool.not_eq_true,Bool.or_eq_false_iff,bnot,Bool.not_eq_false',decide_eq_true_eq] at hn
   exact hn
  rw[this,if_pos rfl]
  rfl
end
end Go.Abs

/- Crews: made alike on both sides. -/
set_option linter.unusedSimpArgs false
set_option linter.unusedVariables false
set_option maxHeartbeats 8000000
namespace Go.Abs
open Go

def thr0:gThread:=⟨List.replicate 12 0,0⟩
def crew0 (rooms:List Int)(codes:List (List gQuad)):gCrew:=⟨codes,List.replicate codes.length thr0,newB rooms,0,0,[]⟩
theorem mk12:makex 8 12 (0:Int)=some (List.replicate 12 0):=by
 unfold makex
 rw[if_pos (by unfold maxLen;omega)]
 rfl
theorem rep_snoc {O:Type}(k:Nat)(x:O):List.replicate k x++[x]=List.replicate (k+1) x:=by
 rw[List.replicate_succ']
theorem sNewL (codes:List (List gQuad))(hl:codes.length<=1000)(d z:gCrew)(hd:d.Threads=[]):loopM (uA codes) (0,z,d)=some (z,⟨d.Codes,List.replicate codes.length thr0,d.Boxes,d.Turn,d.Idle,d.Out⟩):=by
 refine yC codes.length (fun k=>((k:Int),z,(⟨d.Codes,List.replicate k thr0,d.Boxes,d.Turn,d.Idle,d.Out⟩:gCrew))) _ ?_ (fun k hk=>?_) ?_
 .simp[<- hd]
 .unfold uA
  dsimp only
  rw[if_pos (by rw[zD,zF];omega),mk12,bS',kS 32 _ _ (by simp;unfold maxLen;omega),bS',iadd1 (by omega),<- rep_snoc k thr0]
  rfl
 .unfold uA
  dsimp only
  rw[if_neg (by rw[zD,zF];omega)]
theorem small0 {rooms:List Int}{codes:List (List gQuad)}(hr:rooms.length<=1000)(hc:SmallC codes):SmallCr (crew0 rooms codes):=by
 refine⟨hc,by simp[crew0,hc.1],fun t ht=>?_,by simp[crew0,newB,hr],fun b hb=>?_,by simp[crew0]⟩
 .simp only[crew0,List.mem_replicate] at ht
  rw[ht.2];simp[thr0]
 .simp only[crew0,newB,List.mem_map] at hb
  obtain⟨r,_,rfl⟩:=hb
  simp
theorem sNew_val {rooms:List Int}{codes:List (List gQuad)}(hr:rooms.length<=1000)(hc:SmallC codes):mI rooms codes=some (if dU rooms=true/\crewB (crew0 rooms codes)=true then(crew0 rooms codes,true) else(zeroC,false)):=by
 unfold mI
 rw[l12Rooms_val rooms hr,bS']
 rcases Bool.eq_false_or_eq_true (dU rooms) with hx|hx
 .rw[hx,if_neg (by simp[bnot]),l24Codes_id hc,bS',bS',l16Empty_val rooms hr,bS',sNewL codes hc.1 _ _ rfl,bS']
  dsimp only
  have:=sCrewValid (small0 hr hc)
  unfold crew0 at this ⊢
  rw[this,bS']
  rcases Bool.eq_false_or_eq_true (crewB (crew0 rooms codes)) with hy|hy<;>(have hy':=hy;unfold crew0 at hy';simp[hy',bnot,zeroC])
 .rw[hx,if_pos (by rfl)]
  simp[zeroC]
end Go.Abs

/- Crews that are compared with themselves; what is drawn for a new crew. -/
set_option linter.unusedSimpArgs false
set_option linter.unusedVariables false
set_option maxHeartbeats 8000000
namespace Go.Abs
open Go

theorem uO (l:List Int)(hl:l.length<=2000000):xS l l=some true:=by
 unfold xS
 rw[if_neg (by simp[ine])]
 have:=yC (step:=wO l l) (s0:=(0:Int)) l.length (fun k=>(k:Int)) (.inl ()) rfl (fun k hk=>?_) ?_
 .rw[this];rfl
 .unfold wO
  dsimp only
  rw[if_pos (by rw[zD];unfold ilen;omega),zV (List.getElem?_eq_getElem hk)]
  simp only[bS']
  rw[if_neg (by simp[ine]),zS _ _ (by omega)]
  rfl
 .unfold wO
  dsimp only
  rw[if_neg (by rw[zD];unfold ilen;omega)]
theorem tG (t:gThread)(h:t.Regs.length<=1000000):jI t t=some true:=by
 unfold jI
 rw[if_pos (by simp[ieq]),uO _ (by omega)]
 rfl
theorem sameBox_refl (b:gBox)(h:b.Items.length<=1000000):mP b b=some true:=by
 unfold mP
 rw[if_pos (by simp[ieq]),uO _ (by omega)]
 rfl
theorem gG (l:List gBox)(hl:l.length<=1000000)(hi:∀b∈l,b.Items.length<=1000000):vE l l=some true:=by
 unfold vE
 rw[if_neg (by simp[ine])]
 have:=yC (step:=xC l l) (s0:=(0:Int)) l.length (fun k=>(k:Int)) (.inl ()) rfl (fun k hk=>?_) ?_
 .rw[this];rfl
 .unfold xC
  dsimp only
  rw[if_pos (by rw[zD];unfold ilen;omega),zV (List.getElem?_eq_getElem hk)]
  simp only[bS',sameBox_refl _ (hi _ (List.getElem_mem hk))]
  rw[show bnot true=false from rfl,if_neg (by decide),zS _ _ (by omega)]
  rfl
 .unfold xC
  dsimp only
  rw[if_neg (by rw[zD];unfold ilen;omega)]
theorem sameCode_refl (l:List gQuad)(hl:l.length<=1000000):pR l l=some true:=by
 unfold pR
 rw[if_neg (by simp[ine])]
 have:=yC (step:=wP l l) (s0:=(0:Int)) l.length (fun k=>(k:Int)) (.inl ()) rfl (fun k hk=>?_) ?_
 .rw[this];rfl
 .unfold wP
  dsimp only
  rw[if_pos (by rw[zD];unfold ilen;omega),zV (List.getElem?_eq_getElem hk)]
  simp only[bS']
  rw[if_neg (by simp[eqD,bnot]),zS _ _ (by omega)]
  rfl
 .unfold wP
  dsimp only
  rw[if_neg (by rw[zD];unfold ilen;omega)]
theorem sameCodes_refl (l:List (List gQuad))(h:SmallC l):tW l l=some true:=by
 have hl:=h.1
 unfold tW
 rw[if_neg (by simp[ine])]
 have:=yC (step:=jZ l l) (s0:=(0:Int)) l.length (fun k=>(k:Int)) (.inl ()) rfl (fun k hk=>?_) ?_
 .rw[this];rfl
 .unfold jZ
  dsimp only
  rw[if_pos (by rw[zD];unfold ilen;omega),zV (List.getElem?_eq_getElem hk)]
  simp only[bS',sameCode_refl l[k] (by have:=h.2 _ (List.getElem_mem hk);omega)]
  rw[show bnot true=false from rfl,if_neg (by decide),zS _ _ (by omega)]
  rfl
 .unfold jZ
  dsimp only
  rw[if_neg (by rw[zD];unfold ilen;omega)]
theorem sameTalk_refl (c:gCrew)(h:SmallCr c):pQ c c=some true:=by
 have hl:=h.thr
 unfold pQ
 rw[if_neg (by simp[ine]),bS',if_neg (by simp[ine]),bS',if_neg (by simp[ine])]
 have:=yC (step:=wN c c) (s0:=(0:Int)) c.Threads.length (fun k=>(k:Int)) (.inl ()) rfl (fun k hk=>?_) ?_
 .rw[this,bS']
  dsimp only
  rw[gG _ (by have:=h.box;omega) (fun b hb=>by have:=h.items b hb;omega),bS',if_pos rfl,uO _ (by have:=h.out;omega)]
  rfl
 .unfold wN
  dsimp only
  rw[if_pos (by rw[zD];unfold ilen;omega),zV (List.getElem?_eq_getElem hk)]
  simp only[bS']
  rw[if_neg (by simp[ine]),zS _ _ (by omega)]
  rfl
 .unfold wN
  dsimp only
  rw[if_neg (by rw[zD];unfold ilen;omega)]
theorem sameState_refl (c:gCrew)(h:SmallCr c):tV c c=some true:=by
 have hl:=h.thr
 unfold tV
 rw[if_neg (by simp[ine])]
 have:=yC (step:=jY c c) (s0:=(0:Int)) c.Threads.length (fun k=>(k:Int)) (.inl ()) rfl (fun k hk=>?_) ?_
 .rw[this,bS']
  dsimp only
  rw[sameTalk_refl c h]
  rfl
 .unfold jY
  dsimp only
  rw[if_pos (by rw[zD];unfold ilen;omega),zV (List.getElem?_eq_getElem hk)]
  simp only[bS',tG c.Threads[k] (by have:=h.regs _ (List.getElem_mem hk);omega)]
  rw[show bnot true=false from rfl,if_neg (by decide),zS _ _ (by omega)]
  rfl
 .unfold jY
  dsimp only
  rw[if_neg (by rw[zD];unfold ilen;omega)]
theorem nA (c:gCrew)(h:SmallCr c):yY c c=some true:=by
 unfold yY
 rw[sameCodes_refl _ h.codes,bS',if_pos rfl,sameState_refl c h]
 rfl
end Go.Abs

/- What is drawn for a new crew. -/
set_option linter.unusedSimpArgs false
set_option linter.unusedVariables false
set_option maxHeartbeats 8000000
namespace Go.Abs
open Go

section
variable {b:List Int} (hb:Bytes b) (hl:b.length<=1048576)
include hb hl
theorem Ok.codes {k:Int}{r:gL6Rd}(hr:Rd b k r)(hk:k<=100000):Ok (cD r) (fun q=>Rd b (k+250000) q.2/\(1<=q.1.length/\q.1.length<=3)/\∀x∈q.1,kH true x):=by
 unfold cD
 refine Ok.bind (Ok.pick hb hl hr (by decide) (by omega)) fun q1 h1=>?_
 have e1:iadd .i64 1 q1.1=1+q1.1:=zS _ _ (by omega)
 refine Ok.bind (P:=fun e:gL6Rd×List (List gQuad)=>Rd b (k+250000) e.1/\(e.2.length:Int)=1+q1.1/\∀x∈e.2,kH true x) ?_ fun e he=>Ok.pure ⟨he.1,by have:=he.2.1;simp only;omega,he.2.2⟩
 refine Ok.loop (fun s=>∃i:Nat,s.1=(i:Int)/\(i:Int)<=1+q1.1/\Rd b (k+1+81000*i) s.2.1/\s.2.2.length=i/\∀x∈s.2.2,kH true x) (fun s=>(1+q1.1-s.1).toNat) _ ⟨0,rfl,by omega,h1.1.le (by omega),rfl,by simp⟩ ?_
 rintro⟨i',rd,l⟩ ⟨i,h2,h3,h4,h5,h6⟩
 simp only at h2 h3 h4 h5 h6
 subst h2
 unfold oI
 dsimp only
 rw[e1,iadd1 (by omega)]
 refine Ok.ite (fun h=>?_) fun h=>?_
 .rw[zD] at h
  refine Ok.bind (Ok.good hb hl h4 (by omega)) fun q2 k2=>?_
  refine Ok.bind (Ok.app (by simp;omega)) fun l2 k3=>Ok.pure ⟨⟨i+1,rfl,by omega,k2.1.le (by push_cast;omega),by rw[k3];simp[h5],?_⟩,by simp only;omega⟩
  intro x hx
  rw[k3] at hx
  rcases List.mem_append.1 hx with hx|hx
  .exact h6 x hx
  .simp at hx;subst hx;exact k2.2
 .rw[zD] at h
  exact Ok.pure ⟨h4.le (by omega),by simp only;omega,h6⟩
end
theorem cJ {l:List gQuad}{Z:Bool}(h:kH Z l):l.length<=1000:=by have:=h.1.2;omega
end Go.Abs
