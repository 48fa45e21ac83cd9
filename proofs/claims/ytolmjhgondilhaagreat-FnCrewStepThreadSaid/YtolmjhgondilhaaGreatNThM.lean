/- A step of a thread: the program and the reference compute it alike. -/
import Derived.Test.YtolmjhgondilhaaGreatNThA
set_option linter.unusedSimpArgs false
set_option linter.unusedVariables false
set_option maxHeartbeats 8000000
namespace Go.Abs
open Go

theorem quadValid_eq (q:gQuad)(n:Int):sA q n=yU q n:=by
 obtain⟨op,d,a,b,m⟩:=q
 unfold sA yU
 simp only[dW,xO,fW,yG,sK,kV,wK,kW,if_true,Bool.false_eq_true,if_false,yF,jK,if_or,bS']
 simp only[ieq,eqD,gQuad.mk.injEq,ige,ile,ilt]
 by_cases h1:op=1
 .subst h1;simp;rw[Bool.eq_iff_iff];simp;omega
 by_cases h2:op=2
 .subst h2;simp;rw[Bool.eq_iff_iff];simp;omega
 by_cases h3:op=3
 .subst h3;simp;rw[Bool.eq_iff_iff];simp;omega
 by_cases h4:op=4
 .subst h4;simp;rw[Bool.eq_iff_iff];simp;omega
 by_cases h5:op=5
 .subst h5;simp;rw[Bool.eq_iff_iff];simp;omega
 by_cases h6:op=6
 .subst h6;simp;rw[Bool.eq_iff_iff];simp;omega
 by_cases h7:op=7
 .subst h7;simp;rw[Bool.eq_iff_iff];simp;omega
 by_cases h9:op=9
 .subst h9;simp;rw[Bool.eq_iff_iff];simp;omega
 by_cases h8:op=8
 .subst h8;simp;rw[Bool.eq_iff_iff];simp;omega
 by_cases h10:op=10
 .subst h10;simp;rw[Bool.eq_iff_iff];simp;omega
 have e10:(op==10)=false:=by simpa using h10
 simp[h1,h2,h3,h4,h5,h6,h7,h8,h9,h10,e10]

theorem codeValid_eq (l:List gQuad):sE l=kB l:=by
 have hL:vM l=kT l:=by
  funext s
  unfold vM kT
  simp only[quadValid_eq]
 unfold sE kB
 simp only[hL,kW,yF,jK,if_or,bS']
 have e:(ilt (ilen l) 1||igt (ilen l) 600)=bnot (ige (ilen l) 1&&ile (ilen l) 600):=by
  rw[Bool.eq_iff_iff];simp[ilt,igt,ige,ile,bnot]
 rw[e]

theorem gN:xE=fB:=rfl
theorem dT:xH=kL:=rfl
theorem dY:kI=yJ:=rfl
theorem ieq_t {a b:Int}(h:a=b):ieq a b=true:=(zP _ _).2 h
section
variable {l:List gQuad} {t:gThread} {bx:List gBox} {q:gQuad}
theorem Can.idx (h:Can l t bx q):idx l t.Pc=some q:=by
 have:=zV h.at'
 rwa [Int.toNat_of_nonneg h.fit.2.2.1] at this
theorem Can.len (h:Can l t bx q):l.length<=600:=h.code.1.2
theorem Can.pc (h:Can l t bx q):iadd .i64 t.Pc 1=t.Pc+1:=by
 have h1:=h.fit.2.2.1
 have h2:=h.fit.2.2.2
 have h3:=h.len
 exact zS _ _ (by omega)
theorem Can.set (h:Can l t bx q){r:Int}(hr:Rg r)(x:Int):setx t.Regs r x=some (t.Regs.set r.toNat x):=pY x (yH h.fit hr).2.2
theorem box_len (hb:yM bx=true):bx.length<=3:=(isBoxes_iff.1 hb).2
theorem dC (hb:yM bx=true):∀b∈bx,b.Items.length<=4:=fun b h=>by
 obtain⟨⟨h1,h2⟩,h3,_⟩:=(tY b).1 (box_mem hb h)
 omega
theorem mW {n:Int}{b:gBox}(h0:0<=n)(h:bx[n.toNat]? =some b):idx bx n=some b:=by
 have:=zV h
 rwa [Int.toNat_of_nonneg h0] at this
theorem set_self {O:Type}{l:List O}{k:Nat}{x:O}(h:l[k]? =some x):l.set k x=l:=setSelf h

theorem thread_step (h:Can l t bx q){o:List Int}(ho:o.length<=1000000):jT t l bx o=some ((thrP q t bx).2.2.2,(thrP q t bx).1,(thrP q t bx).2.1,o++(thrP q t bx).2.2.1):=by
 have hf:=h.fit
 unfold jT
 rw[h.idx,bS',h.pc]
 refine h.cases (P:=fun r=>_=some (r.2.2.2,r.1,r.2.1,o++r.2.2.1)) ?_ ?_ ?_ ?_ ?_ ?_ ?_ ?_ ?_ ?_ ?_
 .intro k1 k2 k3
  rw[if_pos (ieq_t k1),(yH hf k2).2.2,bS',h.set k2]
  simp
 .intro k1 k2 k3
  simp only[ieq_d,Int.reduceEq,decide_false,decide_true,if_true,Bool.false_eq_true,if_false,bS',k1,(yH hf k2).2.2,(yH hf k3).2.2,h.set k2,List.append_nil]
 .intro k1 k2 k3 k4 k5
  simp only[ieq_d,Int.reduceEq,decide_false,decide_true,if_true,Bool.false_eq_true,if_false,bS',k1,(yH hf k2).2.2,(yH hf k3).2.2,(yH hf k4).2.2,(apv_at k5 (yH hf k3).2.1 (yH hf k4).2.1).1,h.set k2,List.append_nil]
 .intro k1 k2 k3
  simp only[ieq_d,Int.reduceEq,decide_false,decide_true,if_true,Bool.false_eq_true,if_false,bS',k1,List.append_nil]
 .intro k1 k2 k3 k4
  simp only[ieq_d,Int.reduceEq,decide_false,decide_true,if_true,Bool.false_eq_true,if_false,bS',k1,(yH hf k2).2.2,List.append_nil]
  by_cases hz:rgv t q.A=0
  .simp[hz]
  .simp[hz]
 .intro k1 k2 k3 b k4 k5
  obtain⟨ok,b',e1,e2,e3,e4,_⟩:=put_eq b (rgv t q.A) k5 ((fA _).2 (yH hf k2).2.1)
  simp only[ieq_d,Int.reduceEq,decide_false,decide_true,if_true,Bool.false_eq_true,if_false,bS',k1,(yH hf k2).2.2,mW k3 k4,e1,pY b' (mW k3 k4),List.append_nil]
  cases ok
  .rw[if_pos (by rfl),if_neg (by intro hc;have:=e4.2 hc;cases this),e2 rfl,set_self k4]
   simp
  .rw[if_neg (by simp[bnot]),if_pos (e4.1 rfl),e3 rfl]
   simp
 .intro k1 k2 k3 r x s k4 k5
  obtain⟨v,ok,b',e1,e2,e3,e4,_⟩:=take_eq ⟨r,x::s⟩ k5
  obtain rfl:ok=true:=e3.2 (by simp)
  obtain⟨u,e5,e6⟩:=e4 rfl
  cases e5
  simp only[ieq_d,Int.reduceEq,decide_false,decide_true,if_true,Bool.false_eq_true,if_false,bS',k1,mW k3 k4,e1,pY b' (mW k3 k4),List.append_nil]
  rw[if_neg (by simp[bnot]),(yH hf k2).2.2,bS',h.set k2,e6]
  rfl
 .intro k1 k2 k3 r k4 k5
  obtain⟨v,ok,b',e1,e2,e3,e4,_⟩:=take_eq ⟨r,[]⟩ k5
  have hok:ok=false:=by
   cases ok
   .rfl
   .exact absurd rfl (e3.1 rfl)
  subst hok
  simp only[ieq_d,Int.reduceEq,decide_false,decide_true,if_true,Bool.false_eq_true,if_false,bS',k1,mW k3 k4,e1,pY b' (mW k3 k4),List.append_nil]
  rw[if_pos (by rfl),e2 rfl,set_self k4]
  rfl
 .intro k1
  simp only[ieq_d,Int.reduceEq,decide_false,decide_true,if_true,Bool.false_eq_true,if_false,bS',k1,List.append_nil]
 .intro k1 k2
  simp only[ieq_d,Int.reduceEq,decide_false,decide_true,if_true,Bool.false_eq_true,if_false,bS',k1,(yH hf k2).2.2]
  rw[kS 8 _ _ (by simp;unfold maxLen;omega)]
  rfl
 .intro k1
  simp only[ieq_d,Int.reduceEq,decide_false,decide_true,if_true,Bool.false_eq_true,if_false,bS',k1,List.append_nil]

theorem go_val {n:Nat}(hf:Fit t n)(pc:Int):xL t pc=some ⟨t.Regs,pc⟩:=by
 unfold xL
 rw[uI _ (by have:=hf.1;omega)]
 rfl
theorem set_val (h:Can l t bx q){r:Int}(hr:Rg r)(x pc:Int):sJ t r x pc=some ⟨t.Regs.set r.toNat x,pc⟩:=by
 unfold sJ
 rw[uI _ (by have:=h.fit.1;omega),bS',(yH h.fit hr).2.2,bS',h.set hr]
 rfl
theorem copy_val (hb:yM bx=true):kL bx=some bx:=pD bx (by have:=box_len hb;omega) fun b h=>by have:=dC hb b h;omega
theorem l23Step (h:Can l t bx q):oZ q t bx=some (thrP q t bx):=by
 have hf:=h.fit
 have hp:=h.pc
 have cp:=copy_val h.box
 unfold oZ fO fP
 rw[dT,cp]
 refine h.cases (P:=fun r=>_=some r) ?_ ?_ ?_ ?_ ?_ ?_ ?_ ?_ ?_ ?_ ?_
 .intro k1 k2 k3
  simp only[ieq_d,Int.reduceEq,decide_false,decide_true,if_true,Bool.false_eq_true,if_false,bS',k1,hp,set_val h k2]
 .intro k1 k2 k3
  simp only[ieq_d,Int.reduceEq,decide_false,decide_true,if_true,Bool.false_eq_true,if_false,bS',k1,hp,set_val h k2,(yH hf k3).2.2]
 .intro k1 k2 k3 k4 k5
  simp only[ieq_d,Int.reduceEq,decide_false,decide_true,if_true,Bool.false_eq_true,if_false,bS',k1,hp,set_val h k2,(yH hf k3).2.2,(yH hf k4).2.2,(apv_at k5 (yH hf k3).2.1 (yH hf k4).2.1).2.1]
 .intro k1 k2 k3
  simp only[ieq_d,Int.reduceEq,decide_false,decide_true,if_true,Bool.false_eq_true,if_false,bS',k1,go_val hf]
 .intro k1 k2 k3 k4
  simp only[ieq_d,Int.reduceEq,decide_false,decide_true,if_true,Bool.false_eq_true,if_false,bS',k1,hp,(yH hf k2).2.2,go_val hf]
  by_cases hz:rgv t q.A=0
  .simp[hz]
  .simp[hz]
 .intro k1 k2 k3 b k4 k5
  obtain⟨ok,b',_,e2,e3,e4,b2,f1,f2,_⟩:=put_eq b (rgv t q.A) k5 ((fA _).2 (yH hf k2).2.1)
  simp only[ieq_d,Int.reduceEq,decide_false,decide_true,if_true,Bool.false_eq_true,if_false,bS',k1,hp,(yH hf k2).2.2,mW k3 k4,f1,pY b2 (mW k3 k4),go_val hf]
  cases ok
  .rw[if_pos (by rfl),if_neg (by intro hc;have:=e4.2 hc;cases this)]
   simp
  .rw[if_neg (by simp[bnot]),if_pos (e4.1 rfl),f2 rfl,e3 rfl]
   simp
 .intro k1 k2 k3 r x s k4 k5
  obtain⟨v,ok,b',_,e2,e3,e4,b2,v2,f1,f2⟩:=take_eq ⟨r,x::s⟩ k5
  obtain rfl:ok=true:=e3.2 (by simp)
  obtain⟨u,e5,e6⟩:=e4 rfl
  obtain⟨rfl,rfl⟩:=f2 rfl
  cases e5
  simp only[ieq_d,Int.reduceEq,decide_false,decide_true,if_true,Bool.false_eq_true,if_false,bS',k1,hp,mW k3 k4,f1,pY b2 (mW k3 k4)]
  rw[if_neg (by simp[bnot]),set_val h k2,e6]
  rfl
 .intro k1 k2 k3 r k4 k5
  obtain⟨v,ok,b',_,e2,e3,e4,b2,v2,f1,f2⟩:=take_eq ⟨r,[]⟩ k5
  have hok:ok=false:=by
   cases ok
   .rfl
   .exact absurd rfl (e3.1 rfl)
  subst hok
  simp only[ieq_d,Int.reduceEq,decide_false,decide_true,if_true,Bool.false_eq_true,if_false,bS',k1,mW k3 k4,f1,go_val hf]
  rw[if_pos (by rfl)]
  rfl
 .intro k1
  simp only[ieq_d,Int.reduceEq,decide_false,decide_true,if_true,Bool.false_eq_true,if_false,bS',k1,hp,go_val hf]
 .intro k1 k2
  simp only[ieq_d,Int.reduceEq,decide_false,decide_true,if_true,Bool.false_eq_true,if_false,bS',k1,hp,go_val hf,(yH hf k2).2.2]
 .intro k1
  simp only[ieq_d,Int.reduceEq,decide_false,decide_true,if_true,Bool.false_eq_true,if_false,bS',k1,go_val hf]
end
end Go.Abs

/- What ThreadStep computes, on both sides. -/
set_option linter.unusedSimpArgs false
set_option linter.unusedVariables false
set_option maxHeartbeats 8000000
namespace Go.Abs
open Go

/-! what ThreadStep computes -/
def fitB (t:gThread)(n:Nat):Bool:=decide (t.Regs.length=12)&&t.Regs.all isW&&decide (0<=t.Pc)&&decide (t.Pc<n)
theorem fitB_iff (t:gThread)(n:Nat):fitB t n=true<->Fit t n:=by
 unfold fitB Fit
 simp[fA,and_assoc]
theorem iFits (t:gThread)(l:List gQuad)(ht:t.Regs.length<=4000000):uC t l=some (fitB t l.length):=by
 unfold uC fitB
 rw[sZ _ (by unfold maxLen;omega)]
 simp only[bS',yF,jK,ieq_d,zF,ige,ilt,Bool.and_assoc]
 rw[show decide ((t.Regs.length:Int)=12)=decide (t.Regs.length=12) by rw[Bool.eq_iff_iff];simp;omega]
 rfl
theorem sFits (t:gThread)(l:List gQuad)(ht:t.Regs.length<=4000000)(hl:l.length<=4000000):mB t (ilen l)=some (fitB t l.length):=by
 unfold mB fitB
 rw[nC _ _ (by unfold maxLen;omega),zF,yI _ _ (by omega)]
 simp only[bS',yF,jK,xJ]
 rw[show decide ((t.Regs.length:Int)=12)=decide (t.Regs.length=12) by rw[Bool.eq_iff_iff];simp;omega,show decide (0<=t.Pc/\t.Pc<=(l.length:Int)-1)=(decide (0<=t.Pc)&&decide (t.Pc<l.length)) by rw[Bool.eq_iff_iff];simp;omega]
 simp[Bool.and_assoc]
theorem there_val (q:gQuad)(n:Nat):tD q n=some (decide (q.Op=6\/q.Op=7->q.N<n))/\mA q n=some (decide (q.Op=6\/q.Op=7->q.N<n)):=by
 unfold tD mA
 simp only[jK,if_or,bS',yF]
 have:(ine q.Op 6&&ine q.Op 7||ilt q.N n)=decide (q.Op=6\/q.Op=7->q.N<n):=by
  rw[Bool.eq_iff_iff]
  simp only[Bool.or_eq_true,Bool.and_eq_true,wS,zD,decide_eq_true_iff]
  omega
 rw[this];exact⟨rfl,rfl⟩
end Go.Abs

/- A crew: valid, one step, many steps; two crews in step. -/
set_option linter.unusedSimpArgs false
set_option linter.unusedVariables false
set_option maxHeartbeats 8000000
namespace Go.Abs
open Go

def Talks (l:List gQuad)(m:Nat):Prop:=∀q∈l,q.Op=6\/q.Op=7->q.N<m
structure CrewOk (c:gCrew):Prop where
 many:1<=c.Codes.length/\c.Codes.length<=3
 same:c.Threads.length=c.Codes.length
 box:yM c.Boxes=true
 turn:0<=c.Turn/\c.Turn<c.Codes.length
 idle:0<=c.Idle/\c.Idle<=c.Codes.length
 out:∀x∈c.Out,Wd x
 thr:∀(k:Nat) l t,c.Codes[k]? =some l->c.Threads[k]? =some t->kH false l/\Fit t l.length/\Talks l c.Boxes.length
def nextT (many turn idle k:Int):Int×Int:=if k=1 then(turn,0) else if k=2 then((turn+1) % many,0) else((turn+1) % many,idle+1)
noncomputable def crewG (c:gCrew)(r:gThread×List gBox×List Int×Int):gCrew:=
 ⟨c.Codes,c.Threads.set c.Turn.toNat r.1,r.2.1,(nextT c.Codes.length c.Turn c.Idle r.2.2.2).1,(nextT c.Codes.length c.Turn c.Idle r.2.2.2).2,c.Out++r.2.2.1⟩
noncomputable def crewS (c:gCrew):gCrew:=
 if c.Idle<c.Codes.length then
  match c.Codes[c.Turn.toNat]?,c.Threads[c.Turn.toNat]? with
  |some l,some t=>match l[t.Pc.toNat]? with
   |some q=>crewG c (thrP q t c.Boxes)
   |none=>c
  |_,_=>c
 else c
noncomputable def crewN:Nat->gCrew->gCrew
 |0,c=>c
 |n+1,c=>crewN n (crewS c)
section
variable {c:gCrew}
theorem CrewOk.now (h:CrewOk c):∃l t q,c.Codes[c.Turn.toNat]? =some l/\c.Threads[c.Turn.toNat]? =some t/\l[t.Pc.toNat]? =some q/\Can l t c.Boxes q/\Talks l c.Boxes.length:=by
 have h1:=h.turn
 have h2:=h.same
 have e1:c.Turn.toNat<c.Codes.length:=by omega
 have e2:c.Turn.toNat<c.Threads.length:=by omega
 have g1:=List.getElem?_eq_getElem e1
 have g2:=List.getElem?_eq_getElem e2
 obtain⟨a1,a2,a3⟩:=h.thr _ _ _ g1 g2
 have e3:(c.Threads[c.Turn.toNat]).Pc.toNat<(c.Codes[c.Turn.toNat]).length:=by
  obtain⟨_,_,p1,p2⟩:=a2;omega
 have g3:=List.getElem?_eq_getElem e3
 exact⟨_,_,_,g1,g2,g3,⟨a1,a2,h.box,g3,fun hq=>a3 _ (List.getElem_mem e3) hq⟩,a3⟩
theorem uF {l:List gQuad}{t:gThread}{q:gQuad}(hi:c.Idle<c.Codes.length)(h1:c.Codes[c.Turn.toNat]? =some l)(h2:c.Threads[c.Turn.toNat]? =some t)(h3:l[t.Pc.toNat]? =some q):crewS c=crewG c (thrP q t c.Boxes):=by
 unfold crewS
 rw[if_pos hi,h1,h2]
 simp only[h3]
theorem vI (hi:¬c.Idle<c.Codes.length):crewS c=c:=by unfold crewS;rw[if_neg hi]
theorem nextT_in {many turn idle k:Int}(h1:1<=many)(h2:0<=turn/\turn<many)(h3:0<=idle/\idle<many):(0<=(nextT many turn idle k).1/\(nextT many turn idle k).1<many)/\0<=(nextT many turn idle k).2/\(nextT many turn idle k).2<=many:=by
 have m0:=Int.emod_nonneg (turn+1) (show many≠0 by omega)
 have m1:=Int.emod_lt_of_pos (turn+1) (show 0<many by omega)
 unfold nextT
 split
 .exact⟨h2,by simp only;omega⟩
 split
 .exact⟨⟨m0,m1⟩,by simp only;omega⟩
 .exact⟨⟨m0,m1⟩,by simp only;omega⟩
theorem thrP_out {l:List gQuad}{t:gThread}{bx:List gBox}{q:gQuad}(h:Can l t bx q):∀x∈(thrP q t bx).2.2.1,Wd x:=by
 have hf:=h.fit
 refine h.cases (P:=fun r=>∀x∈r.2.2.1,Wd x) ?_ ?_ ?_ ?_ ?_ ?_ ?_ ?_ ?_ ?_ ?_<;>intros<;>first|(simp at*;done)|skip
 .split at* <;>simp at*
 .rename_i k1 k2 x hx
  simp at hx
  rw[hx];exact(yH hf k2).2.1
theorem CrewOk.step (h:CrewOk c):CrewOk (crewS c):=by
 by_cases hi:c.Idle<c.Codes.length
 .obtain⟨l,t,q,h1,h2,h3,h4,h5⟩:=h.now
  rw[uF hi h1 h2 h3]
  obtain⟨k1,k2,k3⟩:=h4.keeps
  have hlen:(thrP q t c.Boxes).2.1.length=c.Boxes.length:=by have:=congrArg List.length k3;simpa using this
  have hn:=nextT_in (k:=(thrP q t c.Boxes).2.2.2) (show(1:Int)<=c.Codes.length by have:=h.many;omega) h.turn ⟨h.idle.1,hi⟩
  refine⟨h.many,by simp[crewG,h.same],k2,hn.1,hn.2,fun x hx=>?_,fun k l' t' e1 e2=>?_⟩
  .simp only[crewG,List.mem_append] at hx
   rcases hx with hx|hx
   .exact h.out x hx
   .exact thrP_out h4 x hx
  .simp only[crewG] at e1 e2 ⊢
   rw[hlen]
   by_cases hk:c.Turn.toNat=k
   .subst hk
    rw[h1] at e1
    cases e1
    have:c.Turn.toNat<c.Threads.length:=(List.getElem?_eq_some_iff.1 h2).1
    rw[List.getElem?_set_self this] at e2
    cases e2
    exact⟨h4.code,k1,h5⟩
   .rw[List.getElem?_set_ne hk] at e2
    exact h.thr k l' t' e1 e2
 .rw[vI hi];exact h
theorem CrewOk.steps (h:CrewOk c)(n:Nat):CrewOk (crewN n c):=by
 induction n generalizing c with
 |zero=>exact h
 |succ n ih=>exact ih h.step
theorem fC:(crewS c).Codes=c.Codes:=by
 unfold crewS
 split
 .split
  .split<;>rfl
  .rfl
 .rfl
structure Sim (R:Nat->gThread->gThread->Prop) (c d:gCrew):Prop where
 ok:CrewOk c
 ok':CrewOk d
 many:d.Codes.length=c.Codes.length
 box:d.Boxes=c.Boxes
 turn:d.Turn=c.Turn
 idle:d.Idle=c.Idle
 out:d.Out=c.Out
 thr:∀(k:Nat) t u,c.Threads[k]? =some t->d.Threads[k]? =some u->R k t u
theorem Sim.step {R:Nat->gThread->gThread->Prop}{d:gCrew}(h:Sim R c d)
  (hR:∀(k:Nat) l m t u q p bx,c.Codes[k]? =some l->d.Codes[k]? =some m->R k t u->Can l t bx q->Can m u bx p->(thrP p u bx).2=(thrP q t bx).2/\R k (thrP q t bx).1 (thrP p u bx).1):Sim R (crewS c) (crewS d):=by
 by_cases hi:c.Idle<c.Codes.length
 .obtain⟨l,t,q,h1,h2,h3,h4,h5⟩:=h.ok.now
  obtain⟨m,u,p,g1,g2,g3,g4,g5⟩:=h.ok'.now
  have k1:=h.ok.step
  have k2:=h.ok'.step
  rw[uF hi h1 h2 h3] at k1 ⊢
  rw[uF (by rw[h.idle,h.many];exact hi) g1 g2 g3] at k2 ⊢
  rw[h.turn] at g1 g2
  rw[h.box] at g4 k2 ⊢
  obtain⟨e,r⟩:=hR _ l m t u q p c.Boxes h1 g1 (h.thr _ t u h2 g2) h4 g4
  refine⟨k1,k2,h.many,?_,?_,?_,?_,fun k t' u' e1 e2=>?_⟩
  .simp only[crewG,e]
  .simp only[crewG,e,h.many,h.turn,h.idle]
  .simp only[crewG,e,h.many,h.turn,h.idle]
  .simp only[crewG,e,h.out]
  .simp only[crewG,h.turn] at e1 e2
   by_cases hk:c.Turn.toNat=k
   .subst hk
    rw[List.getElem?_set_self (List.getElem?_eq_some_iff.1 h2).1] at e1
    rw[List.getElem?_set_self (List.getElem?_eq_some_iff.1 g2).1] at e2
    cases e1;cases e2
    exact r
   .rw[List.getElem?_set_ne hk] at e1 e2
    exact h.thr k t' u' e1 e2
 .rw[vI hi,vI (by rw[h.idle,h.many];exact hi)]
  exact h
theorem Sim.steps {R:Nat->gThread->gThread->Prop}{d:gCrew}(h:Sim R c d)
  (hR:∀(k:Nat) l m t u q p bx,c.Codes[k]? =some l->d.Codes[k]? =some m->R k t u->Can l t bx q->Can m u bx p->(thrP p u bx).2=(thrP q t bx).2/\R k (thrP q t bx).1 (thrP p u bx).1) (n:Nat):Sim R (crewN n c) (crewN n d):=by
 induction n generalizing c d with
 |zero=>exact h
 |succ n ih=>
  refine ih (h.step hR) fun k l m t u q p bx h1 h2=>hR k l m t u q p bx ?_ ?_
  .rwa [fC] at h1
  .rwa [fC] at h2
end
end Go.Abs
