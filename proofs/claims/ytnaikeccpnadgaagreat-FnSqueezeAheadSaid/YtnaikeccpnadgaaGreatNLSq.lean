/- A code without quads that are not reached or have no effect: what it does. -/
import Derived.Test.YtnaikeccpnadgaaGreatNLCHd
import Derived.Test.YtnaikeccpnadgaaGreatNLLive
set_option linter.unusedSimpArgs false
set_option linter.unusedVariables false
set_option maxHeartbeats 8000000
namespace Go.Abs
open Go

def rT (R:List Bool)(x:Int):Prop:=0<=x/\R[x.toNat]? =some true
def effB (q:gQuad)(k:Nat):Bool:= !(decide (q.Op=4\/q.Op=5)&&decide (q.N=(k:Int)+1))&& !(decide (q.Op=2)&&decide (q.Dst=q.A))
def keepB (l:List gQuad)(R:List Bool)(k:Nat):Bool:=match l[k]? with|some q=>decide (R[k]? =some true)&&effB q k|none=>false
def numB (l:List gQuad)(R:List Bool)(k:Nat):Nat:=((List.range k).filter (keepB l R)).length
theorem vJ (l:List gQuad)(R:List Bool)(k:Nat):numB l R (k+1)=numB l R k+(if keepB l R k=true then 1 else 0):=by
 unfold numB
 rw[List.range_succ,List.filter_append,List.length_append]
 cases h:keepB l R k<;>simp[h]
theorem numB_le (l:List gQuad)(R:List Bool){a b:Nat}(h:a<=b):numB l R a<=numB l R b:=by
 induction b with
 |zero=>
  obtain rfl:a=0:=by omega
  exact Nat.le_refl _
 |succ b ih=>
  rcases Nat.eq_or_lt_of_le h with rfl|h'
  .exact Nat.le_refl _
  .have:=ih (by omega)
   rw[vJ];omega
theorem numB_at (l:List gQuad)(R:List Bool):∀n i,i<numB l R n->∃k,k<n/\keepB l R k=true/\numB l R k=i:=by
 intro n
 induction n with
 |zero=>intro i hi;simp[numB] at hi
 |succ n ih=>
  intro i hi
  rw[vJ] at hi
  rcases Nat.lt_or_ge i (numB l R n) with h|h
  .obtain⟨k,h1,h2,h3⟩:=ih i h
   exact⟨k,by omega,h2,h3⟩
  .cases hk:keepB l R n with
   |false=>rw[hk] at hi;simp at hi;omega
   |true=>rw[hk] at hi;simp at hi;exact⟨n,by omega,hk,by omega⟩
theorem numB_lt {l:List gQuad}{R:List Bool}{k:Nat}(hk:keepB l R k=true)(h:k<l.length):numB l R k<numB l R l.length:=by
 have h1:=vJ l R k
 rw[if_pos hk] at h1
 have:=numB_le l R (show k+1<=l.length by omega)
 omega
structure Marks (l:List gQuad) (R:List Bool):Prop where
 start:rT R 0
 next:∀(k:Nat),k<l.length->rT R k->∀x∈nxt l k,rT R x
theorem idle_next {l:List gQuad}(hc:zU false l){k:Nat}{q:gQuad}(hq:l[k]? =some q)(he:effB q k=false):((k:Int)+1)∈nxt l k/\k+1<l.length:=by
 have hk:=(List.getElem?_eq_some_iff.1 hq).1
 have h1:((q.Op=4\/q.Op=5)/\q.N=(k:Int)+1)\/(q.Op=2/\q.Dst=q.A):=by
  unfold effB at he
  simp only[Bool.and_eq_false_iff,Bool.not_eq_false',Bool.and_eq_true,decide_eq_true_iff] at he
  exact he
 have hm:((k:Int)+1)∈nxt l k:=by
  unfold nxt
  rw[hq]
  simp only
  rcases h1 with⟨h4,hn⟩|⟨h2,_⟩
  .rw[if_neg (by omega)]
   split
   .simp[hn]
   .rw[if_neg (by omega),if_neg (by omega)];simp
  .rw[if_neg (by omega),if_neg (by omega),if_neg (by omega),if_neg (by omega)];simp
 refine⟨hm,?_⟩
 have:=((nY hc hk).2 _ hm).2
 omega
theorem reach_keep {l:List gQuad}(hc:zU false l){R:List Bool}(hR:Marks l R):∀n k,k+n=l.length->k<l.length->rT R k->∃k',k<=k'/\k'<l.length/\keepB l R k'=true/\numB l R k'=numB l R k:=by
 intro n
 induction n with
 |zero=>intro k h1 h2;omega
 |succ n ih=>
  intro k h1 h2 h3
  cases hk:keepB l R k with
  |true=>exact⟨k,Nat.le_refl _,h2,hk,rfl⟩
  |false=>
   have hq:=List.getElem?_eq_getElem h2
   have he:effB l[k] k=false:=by
    unfold keepB at hk
    rw[hq] at hk
    have h4:=h3.2
    rw[Int.toNat_natCast] at h4
    simpa [h4] using hk
   obtain⟨e1,e2⟩:=idle_next hc hq he
   obtain⟨k',a1,a2,a3,a4⟩:=ih (k+1) (by omega) e2 (hR.next k h2 h3 _ e1)
   refine⟨k',by omega,a2,a3,?_⟩
   rw[a4,vJ,hk]
   simp
theorem reach_num {l:List gQuad}(hc:zU false l){R:List Bool}(hR:Marks l R){k:Nat}(hk:k<l.length)(h:rT R k):numB l R k<numB l R l.length:=by
 obtain⟨k',_,a2,a3,a4⟩:=reach_keep hc hR (l.length-k) k (by omega) hk h
 have:=numB_lt a3 a2
 omega
def sqQ (l:List gQuad)(R:List Bool)(q:gQuad):gQuad:=if q.Op=4\/q.Op=5 then⟨q.Op,q.Dst,q.A,q.B,(numB l R q.N.toNat:Int)⟩ else q
def SOf (l:List gQuad)(R:List Bool)(m:List gQuad):Prop:=m.length=numB l R l.length/\∀(k:Nat) (q:gQuad),l[k]? =some q->keepB l R k=true->m[numB l R k]? =some (sqQ l R q)
theorem SOf.at {l m:List gQuad}{R:List Bool}(h:SOf l R m){i:Nat}{p:gQuad}(hp:m[i]? =some p):∃k q,l[k]? =some q/\keepB l R k=true/\numB l R k=i/\p=sqQ l R q:=by
 have hi:i<numB l R l.length:=by rw[<- h.1];exact(List.getElem?_eq_some_iff.1 hp).1
 obtain⟨k,h1,h2,h3⟩:=numB_at l R _ i hi
 have hq:=List.getElem?_eq_getElem h1
 have:=h.2 k _ hq h2
 rw[h3,hp] at this
 exact⟨k,_,hq,h2,h3,Option.some.inj this⟩
theorem keep_reach {l:List gQuad}{R:List Bool}{k:Nat}{q:gQuad}(hq:l[k]? =some q)(h:keepB l R k=true):rT R k/\effB q k=true:=by
 unfold keepB at h
 rw[hq] at h
 simp only[Bool.and_eq_true,decide_eq_true_iff] at h
 exact⟨⟨by omega,by rw[Int.toNat_natCast];exact h.1⟩,h.2⟩
theorem target_nxt {l:List gQuad}{k:Nat}{q:gQuad}(hq:l[k]? =some q)(ho:q.Op=4\/q.Op=5):q.N∈nxt l k:=by
 unfold nxt
 rw[hq]
 simp only
 rw[if_neg (by omega)]
 split
 .simp
 .split
  .simp
  .split
   .simp
   .simp only[List.mem_singleton];omega
theorem SOf.ok {l m:List gQuad}(hc:zU false l){R:List Bool}(hR:Marks l R)(h:SOf l R m):zU false m/\∀n,Talks l n->Talks m n:=by
 have hl:=hc.1
 have h0:=reach_num hc hR (k:=0) (by omega) hR.start
 have hle:numB l R l.length<=l.length:=by
  unfold numB
  have:=List.length_filter_le (keepB l R) (List.range l.length)
  simpa using this
 have key:∀{k:Nat} {q:gQuad},l[k]? =some q->keepB l R k=true->QV false (sqQ l R q) m.length:=by
  intro k q hq hk
  have hkl:=(List.getElem?_eq_some_iff.1 hq).1
  have hqv:=hc.2.1 q (List.mem_of_getElem? hq)
  obtain⟨r1,_⟩:=keep_reach hq hk
  unfold sqQ
  by_cases ho:q.Op=4\/q.Op=5
  .rw[if_pos ho]
   have hn:=target_nxt hq ho
   have hin:=(nY hc hkl).2 _ hn
   have hr:=hR.next k hkl r1 _ hn
   have hr':rT R (q.N.toNat:Nat):=by rw[Int.toNat_of_nonneg hin.1];exact hr
   have:=reach_num hc hR (k:=q.N.toNat) (by omega) hr'
   rw[h.1]
   unfold QV at hqv ⊢
   dsimp only
   rcases ho with ho|ho
   .rcases hqv with k'|k'|k'|k'|k'|k'|k'|k'|k'|k'
    all_goals first|(exfalso;have:=k'.1;omega)|exact .inr (.inr (.inr (.inl ⟨k'.1,k'.2.1,k'.2.2.1,k'.2.2.2.1,by omega,by omega⟩)))
   .rcases hqv with k'|k'|k'|k'|k'|k'|k'|k'|k'|k'
    all_goals first|(exfalso;have:=k'.1;omega)|exact .inr (.inr (.inr (.inr (.inl ⟨k'.1,k'.2.1,k'.2.2.1,k'.2.2.2.1,by omega,by omega⟩))))
  .rw[if_neg ho]
   rcases hqv with k'|k'|k'|k'|k'|k'|k'|k'|k'|k'
   case inr.inr.inr.inl=>exact absurd (.inl k'.1) ho
   case inr.inr.inr.inr.inl=>exact absurd (.inr k'.1) ho
   .exact .inl k'
   .exact .inr (.inl k')
   .exact .inr (.inr (.inl k'))
   .exact .inr (.inr (.inr (.inr (.inr (.inl k')))))
   .exact .inr (.inr (.inr (.inr (.inr (.inr (.inl k'))))))
   .exact .inr (.inr (.inr (.inr (.inr (.inr (.inr (.inl k')))))))
   .exact .inr (.inr (.inr (.inr (.inr (.inr (.inr (.inr (.inl k'))))))))
   .exact .inr (.inr (.inr (.inr (.inr (.inr (.inr (.inr (.inr k'))))))))
 have op:∀q:gQuad,(sqQ l R q).Op=q.Op:=by intro q;unfold sqQ;split<;>rfl
 refine⟨⟨⟨by rw[h.1];omega,by rw[h.1];omega⟩,fun p hp=>?_,fun p hp=>?_⟩,fun n ht p hp ho=>?_⟩
 .obtain⟨i,hi⟩:=List.mem_iff_getElem?.1 hp
  obtain⟨k,q,hq,hk,_,rfl⟩:=h.at hi
  exact key hq hk
 .obtain⟨k,q,hq,hk,hn,rfl⟩:=h.at hp
  rw[op]
  have hkl:=(List.getElem?_eq_some_iff.1 hq).1
  refine Decidable.byContradiction fun hno=>?_
  have hno':q.Op≠10/\q.Op≠4:=by omega
  have hm:((k:Int)+1)∈nxt l k:=by
   unfold nxt
   rw[hq]
   simp only
   rw[if_neg hno'.1,if_neg hno'.2]
   split
   .simp
   .split<;>simp
  have hin:=(nY hc hkl).2 _ hm
  have hr:=hR.next k hkl (keep_reach hq hk).1 _ hm
  have:=reach_num hc hR (k:=k+1) (by omega) hr
  rw[vJ,if_pos hk] at this
  rw[h.1] at hn
  omega
 .obtain⟨i,hi⟩:=List.mem_iff_getElem?.1 hp
  obtain⟨k,q,hq,hk,_,rfl⟩:=h.at hi
  rw[op] at ho
  have:sqQ l R q=q:=by unfold sqQ;rw[if_neg (by omega)]
  rw[this]
  exact ht q (List.mem_of_getElem? hq) ho
end Go.Abs

/- A squeezed code at work. -/
set_option linter.unusedSimpArgs false
set_option linter.unusedVariables false
set_option maxHeartbeats 8000000
namespace Go.Abs
open Go

theorem pc_succ {l:List gQuad}{t:gThread}{bx:List gBox}{q:gQuad}(h:Can l t bx q):(t.Pc+1).toNat=t.Pc.toNat+1:=by
 have:=h.fit.2.2.1;omega
theorem sq_step {l m:List gQuad}{R:List Bool}{t u:gThread}{bx:List gBox}{q:gQuad}(h:Can l t bx q)(hk:keepB l R t.Pc.toNat=true)(e1:u.Regs=t.Regs)(e2:u.Pc=(numB l R t.Pc.toNat:Int)):
  (thrP (sqQ l R q) u bx).2=(thrP q t bx).2/\(thrP (sqQ l R q) u bx).1.Regs=(thrP q t bx).1.Regs/\(thrP (sqQ l R q) u bx).1.Pc=(numB l R (thrP q t bx).1.Pc.toNat:Int):=by
 have hg:∀r,rgv u r=rgv t r:=fun r=>by unfold rgv;rw[e1]
 have hs:((numB l R (t.Pc+1).toNat:Nat):Int)=u.Pc+1:=by
  rw[pc_succ h,vJ,if_pos hk,e2];omega
 have hn:¬(q.Op=4\/q.Op=5)->sqQ l R q=q:=fun a=>by unfold sqQ;rw[if_neg a]
 rcases h.qv with k|k|k|k|k|k|k|k|k|k
 .rw[hn (by omega)];unfold thrP;simp only[k.1,e1];exact⟨rfl,rfl,hs.symm⟩
 .rw[hn (by omega)];unfold thrP;simp only[k.1,e1,hg];exact⟨rfl,rfl,hs.symm⟩
 .rw[hn (by omega)];unfold thrP;simp only[k.1,e1,hg];exact⟨rfl,rfl,hs.symm⟩
 .unfold sqQ;rw[if_pos (.inl k.1)];unfold thrP;simp only[k.1,e1];exact⟨rfl,rfl,rfl⟩
 .unfold sqQ;rw[if_pos (.inr k.1)];unfold thrP;simp only[k.1,e1,hg]
  refine⟨rfl,rfl,?_⟩
  by_cases hz:rgv t q.A=0
  .simp only[hz];rfl
  .simp only[hz];exact hs.symm
 .rw[hn (by omega)];unfold thrP;simp only[k.1,e1,hg]
  cases bx[q.N.toNat]? with
  |none=>exact⟨rfl,e1,e2⟩
  |some b=>
   simp only
   by_cases hl:(b.Items.length:Int)<b.Room
   .simp only[hl];exact⟨rfl,rfl,hs.symm⟩
   .simp only[hl];exact⟨rfl,e1,e2⟩
 .rw[hn (by omega)];unfold thrP;simp only[k.1,e1]
  rcases bx[q.N.toNat]? with _|⟨r,it⟩
  .exact⟨rfl,e1,e2⟩
  .cases it with
   |nil=>exact⟨rfl,e1,e2⟩
   |cons x s=>exact⟨rfl,rfl,hs.symm⟩
 .rw[hn (by omega)];unfold thrP;simp only[k.1,e1];exact⟨rfl,rfl,hs.symm⟩
 .rw[hn (by omega)];unfold thrP;simp only[k.1,e1,hg];exact⟨rfl,rfl,hs.symm⟩
 .rw[hn (by omega)];unfold thrP;simp only[k.1];exact⟨rfl,e1,e2⟩
theorem idle_step {l:List gQuad}{t:gThread}{bx:List gBox}{q:gQuad}(h:Can l t bx q)(he:effB q t.Pc.toNat=false):thrP q t bx=(⟨t.Regs,t.Pc+1⟩,bx,[],1):=by
 have hp:((t.Pc.toNat:Nat):Int)=t.Pc:=Int.toNat_of_nonneg h.fit.2.2.1
 have h1:((q.Op=4\/q.Op=5)/\q.N=t.Pc+1)\/(q.Op=2/\q.Dst=q.A):=by
  unfold effB at he
  rw[hp] at he
  simp only[Bool.and_eq_false_iff,Bool.not_eq_false',Bool.and_eq_true,decide_eq_true_iff] at he
  exact he
 rcases h1 with⟨h4|h5,hn⟩|⟨h2,hd⟩
 .unfold thrP;simp only[h4,hn];rfl
 .unfold thrP;simp only[h5,hn]
  by_cases hz:rgv t q.A=0<;>simp[hz]
 .have hR:Rg q.A:=by
   rcases h.qv with k|k|k|k|k|k|k|k|k|k
   case inr.inl=>exact k.2.2.1
   all_goals (have:=k.1;omega)
  have:=setSelf (xK h.fit hR).1
  unfold thrP
  simp only[h2,hd,this]
  rfl
noncomputable def tV (l:List gQuad):List Bool:=(jE l).getD []
theorem pcs_reach {l:List gQuad}{t:gThread}{bx:List gBox}{q:gQuad}(h:Can l t bx q){R:List Bool}(hR:Marks l R)(ht:rT R t.Pc)(hp:(thrP q t bx).1.Pc∈nxt l t.Pc.toNat\/(thrP q t bx).1=t):rT R (thrP q t bx).1.Pc:=by
 rcases hp with hp|hp
 .have h0:=h.fit.2.2
  exact hR.next t.Pc.toNat (by omega) (by rw[Int.toNat_of_nonneg h0.1];exact ht) _ hp
 .rw[hp];exact ht
structure SR (c d:gCrew):Prop where
 ok:CrewOk c
 ok':CrewOk d
 many:d.Codes.length=c.Codes.length
 box:d.Boxes=c.Boxes
 out:d.Out=c.Out
 codes:∀(k:Nat) l m,c.Codes[k]? =some l->d.Codes[k]? =some m->Marks l (tV l)/\SOf l (tV l) m
 thr:∀(k:Nat) l t u,c.Codes[k]? =some l->c.Threads[k]? =some t->d.Threads[k]? =some u->u.Regs=t.Regs/\rT (tV l) t.Pc/\u.Pc=(numB l (tV l) t.Pc.toNat:Int)
 rc:Rests c
 rd:Rests d
 turn:d.Idle<d.Codes.length->d.Turn=c.Turn/\c.Idle<=d.Idle
theorem SR.step {c d:gCrew}(h:SR c d):SR (crewS c) d\/SR (crewS c) (crewS d):=by
 by_cases hi:c.Idle<c.Codes.length
 .obtain⟨l,t,q,h1,h2,h3,h4,h5⟩:=h.ok.now
  have k1:=h.ok.step
  have r1:=h.rc.step h.ok
  rw[vZ hi h1 h2 h3] at k1 r1 ⊢
  have hkl:=(List.getElem?_eq_some_iff.1 h1).1
  have ht2:=(List.getElem?_eq_some_iff.1 h2).1
  have hm':c.Turn.toNat<d.Codes.length:=by rw[h.many];exact hkl
  have hu':c.Turn.toNat<d.Threads.length:=by rw[h.ok'.same];exact hm'
  obtain⟨m,g1⟩:∃m,d.Codes[c.Turn.toNat]? =some m:=⟨_,List.getElem?_eq_getElem hm'⟩
  obtain⟨u,g2⟩:∃u,d.Threads[c.Turn.toNat]? =some u:=⟨_,List.getElem?_eq_getElem hu'⟩
  obtain⟨z1,z2⟩:=h.codes _ l _ h1 g1
  obtain⟨y1,y2,y3⟩:=h.thr _ l t _ h1 h2 g2
  have hpc:((t.Pc.toNat:Nat):Int)=t.Pc:=Int.toNat_of_nonneg h4.fit.2.2.1
  have hrt:rT (tV l) (t.Pc.toNat:Nat):=by rw[hpc];exact y2
  have hnx:=pcs_reach h4 z1 y2 h4.pcs
  cases he:effB q t.Pc.toNat with
  |false=>
   left
   have hs:=idle_step h4 he
   obtain⟨i1,i2⟩:=idle_next h4.code h3 he
   have hk:keepB l (tV l) t.Pc.toNat=false:=by unfold keepB;rw[h3];simp[he]
   rw[hs] at k1 r1 hnx ⊢
   refine⟨k1,h.ok',h.many,h.box,by simp[crewG,h.out],h.codes,fun k l' t' u' e0 e1 e2=>?_,r1,h.rd,fun hd=>?_⟩
   .simp only[crewG] at e0 e1
    by_cases hk':c.Turn.toNat=k
    .subst hk'
     rw[List.getElem?_set_self ht2] at e1
     rw[h1] at e0
     rw[g2] at e2
     cases e0;cases e1;cases e2
     refine⟨y1,hnx,?_⟩
     simp only
     rw[pc_succ h4,vJ,hk,y3]
     simp
    .rw[List.getElem?_set_ne hk'] at e1
     exact h.thr k l' t' u' e0 e1 e2
   .obtain⟨a,b⟩:=h.turn hd
    have:=h.ok'.idle
    simp only[crewG,nextT]
    exact⟨a,by simp only[if_true];omega⟩
  |true=>
   have hk:keepB l (tV l) t.Pc.toNat=true:=by
    unfold keepB;rw[h3]
    have:=hrt.2
    rw[Int.toNat_natCast] at this
    simp[he,this]
   have hp:=z2.2 _ q h3 hk
   have hpu:m[u.Pc.toNat]? =some (sqQ l (tV l) q):=by rw[y3,Int.toNat_natCast];exact hp
   obtain⟨s1,s2,s3⟩:=sq_step (m:=l) h4 hk y1 y3
   by_cases hd:d.Idle<d.Codes.length
   .right
    obtain⟨a,b⟩:=h.turn hd
    have k2:=h.ok'.step
    have r2:=h.rd.step h.ok'
    rw[<- a] at g1 g2 hu'
    rw[vZ hd g1 g2 hpu,h.box] at k2 r2 ⊢
    rw[<- a] at h1 h2 ht2
    refine⟨?_,k2,h.many,?_,?_,h.codes,fun k l' t' u' e0 e1 e2=>?_,?_,r2,fun _=>?_⟩
    .exact k1
    .simp only[crewG,s1]
    .simp only[crewG,s1,h.out]
    .simp only[crewG] at e0 e1 e2
     rw[<- a] at e1
     by_cases hk':d.Turn.toNat=k
     .subst hk'
      rw[List.getElem?_set_self ht2] at e1
      rw[List.getElem?_set_self hu'] at e2
      rw[h1] at e0
      cases e0;cases e1;cases e2
      exact⟨s2,hnx,s3⟩
     .rw[List.getElem?_set_ne hk'] at e1 e2
      exact h.thr k l' t' u' e0 e1 e2
    .exact r1
    .simp only[crewG,s1,h.many,a,nextT]
     split
     .exact⟨rfl,Int.le_refl _⟩
     .split
      .exact⟨rfl,Int.le_refl _⟩
      .exact⟨rfl,by simp only;omega⟩
   .left
    have hkind:=h.rd.all h.ok' hd g1 g2 hpu
    rw[h.box,s1] at hkind
    obtain⟨b1,b2,b3⟩:=still_of h4 hkind
    refine⟨k1,h.ok',h.many,by simp only[crewG,b2,h.box],by simp only[crewG,b3,h.out,List.append_nil],h.codes,fun k l' t' u' e0 e1 e2=>?_,r1,h.rd,fun hd'=>absurd hd' hd⟩
    simp only[crewG,b1,setSelf h2] at e0 e1
    exact h.thr k l' t' u' e0 e1 e2
 .left;rw[wO hi];exact h
end Go.Abs

/- The marks that the program finds. -/
set_option linter.unusedSimpArgs false
set_option linter.unusedVariables false
set_option maxHeartbeats 8000000
namespace Go.Abs
open Go

theorem nextOf_in {l:List gQuad}(hc:zU false l){k:Nat}(hk:k<l.length):∃L,vS l[k] k=some L/\L.length<=2/\(l[k].Op≠10->l[k].Op≠4->((k:Int)+1)∈L)/\(l[k].Op=4\/l[k].Op=5->l[k].N∈L)/\∀x∈L,0<=x/\x<l.length:=by
 have hl:=hc.1.2
 have hq:=hc.2.1 _ (List.getElem_mem hk)
 have hlast:=hc.2.2
 generalize hqq:l[k]=q at*
 have e1:iadd .i64 (k:Int) 1=(k:Int)+1:=zV _ _ (by omega)
 have hn:q.Op≠10->q.Op≠4->(k:Int)+1<l.length:=by
  intro h1 h2
  rcases Nat.lt_or_ge (k+1) l.length with h|h
  .omega
  .have:k=l.length-1:=by omega
   have hg:=hlast q (by rw[<- this,List.getElem?_eq_getElem hk,hqq])
   rcases hg with hg|hg
   .exact absurd hg h1
   .exact absurd hg h2
 have hN:q.Op=4\/q.Op=5->0<=q.N/\q.N<l.length:=by
  intro h
  rcases hq with k'|k'|k'|k'|k'|k'|k'|k'|k'|k'<;>first|(exfalso;have:=k'.1;omega)|exact⟨k'.2.2.2.2.1,k'.2.2.2.2.2⟩
 unfold vS
 rw[e1]
 by_cases h1:q.Op=10
 .rw[if_pos (by rw[zM];exact h1)]
  exact⟨_,rfl,by simp,fun h=>absurd h1 h,fun h=>by omega,by simp⟩
 rw[if_neg (by rw[zM];exact h1)]
 by_cases h2:q.Op=4
 .rw[if_pos (by rw[zM];exact h2)]
  exact⟨_,rfl,by simp,fun _ h=>absurd h2 h,fun h=>by simp,fun x hx=>by simp at hx;rw[hx];exact hN (.inl h2)⟩
 rw[if_neg (by rw[zM];exact h2),yR,bS',yR,bS']
 have hk1:=hn h1 h2
 split
 .rename_i h3
  simp only[Bool.and_eq_true,zM] at h3
  refine⟨_,rfl,by simp,fun _ _=>by simp,fun _=>by simp,fun x hx=>?_⟩
  simp at hx
  rcases hx with rfl|rfl
  .exact hN (.inr h3.1)
  .exact⟨by omega,hk1⟩
 rename_i h3
 split
 .rename_i h4
  simp only[Bool.and_eq_true,zM] at h4
  refine⟨_,rfl,by simp,fun _ _=>by simp,fun _=>by simp,fun x hx=>?_⟩
  simp at hx
  rcases hx with rfl|rfl
  .exact⟨by omega,hk1⟩
  .exact hN (.inr h4.1)
 rename_i h4
 refine⟨_,rfl,by simp,fun _ _=>by simp,fun h=>?_,fun x hx=>by simp at hx;rw[hx];exact⟨by omega,hk1⟩⟩
 simp only[Bool.and_eq_true,zM,zC,yD,not_and] at h3 h4
 have:=h3 (by omega)
 have:=h4 (by omega)
 simp only[List.mem_singleton]
 omega
theorem rT_set {R:List Bool}{x y:Int}(hx:0<=x/\x<R.length)(h:rT R y):rT (R.set x.toNat true) y:=by
 refine⟨h.1,?_⟩
 by_cases e:x.toNat=y.toNat
 .rw[<- e,List.getElem?_set_self (by omega)]
 .rw[List.getElem?_set_ne e];exact h.2
theorem rT_self {R:List Bool}{x:Int}(hx:0<=x/\x<R.length):rT (R.set x.toNat true) x:=⟨hx.1,by rw[List.getElem?_set_self (by omega)]⟩
theorem reachL2 {n:Nat}(hn:n<=600){L:List Int}(hL:L.length<=2)(hLr:∀x∈L,0<=x/\x<n){R:List Bool}{W:List Int}(hR:R.length=n)(hW:2*R.count false+W.length<=1300):
  Ok (loopM (xZ L) (0,R,W)) (fun e=>e.1.length=n/\2*e.1.count false+e.2.length<=2*R.count false+W.length/\(∀x,rT R x->rT e.1 x)/\(∀x∈W,x∈e.2)/\(∀x∈e.2,x∈W\/0<=x/\x<n)/\(∀x∈L,rT e.1 x)/\∀x,rT e.1 x->rT R x\/x∈e.2):=by
 refine Ok.loop (fun s=>∃i:Nat,i<=L.length/\s.1=(i:Int)/\s.2.1.length=n/\2*s.2.1.count false+s.2.2.length<=2*R.count false+W.length/\(∀x,rT R x->rT s.2.1 x)/\(∀x∈W,x∈s.2.2)/\(∀x∈s.2.2,x∈W\/0<=x/\x<n)/\(∀x∈L.take i,rT s.2.1 x)/\∀x,rT s.2.1 x->rT R x\/x∈s.2.2) (fun s=>L.length-s.1.toNat) _ ⟨0,by omega,rfl,hR,Nat.le_refl _,fun _ h=>h,fun _ h=>h,fun _ h=>.inl h,by simp,fun _ h=>.inl h⟩ ?_
 rintro⟨s1,Q,V⟩ ⟨i,hi,h1,h2,h3,h4,h5,h6,h7,h8⟩
 simp only at h1 h2 h3 h4 h5 h6 h7 h8
 subst h1
 unfold xZ
 dsimp only
 rw[iadd1 (by omega)]
 refine Ok.ite (fun hlt=>?_) fun hge=>?_
 .rw[zC,zB] at hlt
  have hlt':i<L.length:=by omega
  have hr:=hLr _ (List.getElem_mem hlt')
  have hm:L.take (i+1)=L.take i++[L[i]]:=by rw[List.take_add_one,List.getElem?_eq_getElem hlt'];rfl
  rw[zQ (List.getElem?_eq_getElem hlt'),bS']
  generalize L[i]=x at hr hm
  have hq:x.toNat<Q.length:=by omega
  have hg:=List.getElem?_eq_getElem hq
  have hix:idx Q x=some Q[x.toNat]:=by
   have:=zQ hg
   rwa [Int.toNat_of_nonneg hr.1] at this
  rw[hix,bS']
  refine Ok.ite (fun hb=>?_) fun hb=>?_
  .have hf:Q[x.toNat]=false:=by simpa [bnot] using hb
   refine Ok.bind (Ok.set (by omega)) fun Q' eQ=>Ok.bind (Ok.app (by simp;omega)) fun V' eV=>Ok.pure ⟨⟨i+1,by omega,rfl,by rw[eQ];simp[h2],?_,?_,?_,?_,?_,?_⟩,by simp only;omega⟩
   .rw[eQ,eV]
    simp only[List.length_append,List.length_singleton]
    have hc:=List.count_set (a:=true) (b:=false) hq
    rw[hf] at hc
    simp at hc
    have hpos:0<Q.count false:=List.count_pos_iff.2 (by rw[<- hf];exact List.getElem_mem hq)
    omega
   .intro y hy;rw[eQ];exact rT_set (by omega) (h4 y hy)
   .intro y hy;rw[eV];exact List.mem_append_left _ (h5 y hy)
   .intro y hy
    rw[eV] at hy
    rcases List.mem_append.1 hy with hy|hy
    .exact h6 y hy
    .simp at hy;rw[hy];exact .inr hr
   .intro y hy
    rw[eQ]
    rw[hm] at hy
    rcases List.mem_append.1 hy with hy|hy
    .exact rT_set (by omega) (h7 y hy)
    .simp at hy;rw[hy];exact rT_self (by omega)
   .intro y hy
    rw[eQ] at hy
    rw[eV]
    by_cases e:x.toNat=y.toNat
    .right
     have:y=x:=by have:=hy.1;omega
     rw[this];simp
    .rcases h8 y ⟨hy.1,by rw[<- List.getElem?_set_ne e];exact hy.2⟩ with h|h
     .exact .inl h
     .exact .inr (List.mem_append_left _ h)
  .have ht:Q[x.toNat]=true:=by
    cases hx:Q[x.toNat]
    .rw[hx] at hb;exact absurd rfl hb
    .rfl
   refine Ok.pure ⟨⟨i+1,by omega,rfl,h2,h3,h4,h5,h6,?_,h8⟩,by simp only;omega⟩
   intro y hy
   rw[hm] at hy
   rcases List.mem_append.1 hy with hy|hy
   .exact h7 y hy
   .simp at hy;rw[hy];exact⟨hr.1,by rw[hg,ht]⟩
 .rw[zC,zB] at hge
  have:i=L.length:=by omega
  subst this
  rw[List.take_length] at h7
  exact Ok.pure ⟨h2,h3,h4,h5,h6,h7,h8⟩
theorem reach_val {l:List gQuad}(hc:zU false l):∃R,jE l=some R/\R.length=l.length/\rT R 0/\∀(k:Nat) (hk:k<l.length) L,rT R k->vS l[k] k=some L->∀x∈L,rT R x:=by
 have hl:=hc.1
 unfold jE
 rw[tP,kB hc,bS',if_neg (by simp[bnot])]
 have hm:makex 1 (ilen l) false=some (List.replicate l.length false):=by
  unfold makex ilen
  rw[if_pos (by unfold maxLen;omega)]
  simp
 rw[hm,bS']
 have h00:(List.replicate l.length false)[(0:Nat)]? =some false:=by rw[List.getElem?_replicate,if_pos (by omega)]
 have hix:idx (List.replicate l.length false) 0=some false:=zQ h00
 have hset:setx (List.replicate l.length false) 0 true=some ((List.replicate l.length false).set 0 true):=pP true hix
 rw[hix,bS',hset,bS',bS']
 have hcnt:((List.replicate l.length false).set 0 true).count false+1=l.length:=by
  have:=count_set (List.replicate l.length false) 0 h00
  rw[this];simp
 have key:Ok (loopM (wA l) ((List.replicate l.length false).set 0 true,[0])) (fun R=>R.length=l.length/\rT R 0/\∀(k:Nat) (hk:k<l.length) L,rT R k->vS l[k] k=some L->∀x∈L,rT R x):=by
  refine Ok.loop (fun s:List Bool×List Int=>s.1.length=l.length/\2*s.1.count false+s.2.length<=1300/\rT s.1 0/\(∀x∈s.2,0<=x/\x<l.length)/\∀(k:Nat) (hk:k<l.length) L,rT s.1 k->(k:Int)∈s.2\/(vS l[k] k=some L->∀x∈L,rT s.1 x)) (fun s:List Bool×List Int=>2*s.1.count false+s.2.length) _ ⟨by simp,by simp only[List.length_singleton];omega,⟨by omega,by show((List.replicate l.length false).set 0 true)[(0:Nat)]? =some true;rw[List.getElem?_set_self (by rw[List.length_replicate];omega)]⟩,fun x hx=>by(have:x=0:=by simpa using hx);omega,fun k hk L hr=>?_⟩ ?_
  .left
   by_cases hk0:k=0
   .subst hk0;simp
   .exfalso
    have:=hr.2
    simp only[Int.toNat_natCast] at this
    rw[List.getElem?_set_ne (by omega),List.getElem?_replicate] at this
    split at this<;>cases this
  rintro⟨R,W⟩ ⟨h1,h2,h3,h4,h5⟩
  simp only at h1 h2 h3 h4 h5
  unfold wA
  dsimp only
  refine Ok.ite (fun hw=>?_) fun hw=>?_
  .rw[yD,zB] at hw
   have hW:W≠[]:=by rintro rfl;simp at hw
   obtain⟨V,x,rfl⟩:∃V x,W=V++[x]:=⟨W.dropLast,W.getLast hW,(List.dropLast_concat_getLast hW).symm⟩
   have hil:isub .i64 (ilen (V++[x])) 1=(V.length:Int):=by
    simp only[List.length_append,List.length_singleton] at h2
    rw[zB,List.length_append,List.length_singleton,yG _ _ (by omega)]
    omega
   have hx:idx (V++[x]) (V.length:Int)=some x:=zQ (by simp)
   have hcut:cutx (V++[x]) 0 (V.length:Int)=some V:=by
    rw[cutx_iff]
    exact⟨⟨by omega,by omega,by rw[List.length_append,List.length_singleton];omega⟩,by simp⟩
   have hxr:=h4 x (by simp)
   have hxl:x.toNat<l.length:=by omega
   have hxi:idx l x=some l[x.toNat]:=by
    have:=zQ (List.getElem?_eq_getElem hxl)
    rwa [Int.toNat_of_nonneg hxr.1] at this
   obtain⟨L,e1,e2,e3,e4,e5⟩:=nextOf_in hc hxl
   rw[Int.toNat_of_nonneg hxr.1] at e1
   simp only[List.length_append,List.length_singleton] at h2
   rw[hil,hx,bS',hcut,bS',hxi,bS',e1,bS']
   refine Ok.bind (reachL2 (by omega) e2 e5 h1 (by omega)) fun e he=>?_
   obtain⟨Q,UU⟩:=e
   obtain⟨a1,a2,a3,a4,a5,a6,a7⟩:=he
   simp only at a1 a2 a3 a4 a5 a6 a7 ⊢
   refine Ok.pure ⟨⟨a1,by simp only;omega,a3 0 h3,?_,?_⟩,by simp only[List.length_append,List.length_singleton];omega⟩
   .intro y hy
    rcases a5 y hy with h|h
    .exact h4 y (by simp[h])
    .exact h
   .intro k hk M hr
    rcases a7 k hr with h|h
    .rcases h5 k hk M h with h|h
     .rcases List.mem_append.1 h with h|h
      .exact .inl (a4 _ h)
      .simp at h
       right
       intro hM y hy
       have ek:x.toNat=k:=by omega
       subst ek
       rw[Int.toNat_of_nonneg hxr.1,e1] at hM
       cases hM
       exact a6 y hy
     .exact .inr fun hM y hy=>a3 y (h hM y hy)
    .exact .inl h
  .have hW:W=[]:=by
    cases W with
    |nil=>rfl
    |cons a b=>exfalso;apply hw;rw[yD,zB];simp
   subst hW
   refine Ok.pure ⟨h1,h3,fun k hk L hr hM=>?_⟩
   rcases h5 k hk L hr with h|h
   .simp at h
   .exact h hM
 obtain⟨R,e,hR⟩:=key
 rw[e]
 exact⟨R,rfl,hR⟩
theorem reach_marks {l:List gQuad}(hc:zU false l):∃R,jE l=some R/\R.length=l.length/\Marks l R:=by
 obtain⟨R,e,h1,h2,h3⟩:=reach_val hc
 exact⟨R,e,h1,h2,fun k hk hr x hx=>h3 k hk _ hr (nextI hk (by have:=hc.1;omega)) x hx⟩
end Go.Abs

/- The program's squeezed code. -/
set_option linter.unusedSimpArgs false
set_option linter.unusedVariables false
set_option maxHeartbeats 8000000
namespace Go.Abs
open Go

theorem effect_val (q:gQuad)(k:Nat)(hk:k<=1000000):jZ q (k:Int)=some (effB q k):=by
 unfold jZ jC effB
 simp only[if_or,yR,bS',iadd1 (show k<=1000000000 by omega),ieq_d,bnot]
 by_cases h1:q.Op=4\/q.Op=5
 .have:(decide (q.Op=4)||decide (q.Op=5))=true:=by simpa using h1
  simp only[this,decide_eq_true h1,Bool.true_and,if_true,bS']
  rw[show((k+1:Nat):Int)=(k:Int)+1 from by omega]
 .have:(decide (q.Op=4)||decide (q.Op=5))=false:=by simpa using h1
  simp only[this,decide_eq_false h1,Bool.false_and]
theorem hasTarget_val (q:gQuad):jC q=some (decide (q.Op=4\/q.Op=5)):=by
 unfold jC
 simp only[if_or,bS',ieq_d]
 rw[show(decide (q.Op=4)||decide (q.Op=5))=decide (q.Op=4\/q.Op=5) by rw[Bool.eq_iff_iff];simp]
theorem Ok.squeezeI {l:List gQuad}(hc:zU false l):Ok (kP l) (fun r=>r.2=true/\Marks l (tV l)/\SOf l (tV l) r.1):=by
 have hl:=hc.1
 obtain⟨R,eR,hlen,hM⟩:=reach_marks hc
 have eG:tV l=R:=by unfold tV;rw[eR];rfl
 rw[eG]
 unfold kP
 have hm:makex 8 (ilen l) (0:Int)=some (List.replicate l.length 0):=by
  unfold makex ilen
  rw[if_pos (by unfold maxLen;omega)]
  simp
 rw[tP,kB hc,bS',if_neg (by simp[bnot]),hm,bS',eR,bS']
 have nle:∀k,numB l R k<=k:=fun k=>by
  unfold numB
  have:=List.length_filter_le (keepB l R) (List.range k)
  simpa using this
 have key:Ok (loopM (jH l R) (0,List.replicate l.length 0,[])) (fun e=>e.1.length=l.length/\(∀k:Nat,k<l.length->e.1[k]? =some (numB l R k:Int))/\e.2.length=numB l R l.length/\∀(k:Nat) (q:gQuad),l[k]? =some q->keepB l R k=true->e.2[numB l R k]? =some q):=by
  refine Ok.loop (fun s:Int×List Int×List gQuad=>∃i:Nat,s.1=(i:Int)/\i<=l.length/\s.2.1.length=l.length/\(∀k:Nat,k<i->s.2.1[k]? =some (numB l R k:Int))/\s.2.2.length=numB l R i/\∀(k:Nat) (q:gQuad),k<i->l[k]? =some q->keepB l R k=true->s.2.2[numB l R k]? =some q) (fun s=>l.length-s.1.toNat) _ ⟨0,rfl,by omega,by simp,by omega,rfl,by omega⟩ ?_
  rintro⟨_,N,OO⟩ ⟨i,rfl,h1,h2,h3,h4,h5⟩
  simp only at h2 h3 h4 h5
  unfold jH
  dsimp only
  refine Ok.ite (fun hi=>?_) fun hi=>?_
  .rw[zC,zB,hlen] at hi
   have hi':i<l.length:=by omega
   have g:=List.getElem?_eq_getElem hi'
   have gR:=List.getElem?_eq_getElem (show i<R.length by omega)
   have gN:=List.getElem?_eq_getElem (show i<N.length by omega)
   have hni:=nle i
   rw[zQ gR,bS',zQ gN,bS',pP _ (zQ gN),bS',zQ g,iadd1 (by omega),Int.toNat_natCast]
   have hkb:(if R[i]=true then((some l[i]).bind fun v12=>(jZ v12 (i:Int)).bind fun r13=>some r13) else some false)=some (keepB l R i):=by
    unfold keepB
    rw[g]
    simp only
    cases hb:R[i] with
    |true=>rw[if_pos rfl,bS',effect_val _ _ (by omega),bS',gR,hb];simp
    |false=>rw[if_neg (by simp),gR,hb];simp
   rw[hkb,bS']
   have hN:∀k:Nat,k<i+1->(N.set i (ilen OO))[k]? =some (numB l R k:Int):=by
    intro k hk
    by_cases e:i=k
    .subst e
     rw[List.getElem?_set_self (by omega),zB,h4]
    .rw[List.getElem?_set_ne e]
     exact h3 k (by omega)
   cases hkp:keepB l R i with
   |true=>
    rw[if_pos rfl,bS',kT 40 _ _ (by simp only[List.length_singleton];unfold maxLen;omega),bS']
    refine Ok.pure ⟨⟨i+1,rfl,by omega,by simp[h2],hN,by rw[vJ,if_pos hkp];simp[h4],fun k q hk hq hkk=>?_⟩,by simp only;omega⟩
    rcases Nat.lt_or_ge k i with h|h
    .have:=h5 k q h hq hkk
     simp only
     rw[List.getElem?_append_left (by have:=(List.getElem?_eq_some_iff.1 this).1;omega)]
     exact this
    .have:k=i:=by omega
     subst this
     rw[g] at hq
     cases hq
     simp only
     rw[List.getElem?_append_right (by omega),h4]
     simp
   |false=>
    rw[if_neg (by simp)]
    refine Ok.pure ⟨⟨i+1,rfl,by omega,by simp[h2],hN,by rw[vJ,hkp];simpa using h4,fun k q hk hq hkk=>?_⟩,by simp only;omega⟩
    rcases Nat.lt_or_ge k i with h|h
    .exact h5 k q h hq hkk
    .have:k=i:=by omega
     subst this
     rw[hkp] at hkk;cases hkk
  .rw[zC,zB,hlen] at hi
   have:i=l.length:=by omega
   subst this
   exact Ok.pure ⟨h2,h3,h4,fun k q hq hk=>h5 k q (List.getElem?_eq_some_iff.1 hq).1 hq hk⟩
 obtain⟨e,ee,k1,k2,k3,k4⟩:=key
 rw[ee,bS']
 obtain⟨N,OO⟩:=e
 simp only at k1 k2 k3 k4 ⊢
 have hO:OO.length<=l.length:=by rw[k3];exact nle _
 have orig:∀{i:Nat} {p:gQuad},OO[i]? =some p->∃k,l[k]? =some p/\keepB l R k=true/\numB l R k=i:=by
  intro i p hp
  obtain⟨k,h1,h2,h3⟩:=numB_at l R l.length i (by rw[<- k3];exact(List.getElem?_eq_some_iff.1 hp).1)
  have:=k4 k _ (List.getElem?_eq_getElem h1) h2
  rw[h3,hp] at this
  cases this
  exact⟨k,List.getElem?_eq_getElem h1,h2,h3⟩
 refine Ok.bind (P:=fun m=>m.length=OO.length/\∀(i:Nat) (p:gQuad),OO[i]? =some p->m[i]? =some (sqQ l R p)) ?_ fun m hmm=>Ok.pure ⟨rfl,hM,⟨by rw[hmm.1,k3],fun k q hq hk=>hmm.2 _ _ (k4 k q hq hk)⟩⟩
 refine Ok.loop (fun s:Int×List Int×List gQuad=>∃i:Nat,s.1=(i:Int)/\i<=OO.length/\s.2.1=N/\s.2.2.length=OO.length/\∀(k:Nat) (p:gQuad),OO[k]? =some p->(k<i->s.2.2[k]? =some (sqQ l R p))/\(i<=k->s.2.2[k]? =some p)) (fun s=>OO.length-s.1.toNat) _ ⟨0,rfl,by omega,rfl,rfl,fun k p hp=>⟨by omega,fun _=>hp⟩⟩ ?_
 rintro⟨_,N',m⟩ ⟨i,rfl,h1,rfl,h2,h3⟩
 simp only at h2 h3
 unfold wF
 dsimp only
 refine Ok.ite (fun hi=>?_) fun hi=>?_
 .rw[zC,zB] at hi
  have hi':i<OO.length:=by omega
  have gO:=List.getElem?_eq_getElem hi'
  have gm:=(h3 i _ gO).2 (Nat.le_refl _)
  rw[zQ gm,bS',hasTarget_val,bS',iadd1 (by omega)]
  obtain⟨k,b1,b2,b3⟩:=orig gO
  refine Ok.ite (fun ho=>?_) fun ho=>?_
  .rw[decide_eq_true_iff] at ho
   have hin:=(nY hc (List.getElem?_eq_some_iff.1 b1).1).2 _ (target_nxt b1 ho)
   have gN:=k2 (OO[i]).N.toNat (by omega)
   rw[fJ hin.1 gN,bS',pP _ (zQ gm),bS',Int.toNat_natCast]
   refine Ok.pure ⟨⟨i+1,rfl,by omega,rfl,by simp[h2],fun j p hp=>?_⟩,by simp only;omega⟩
   simp only
   by_cases e:i=j
   .subst e
    rw[gO] at hp
    cases hp
    refine⟨fun _=>?_,fun h=>by omega⟩
    rw[List.getElem?_set_self (by omega)]
    unfold sqQ
    rw[if_pos ho]
   .rw[List.getElem?_set_ne e]
    obtain⟨c1,c2⟩:=h3 j p hp
    exact⟨fun h=>c1 (by omega),fun h=>c2 (by omega)⟩
  .rw[decide_eq_true_iff] at ho
   refine Ok.pure ⟨⟨i+1,rfl,by omega,rfl,h2,fun j p hp=>?_⟩,by simp only;omega⟩
   obtain⟨c1,c2⟩:=h3 j p hp
   refine⟨fun h=>?_,fun h=>c2 (by omega)⟩
   by_cases e:i=j
   .subst e
    rw[gO] at hp
    cases hp
    rw[gm]
    unfold sqQ
    rw[if_neg ho]
   .exact c1 (by omega)
 .rw[zC,zB] at hi
  have:i=OO.length:=by omega
  subst this
  exact Ok.pure ⟨h2,fun k p hp=>(h3 k p hp).1 (List.getElem?_eq_some_iff.1 hp).1⟩
noncomputable def sqG (l:List gQuad):List gQuad:=match kP l with|some r=>r.1|none=>l
theorem sqG_val {l:List gQuad}(hc:zU false l):kP l=some (sqG l,true)/\Marks l (tV l)/\SOf l (tV l) (sqG l):=by
 obtain⟨r,e,h1,h2,h3⟩:=Ok.squeezeI hc
 unfold sqG
 rw[e]
 refine⟨?_,h2,h3⟩
 obtain⟨a,b⟩:=r
 simp only at h1
 rw[h1]
theorem rests0 (rooms:List Int)(codes:List (List gQuad)):Rests (crew0 rooms codes):=fun j hj=>by exfalso;simp only[crew0] at hj;omega
theorem SR.start {rooms:List Int}{codes:List (List gQuad)}(hC:CrewOk (crew0 rooms codes)):CrewOk (crew0 rooms (codes.map sqG))/\SR (crew0 rooms codes) (crew0 rooms (codes.map sqG)):=by
 have hD:=crew0_map hC sqG fun x _ hx=>by obtain⟨_,a,b⟩:=sqG_val hx;exact SOf.ok hx a b
 refine⟨hD,hC,hD,by simp[crew0],rfl,rfl,fun k l m e1 e2=>?_,fun k l t u e0 e1 e2=>?_,rests0 _ _,rests0 _ _,fun _=>⟨rfl,Int.le_refl _⟩⟩
 .simp only[crew0,List.getElem?_map] at e1 e2
  rw[e1] at e2
  cases e2
  exact(sqG_val (codes_ok hC l (List.mem_of_getElem? e1))).2
 .simp only[crew0,List.length_map] at e0 e1 e2
  rw[(List.mem_replicate.1 (List.mem_of_getElem? e1)).2,(List.mem_replicate.1 (List.mem_of_getElem? e2)).2]
  refine⟨rfl,(sqG_val (codes_ok hC l (List.mem_of_getElem? e0))).2.1.start,?_⟩
  simp[thr0,numB]
end Go.Abs
