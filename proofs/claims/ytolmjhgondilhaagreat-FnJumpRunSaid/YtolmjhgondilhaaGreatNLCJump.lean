/- laws.FnJumpRun's mirror: true for each code. -/
import Derived.Test.YtolmjhgondilhaaGreatNLRest
import Derived.Test.YtolmjhgondilhaaGreatNCNJumpRun
set_option linter.unusedSimpArgs false
set_option linter.unusedVariables false
set_option maxHeartbeats 8000000
namespace Go.Abs
open Go

inductive JC (l:List gQuad):Int->Int->Prop
 |refl (a:Int):JC l a a
 |jump {a b:Int} {q:gQuad} (h0:0<=a) (hq:l[a.toNat]? =some q) (ho:q.Op=4) (h:JC l q.N b):JC l a b
theorem JC.snoc {l:List gQuad}{a b:Int}{q:gQuad}(h:JC l a b)(h0:0<=b)(hq:l[b.toNat]? =some q)(ho:q.Op=4):JC l a q.N:=by
 induction h with
 |refl a=>exact .jump h0 hq ho (.refl _)
 |jump h1 h2 h3 _ ih=>exact .jump h1 h2 h3 (ih h0 hq)
theorem JC.inv {l:List gQuad}{a b:Int}(h:JC l a b):a=b\/∃q,l[a.toNat]? =some q/\q.Op=4/\JC l q.N b:=by
 cases h with
 |refl=>exact .inl rfl
 |jump h0 hq ho h=>exact .inr ⟨_,hq,ho,h⟩
theorem target_in {l:List gQuad}(hc:zX false l){k:Nat}{q:gQuad}(hq:l[k]? =some q)(ho:q.Op=4\/q.Op=5):0<=q.N/\q.N<l.length:=by
 rcases hc.2.1 q (List.mem_of_getElem? hq) with h|h|h|h|h|h|h|h|h|h
 case inr.inr.inr.inl=>exact h.2.2.2.2
 case inr.inr.inr.inr.inl=>exact h.2.2.2.2
 all_goals (have:=h.1;omega)
theorem Ok.targetI {l:List gQuad}(hc:zX false l){a:Int}(ha:0<=a/\a<l.length):Ok (sH l a) (fun b=>(0<=b/\b<l.length)/\JC l a b):=by
 unfold sH
 have hl:=hc.1
 refine Ok.bind (P:=fun e:Sum Unit Int=>∀b,e=.inr b->(0<=b/\b<l.length)/\JC l a b) ?_ fun e he=>?_
 .refine Ok.loop (fun s:Int×Int=>(∃k:Nat,s.2=(k:Int)/\k<=l.length)/\(0<=s.1/\s.1<l.length)/\JC l a s.1) (fun s=>l.length-s.2.toNat) _ ⟨⟨0,rfl,by omega⟩,ha,.refl _⟩ ?_
  rintro⟨x,i⟩ ⟨⟨k,rfl,hk⟩,h1,h2⟩
  simp only at h1 h2
  unfold pW
  dsimp only
  refine Ok.ite (fun hi=>?_) fun _=>Ok.pure (fun b hb=>by cases hb)
  rw[zE,zC] at hi
  have hx:x.toNat<l.length:=by omega
  have g:=List.getElem?_eq_getElem hx
  rw[nF h1.1 g,bS',iadd1 (by omega)]
  refine Ok.ite (fun _=>Ok.pure (fun b hb=>by cases hb;exact⟨h1,h2⟩)) fun ho=>?_
  have ho4:l[x.toNat].Op=4:=by rw[xJ] at ho;exact Classical.not_not.1 ho
  exact Ok.pure ⟨⟨⟨k+1,rfl,by omega⟩,target_in hc g (.inl ho4),h2.snoc h1.1 g ho4⟩,by simp only;omega⟩
 .cases e with
  |inl _=>exact Ok.pure ⟨ha,.refl _⟩
  |inr b=>exact Ok.pure (he b rfl)
def JQ (l:List gQuad)(q p:gQuad):Prop:=p.Op=q.Op/\p.Dst=q.Dst/\p.A=q.A/\p.B=q.B/\(q.Op≠4->q.Op≠5->p.N=q.N)/\(q.Op=4\/q.Op=5->(0<=p.N/\p.N<l.length)/\JC l q.N p.N)
def JOf (l m:List gQuad):Prop:=m.length=l.length/\∀(k:Nat) (q:gQuad),l[k]? =some q->∃p,m[k]? =some p/\JQ l q p
theorem Ok.jumpI {l:List gQuad}(hc:zX false l):Ok (vE l) (fun r=>r.2=true/\JOf l r.1):=by
 unfold vE
 have hl:=hc.1
 have e0:zS l=some l:=cloneQ_id l (by omega)
 rw[dD,kM hc,bS',if_neg (by simp[bnot]),e0,bS']
 refine Ok.bind (P:=fun m=>JOf l m) ?_ fun m hm=>Ok.pure ⟨rfl,hm⟩
 refine Ok.loop (fun s:Int×List gQuad=>∃k:Nat,s.1=(k:Int)/\k<=l.length/\s.2.length=l.length/\(∀(i:Nat) (q:gQuad),i<k->l[i]? =some q->∃p,s.2[i]? =some p/\JQ l q p)/\∀i:Nat,k<=i->s.2[i]? =l[i]?) (fun s=>l.length-s.1.toNat) _ ⟨0,rfl,by omega,rfl,by omega,fun _ _=>rfl⟩ ?_
 rintro⟨_,m⟩ ⟨k,rfl,h1,h2,h3,h4⟩
 simp only at h2 h3 h4
 unfold gC
 dsimp only
 refine Ok.ite (fun hi=>?_) fun hi=>?_
 .rw[zE,zC] at hi
  have hk:k<l.length:=by omega
  have g:=List.getElem?_eq_getElem hk
  have gm:m[k]? =some l[k]:=by rw[h4 k (Nat.le_refl _)];exact g
  rw[zU g,bS',iadd1 (by omega)]
  unfold gA
  simp only[if_or,bS']
  refine Ok.ite (fun ho=>?_) fun ho=>?_
  .have ho':l[k].Op=4\/l[k].Op=5:=by simpa [ieq] using ho
   have ht:=target_in hc g ho'
   refine Ok.bind (Ok.targetI hc ht) fun b hb=>?_
   rw[zU gm,bS',sN _ (zU gm),bS']
   refine Ok.pure ⟨⟨k+1,rfl,by omega,by simp[h2],fun i q hik hq=>?_,fun i hik=>?_⟩,by simp only;omega⟩
   .rcases Nat.lt_or_ge i k with hlt|hge
    .obtain⟨p,hp,hjq⟩:=h3 i q hlt hq
     refine⟨p,?_,hjq⟩
     simp only[Int.toNat_natCast]
     rw[List.getElem?_set_ne (by omega)];exact hp
    .have:i=k:=by omega
     subst this
     rw[g] at hq
     cases hq
     refine⟨⟨_,_,_,_,b⟩,by simp only[Int.toNat_natCast];exact List.getElem?_set_self (by omega),rfl,rfl,rfl,rfl,fun a b'=>?_,fun _=>hb⟩
     rcases ho' with h|h
     .exact absurd h a
     .exact absurd h b'
   .simp only[Int.toNat_natCast]
    rw[List.getElem?_set_ne (by omega)];exact h4 i (by omega)
  .have ho':¬(l[k].Op=4\/l[k].Op=5):=by simpa [ieq] using ho
   refine Ok.pure ⟨⟨k+1,rfl,by omega,h2,fun i q hik hq=>?_,fun i hik=>h4 i (by omega)⟩,by simp only;omega⟩
   rcases Nat.lt_or_ge i k with hlt|hge
   .exact h3 i q hlt hq
   .have:i=k:=by omega
    subst this
    rw[g] at hq
    cases hq
    exact⟨_,gm,rfl,rfl,rfl,rfl,fun _ _=>rfl,fun h=>absurd h ho'⟩
 .rw[zE,zC] at hi
  have:k=l.length:=by omega
  subst this
  exact Ok.pure ⟨h2,fun i q hq=>h3 i q (List.getElem?_eq_some_iff.1 hq).1 hq⟩
theorem JQ.valid {l:List gQuad}{q p:gQuad}(h:JQ l q p){m:Int}(hm:m=l.length)(hq:QV false q m):QV false p m:=by
 obtain⟨a1,a2,a3,a4,a5,a6⟩:=h
 unfold QV at hq ⊢
 rw[a1,a2,a3,a4]
 rcases hq with k|k|k|k|k|k|k|k|k|k
 .rw[a5 (by omega) (by omega)];exact .inl k
 .rw[a5 (by omega) (by omega)];exact .inr (.inl k)
 .rw[a5 (by omega) (by omega)];exact .inr (.inr (.inl k))
 .exact .inr (.inr (.inr (.inl ⟨k.1,k.2.1,k.2.2.1,k.2.2.2.1,hm▸(a6 (.inl k.1)).1⟩)))
 .exact .inr (.inr (.inr (.inr (.inl ⟨k.1,k.2.1,k.2.2.1,k.2.2.2.1,hm▸(a6 (.inr k.1)).1⟩))))
 .rw[a5 (by omega) (by omega)];exact .inr (.inr (.inr (.inr (.inr (.inl k)))))
 .rw[a5 (by omega) (by omega)];exact .inr (.inr (.inr (.inr (.inr (.inr (.inl k))))))
 .rw[a5 (by omega) (by omega)];exact .inr (.inr (.inr (.inr (.inr (.inr (.inr (.inl k)))))))
 .rw[a5 (by omega) (by omega)];exact .inr (.inr (.inr (.inr (.inr (.inr (.inr (.inr (.inl k))))))))
 .rw[a5 (by omega) (by omega)];exact .inr (.inr (.inr (.inr (.inr (.inr (.inr (.inr (.inr k))))))))
theorem JOf.at {l m:List gQuad}(h:JOf l m){k:Nat}{p:gQuad}(hp:m[k]? =some p):∃q,l[k]? =some q/\JQ l q p:=by
 have hk:k<l.length:=by rw[<- h.1];exact(List.getElem?_eq_some_iff.1 hp).1
 obtain⟨p',e,hj⟩:=h.2 k _ (List.getElem?_eq_getElem hk)
 rw[hp] at e
 cases e
 exact⟨_,List.getElem?_eq_getElem hk,hj⟩
theorem JOf.ok {l m:List gQuad}(h:JOf l m)(hc:zX false l):zX false m/\∀n,Talks l n->Talks m n:=by
 have hl:=hc.1
 refine⟨⟨by rw[h.1];exact hl,fun p hp=>?_,fun p hp=>?_⟩,fun n ht p hp ho=>?_⟩
 .obtain⟨k,hk⟩:=List.mem_iff_getElem?.1 hp
  obtain⟨q,hq,hj⟩:=h.at hk
  rw[h.1]
  exact hj.valid rfl (hc.2.1 q (List.mem_of_getElem? hq))
 .rw[h.1] at hp
  obtain⟨q,hq,hj⟩:=h.at hp
  rw[hj.1]
  exact hc.2.2 q hq
 .obtain⟨k,hk⟩:=List.mem_iff_getElem?.1 hp
  obtain⟨q,hq,hj⟩:=h.at hk
  rw[hj.1] at ho
  rw[hj.2.2.2.2.1 (by omega) (by omega)]
  exact ht q (List.mem_of_getElem? hq) ho
noncomputable def jumpG (l:List gQuad):List gQuad:=match vE l with|some r=>r.1|none=>l
theorem jumpG_val {l:List gQuad}(hc:zX false l):vE l=some (jumpG l,true)/\JOf l (jumpG l):=by
 obtain⟨r,e,h1,h2⟩:=Ok.jumpI hc
 unfold jumpG
 rw[e]
 refine⟨?_,h2⟩
 obtain⟨a,b⟩:=r
 simp only at h1
 rw[h1]
structure JR (c d:gCrew):Prop where
 ok:CrewOk c
 ok':CrewOk d
 many:d.Codes.length=c.Codes.length
 box:d.Boxes=c.Boxes
 turn:d.Turn=c.Turn
 idle:d.Idle=c.Idle
 out:d.Out=c.Out
 codes:∀(k:Nat) l m,c.Codes[k]? =some l->d.Codes[k]? =some m->JOf l m
 thr:∀(k:Nat) l t u,c.Codes[k]? =some l->c.Threads[k]? =some t->d.Threads[k]? =some u->u.Regs=t.Regs/\JC l t.Pc u.Pc/\(t.Pc≠u.Pc->k=c.Turn.toNat/\c.Idle=0)
theorem jump_step {l m:List gQuad}{t u:gThread}{bx:List gBox}{q p:gQuad}(h:Can l t bx q)(hj:JQ l q p)(e:u=t):(thrP p u bx).2=(thrP q t bx).2/\(thrP p u bx).1.Regs=(thrP q t bx).1.Regs/\JC l (thrP q t bx).1.Pc (thrP p u bx).1.Pc/\((thrP q t bx).1.Pc≠(thrP p u bx).1.Pc->(thrP q t bx).2.2.2=1):=by
 subst e
 obtain⟨a1,a2,a3,a4,a5,a6⟩:=hj
 by_cases h4:q.Op=4
 .unfold thrP
  simp only[a1,h4]
  exact⟨rfl,rfl,(a6 (.inl h4)).2,fun _=>rfl⟩
 by_cases h5:q.Op=5
 .unfold thrP
  simp only[a1,a3,h5]
  refine⟨rfl,rfl,?_,fun _=>rfl⟩
  by_cases hz:rgv u q.A=0
  .simp only[hz];exact(a6 (.inr h5)).2
  .simp only[hz];exact .refl _
 .have:p=q:=by
   obtain⟨p1,p2,p3,p4,p5⟩:=p
   obtain⟨q1,q2,q3,q4,q5⟩:=q
   simp only at a1 a2 a3 a4 a5 h4 h5
   rw[a1,a2,a3,a4,a5 h4 h5]
  subst this
  exact⟨rfl,rfl,.refl _,fun h=>absurd rfl h⟩
theorem JR.step {c d:gCrew}(h:JR c d):JR (crewS c) d\/JR (crewS c) (crewS d):=by
 by_cases hi:c.Idle<c.Codes.length
 .obtain⟨l,t,q,h1,h2,h3,h4,h5⟩:=h.ok.now
  obtain⟨m,u,p,g1,g2,g3,g4,g5⟩:=h.ok'.now
  have k1:=h.ok.step
  have k2:=h.ok'.step
  rw[wQ hi h1 h2 h3] at k1 ⊢
  rw[wQ (by rw[h.idle,h.many];exact hi) g1 g2 g3] at k2 ⊢
  rw[h.turn] at g1 g2
  have hjof:=h.codes _ l m h1 g1
  obtain⟨r1,r2,r3⟩:=h.thr _ l t u h1 h2 g2
  have ht2:=(List.getElem?_eq_some_iff.1 h2).1
  have hu2:=(List.getElem?_eq_some_iff.1 g2).1
  by_cases e:t.Pc=u.Pc
  .right
   obtain⟨p',e1,hj⟩:=hjof.2 _ q h3
   rw[e,g3] at e1
   cases e1
   have eu:u=t:=by
    obtain⟨a,b⟩:=t
    obtain⟨a',b'⟩:=u
    simp only at r1 e
    rw[r1,e]
   rw[h.box] at k2 ⊢
   obtain⟨s1,s2,s3,s4⟩:=jump_step (m:=m) h4 hj eu
   refine⟨k1,k2,h.many,?_,?_,?_,?_,h.codes,fun k l' t' u' e0 e1 e2=>?_⟩
   .simp only[crewG,s1]
   .simp only[crewG,s1,h.many,h.turn,h.idle]
   .simp only[crewG,s1,h.many,h.turn,h.idle]
   .simp only[crewG,s1,h.out]
   .simp only[crewG,h.turn] at e0 e1 e2 ⊢
    by_cases hk:c.Turn.toNat=k
    .subst hk
     rw[List.getElem?_set_self ht2] at e1
     rw[List.getElem?_set_self hu2] at e2
     rw[h1] at e0
     cases e0;cases e1;cases e2
     refine⟨s2,s3,fun hne=>?_⟩
     rw[s4 hne]
     exact⟨rfl,rfl⟩
    .rw[List.getElem?_set_ne hk] at e1 e2
     obtain⟨b1,b2,b3⟩:=h.thr k l' t' u' e0 e1 e2
     exact⟨b1,b2,fun hne=>absurd (b3 hne).1.symm hk⟩
  .left
   have hz:=(r3 e).2
   rcases r2.inv with e'|⟨q',xq,xo,xj⟩
   .exact absurd e' e
   .rw[h3] at xq
    cases xq
    have et:thrP q t c.Boxes=(⟨t.Regs,q.N⟩,c.Boxes,[],1):=by unfold thrP;simp only[xo];rfl
    rw[et] at k1 ⊢
    refine⟨k1,h.ok',h.many,h.box,h.turn,?_,?_,h.codes,fun k l' t' u' e0 e1 e2=>?_⟩
    .simp only[crewG,nextT,h.idle,hz];rfl
    .simp only[crewG,h.out,List.append_nil]
    .simp only[crewG] at e0 e1 ⊢
     by_cases hk:c.Turn.toNat=k
     .subst hk
      rw[List.getElem?_set_self ht2] at e1
      rw[h1] at e0
      rw[g2] at e2
      cases e0;cases e1;cases e2
      exact⟨r1,xj,fun _=>⟨rfl,rfl⟩⟩
     .rw[List.getElem?_set_ne hk] at e1
      obtain⟨b1,b2,b3⟩:=h.thr k l' t' u' e0 e1 e2
      exact⟨b1,b2,fun hne=>absurd (b3 hne).1.symm hk⟩
 .left;rw[vH hi];exact h
theorem JR.rest {c d:gCrew}(h:JR c d)(hc:CrewOk c)(hi:¬c.Idle<c.Codes.length):¬d.Idle<d.Codes.length/\outc d=outc c:=by
 refine⟨by rw[h.idle,h.many];exact hi,?_⟩
 have hm:=hc.many
 have hlen:d.Threads.length=c.Threads.length:=by rw[h.ok'.same,h.ok.same,h.many]
 unfold outc
 rw[h.out,h.box,h.idle,hlen]
 congr 1
 refine List.map_congr_left fun k hk=>?_
 have hk1:k<c.Threads.length:=List.mem_range.1 hk
 have hk2:k<c.Codes.length:=by rw[<- hc.same];exact hk1
 have a1:=List.getElem?_eq_getElem hk2
 have a2:=List.getElem?_eq_getElem hk1
 have b1:=List.getElem?_eq_getElem (show k<d.Codes.length by rw[h.many];exact hk2)
 have b2:=List.getElem?_eq_getElem (show k<d.Threads.length by rw[hlen];exact hk1)
 obtain⟨r1,r2,r3⟩:=h.thr k _ _ _ a1 a2 b2
 have hj:=h.codes k _ _ a1 b1
 have e:c.Threads[k].Pc=d.Threads[k].Pc:=by
  refine Decidable.byContradiction fun hne=>?_
  have:=(r3 hne).2
  omega
 obtain⟨_,c2,_⟩:=hc.thr k _ _ a1 a2
 have hp:c.Threads[k].Pc.toNat<c.Codes[k].length:=by obtain⟨_,_,p1,p2⟩:=c2;omega
 obtain⟨p,e1,e2⟩:=hj.2 _ _ (List.getElem?_eq_getElem hp)
 simp only[a1,a2,b1,b2,<- e,e1,List.getElem?_eq_getElem hp,e2.1]
theorem fnJumpRun_true (l:List Int)(hb:Bytes l)(hl:l.length<=maxLen):hO l=some true:=by
 unfold hO
 refine headC1 hb hl fun r z1 z2 z3 hC h0=>?_
 have hcode:∀x∈r.2,zX false x:=fun x hx=>by
  obtain⟨k,hk,rfl⟩:=List.getElem_of_mem hx
  have h2:k<(List.replicate r.2.length thr0).length:=by simpa using hk
  exact(hC.thr k _ _ (List.getElem?_eq_getElem hk) (List.getElem?_eq_getElem h2)).1
 rw[pass_loop r.2 vE jumpG (by have:=z2.1;omega) (fun x hx=>(jumpG_val (hcode x hx)).1) (fun i o=>rfl),bS']
 have hD:=crew0_map hC jumpG fun x _ hx=>(jumpG_val hx).2.ok hx
 dsimp only
 rw[restsAs_true (R:=JR) (fun c d h=>h.step) (fun c d h=>h.rest) (by omega) z3 hC hD ?_ (by decide)]
 .rfl
 .refine⟨hC,hD,by simp[crew0],rfl,rfl,rfl,rfl,fun k l m e1 e2=>?_,fun k l t u e0 e1 e2=>?_⟩
  .simp only[crew0,List.getElem?_map] at e1 e2
   rw[e1] at e2
   cases e2
   exact(jumpG_val (hcode l (List.mem_of_getElem? e1))).2
  .simp only[crew0,List.length_map] at e1 e2
   rw[e1] at e2
   cases e2
   exact⟨rfl,.refl _,fun h=>absurd rfl h⟩
end Go.Abs
