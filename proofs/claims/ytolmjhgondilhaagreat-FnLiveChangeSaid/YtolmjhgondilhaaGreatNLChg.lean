/- laws.FnLiveChange's mirror: true for each code. -/
import Derived.Test.YtolmjhgondilhaaGreatNLLOf
import Derived.Test.YtolmjhgondilhaaGreatNCNLiveChange
set_option linter.unusedSimpArgs false
set_option linter.unusedVariables false
set_option maxHeartbeats 8000000
namespace Go.Abs
open Go

section
variable {l:List gQuad} {t:gThread} {bx:List gBox} {q:gQuad}
theorem thread_step_mo (h:Can l t bx q){o:List Int}(ho:o.length<=1000000):jG t l bx o=some ((thrP q t bx).2.2.2,(thrP q t bx).1,l,(thrP q t bx).2.1,o++(thrP q t bx).2.2.1):=by
 have hf:=h.fit
 unfold jG
 rw[h.idx,bS',h.pc]
 refine h.cases (P:=fun r=>_=some (r.2.2.2,r.1,l,r.2.1,o++r.2.2.1)) ?_ ?_ ?_ ?_ ?_ ?_ ?_ ?_ ?_ ?_ ?_
 .intro k1 k2 k3
  rw[if_pos (ieq_t k1),(kZ hf k2).2.2,bS',h.set k2]
  simp
 .intro k1 k2 k3
  simp only[ieq_d,Int.reduceEq,decide_false,decide_true,if_true,Bool.false_eq_true,if_false,bS',k1,(kZ hf k2).2.2,(kZ hf k3).2.2,h.set k2,List.append_nil]
 .intro k1 k2 k3 k4 k5
  simp only[ieq_d,Int.reduceEq,decide_false,decide_true,if_true,Bool.false_eq_true,if_false,bS',k1,(kZ hf k2).2.2,(kZ hf k3).2.2,(kZ hf k4).2.2,(apv_at k5 (kZ hf k3).2.1 (kZ hf k4).2.1).1,h.set k2,List.append_nil]
 .intro k1 k2 k3
  simp only[ieq_d,Int.reduceEq,decide_false,decide_true,if_true,Bool.false_eq_true,if_false,bS',k1,List.append_nil]
 .intro k1 k2 k3 k4
  simp only[ieq_d,Int.reduceEq,decide_false,decide_true,if_true,Bool.false_eq_true,if_false,bS',k1,(kZ hf k2).2.2,List.append_nil]
  by_cases hz:rgv t q.A=0
  .simp[hz]
  .simp[hz]
 .intro k1 k2 k3 b k4 k5
  obtain⟨ok,b',e1,e2,e3,e4,_⟩:=put_eq b (rgv t q.A) k5 ((fT _).2 (kZ hf k2).2.1)
  simp only[ieq_d,Int.reduceEq,decide_false,decide_true,if_true,Bool.false_eq_true,if_false,bS',k1,(kZ hf k2).2.2,oY k3 k4,e1,uZ b' (oY k3 k4),List.append_nil]
  cases ok
  .rw[if_pos (by rfl),if_neg (by intro hc;have:=e4.2 hc;cases this),e2 rfl,set_self k4]
   simp
  .rw[if_neg (by simp[bnot]),if_pos (e4.1 rfl),e3 rfl]
   simp
 .intro k1 k2 k3 r x s k4 k5
  obtain⟨v,ok,b',e1,e2,e3,e4,_⟩:=take_eq ⟨r,x::s⟩ k5
  obtain rfl:ok=true:=e3.2 (by simp)
  obtain⟨u,e5,e6⟩:=e4 rfl
  cases e5
  simp only[ieq_d,Int.reduceEq,decide_false,decide_true,if_true,Bool.false_eq_true,if_false,bS',k1,oY k3 k4,e1,uZ b' (oY k3 k4),List.append_nil]
  rw[if_neg (by simp[bnot]),(kZ hf k2).2.2,bS',h.set k2,e6]
  rfl
 .intro k1 k2 k3 r k4 k5
  obtain⟨v,ok,b',e1,e2,e3,e4,_⟩:=take_eq ⟨r,[]⟩ k5
  have hok:ok=false:=by
   cases ok
   .rfl
   .exact absurd rfl (e3.1 rfl)
  subst hok
  simp only[ieq_d,Int.reduceEq,decide_false,decide_true,if_true,Bool.false_eq_true,if_false,bS',k1,oY k3 k4,e1,uZ b' (oY k3 k4),List.append_nil]
  rw[if_pos (by rfl),e2 rfl,set_self k4]
  rfl
 .intro k1
  simp only[ieq_d,Int.reduceEq,decide_false,decide_true,if_true,Bool.false_eq_true,if_false,bS',k1,List.append_nil]
 .intro k1 k2
  simp only[ieq_d,Int.reduceEq,decide_false,decide_true,if_true,Bool.false_eq_true,if_false,bS',k1,(kZ hf k2).2.2]
  rw[kU 8 _ _ (by simp;unfold maxLen;omega)]
  rfl
 .intro k1
  simp only[ieq_d,Int.reduceEq,decide_false,decide_true,if_true,Bool.false_eq_true,if_false,bS',k1,List.append_nil]
end
section
variable {c:gCrew}
theorem iRun1_mo (h:CrewOk c)(hi:c.Idle<c.Codes.length)(ho:c.Out.length<=1000000):∃k,yC c.Turn (strip c)=some (k,strip (crewS c))/\xX c.Codes.length c.Turn c.Idle k=some ((crewS c).Turn,(crewS c).Idle,true):=by
 obtain⟨l,t,q,h1,h2,h3,h4,h5⟩:=h.now
 have h0:=h.turn.1
 have hn:=nextTurn_val (m:=c.Codes.length) (t:=c.Turn) (i:=c.Idle) (k:=(thrP q t c.Boxes).2.2.2) (by have:=h.many;omega) h.turn ⟨h.idle.1,hi⟩ (kind_in h4)
 rw[nS hi h1 h2 h3]
 refine⟨(thrP q t c.Boxes).2.2.2,?_,hn.1⟩
 unfold yC strip
 dsimp only
 rw[tF h0 h1,bS',tF h0 h2,bS',thread_step_mo h4 ho,bS',uZ _ (tF h0 h2),bS',setx_sameT (tF h0 h1)]
 rfl
theorem turns_mo (n:Nat):∀{c:gCrew},CrewOk c->n<=200000->c.Out.length+n<=1000000->
  loopM (zV (c.Codes.length:Int)) ((n:Int),c.Turn,c.Idle,strip c)=some (.inl ((crewN n c).Turn,(crewN n c).Idle,strip (crewN n c))):=by
 induction n with
 |zero=>
  intro c h _ _
  refine jZ ?_
  unfold zV
  dsimp only
  rw[if_neg (by simp[igt]),bS',if_neg (by simp)]
  rfl
 |succ n ih=>
  intro c h hn ho
  by_cases hi:c.Idle<c.Codes.length
  .obtain⟨k,e1,e2⟩:=iRun1_mo h hi (by omega)
   have hs:=crewS_out h
   have:=ih h.step (by omega) (by omega)
   rw[sU] at this
   rw[nG (s':=((n:Int),(crewS c).Turn,(crewS c).Idle,strip (crewS c))) ?_]
   .exact this
   unfold zV
   dsimp only
   rw[if_pos (by rw[yE];omega),bS',if_pos (by rw[zF];exact hi),e1,bS',e2,bS',if_neg (by simp[bnot]),yD _ _ (by omega)]
   simp
  .rw[crewN_rest hi]
   refine jZ ?_
   unfold zV
   dsimp only
   rw[if_pos (by rw[yE];omega),bS',if_neg (by rw[zF];exact hi)]
theorem iThreads_mo (h:SmallCr c)(d z:gCrew)(hd:d.Threads=[]):loopM (jT c) (0,z,d)=some (z,⟨d.Codes,c.Threads,d.Boxes,d.Turn,d.Idle,d.Out⟩):=by
 have hth:=h.thr
 refine kX c.Threads.length (fun k=>((k:Int),z,(⟨d.Codes,c.Threads.take k,d.Boxes,d.Turn,d.Idle,d.Out⟩:gCrew))) _ ?_ (fun k hk=>?_) ?_
 .simp[<- hd]
 .unfold jT
  dsimp only
  rw[if_pos (by rw[zF,zD];omega),zY (List.getElem?_eq_getElem hk),bS',fB,dT _ (by have:=h.regs _ (List.getElem_mem hk);omega),bS',kU 32 _ _ (by simp;unfold maxLen;omega),bS',iadd1 (by omega),List.take_add_one,List.getElem?_eq_getElem hk]
  rfl
 .unfold jT
  dsimp only
  rw[if_neg (by rw[zF,zD];omega),List.take_length]
theorem iRun_mo (h:SmallCr c)(n:Int)(ho:c.Out.length<=800000):jU c n=some (if crewB c=true/\0<=n/\n<=100000 then(crewN n.toNat c,true) else(zeroC,false)):=by
 unfold jU
 rw[iCrewValid h]
 simp only[if_or,bS']
 by_cases hg:crewB c=true/\0<=n/\n<=100000
 .obtain⟨g1,g2,g3⟩:=hg
  have hc:=(sV h).1 g1
  rw[if_pos (c:=crewB c=true/\0<=n/\n<=100000) ⟨g1,g2,g3⟩,g1,if_neg (by simp[bnot,ilt,igt];omega),show vW c.Codes=some c.Codes from gI h.codes,bS',fL,fI _ (by have:=h.box;omega) (fun b hb=>by have:=h.items b hb;omega),bS',fB,dT _ (by omega),bS',iThreads_mo h _ _ rfl,bS']
  dsimp only
  have hm:ilen c.Threads=(c.Codes.length:Int):=by rw[zD,hc.same]
  have ht:=turns_mo n.toNat hc (by omega) (by omega)
  rw[Int.toNat_of_nonneg g2] at ht
  unfold kF
  rw[hm]
  unfold strip at ht
  rw[ht]
  rfl
 .rw[if_neg (c:=crewB c=true/\0<=n/\n<=100000) hg]
  have:(bnot (crewB c)||ilt n 0||igt n 100000)=true:=by
   refine Decidable.byContradiction fun hn=>hg ?_
   simp only[Bool.not_eq_true,Bool.or_eq_false_iff,bnot,Bool.not_eq_false'] at hn
   obtain⟨⟨n1,n2⟩,n3⟩:=hn
   rw[Bool.eq_false_iff,ne_eq,zF] at n2
   rw[Bool.eq_false_iff,ne_eq,yE] at n3
   exact⟨n1,by omega,by omega⟩
  rw[this,if_pos rfl]
  rfl
end
def withT (c:gCrew)(k:Nat)(u:gThread):gCrew:=⟨c.Codes,c.Threads.set k u,c.Boxes,c.Turn,c.Idle,c.Out⟩
theorem withT_ok {c:gCrew}(h:CrewOk c){k:Nat}{l:List gQuad}(hl:c.Codes[k]? =some l){u:gThread}(hu:Fit u l.length):CrewOk (withT c k u):=by
 refine⟨h.many,by simp[withT,h.same],h.box,h.turn,h.idle,h.out,fun j l' t' a b=>?_⟩
 simp only[withT] at a b ⊢
 by_cases e:k=j
 .subst e
  have hk:k<c.Threads.length:=by have:=h.same;have:=(List.getElem?_eq_some_iff.1 hl).1;omega
  rw[List.getElem?_set_self hk] at b
  rw[hl] at a
  cases a;cases b
  obtain⟨z1,_,z3⟩:=h.thr k l _ hl (List.getElem?_eq_getElem hk)
  exact⟨z1,hu,z3⟩
 .rw[List.getElem?_set_ne e] at b
  exact h.thr j l' t' a b
theorem fnLiveChange_true (l m:List Int)(hb:Bytes l)(hl:l.length<=maxLen):vV l m=some true:=by
 unfold vV
 refine headC hb hl fun r z1 z2 z3 hC h0 hm=>?_
 rw[yE,zD] at hm
 have e1:remx (ilen m) 40=some ((m.length:Int) % 40):=by rw[zD,hJ _ _ (by omega) (by omega)]
 have eo:gZ=qQ:=rfl
 rw[e1,bS',eo,run_val (by omega) z3 hC (by omega),bS']
 have hx:=hC.steps ((m.length:Int) % 40).toNat
 have hout:=crewN_out hC ((m.length:Int) % 40).toNat
 have hcodes:(crewN ((m.length:Int) % 40).toNat (crew0 r.1 r.2)).Codes=r.2:=fW _
 have hout':(crewN ((m.length:Int) % 40).toNat (crew0 r.1 r.2)).Out.length<=100:=by simp only[crew0,List.length_nil] at hout ⊢;omega
 clear hout
 generalize crewN ((m.length:Int) % 40).toNat (crew0 r.1 r.2)=x at*
 have hs:=hx.small (by omega)
 have hmany:=hx.many
 have hsame:=hx.same
 rw[hcodes] at hmany hsame
 rw[if_neg (by rw[xR,zD,zD];omega)]
 have e2:remx (ilen m) (ilen r.2)=some ((m.length:Int) % (r.2.length:Int)):=by rw[zD,zD,hJ _ _ (by omega) (by omega)]
 have k0:=Int.emod_nonneg (m.length:Int) (show(r.2.length:Int)≠0 by omega)
 have k1:=Int.emod_lt_of_pos (m.length:Int) (show 0<(r.2.length:Int) by omega)
 rw[e2,bS']
 generalize (m.length:Int) % (r.2.length:Int)=k' at k0 k1
 obtain⟨k,rfl⟩:∃k:Nat,k'=(k:Int):=⟨k'.toNat,by omega⟩
 have hk:k<r.2.length:=by omega
 have hk2:k<x.Threads.length:=by omega
 have a1:=List.getElem?_eq_getElem hk
 have a2:=List.getElem?_eq_getElem hk2
 have a1':x.Codes[k]? =some r.2[k]:=by rw[hcodes];exact a1
 obtain⟨c1,c2,c3⟩:=hx.thr k _ _ a1' a2
 obtain⟨v1,v2,v3,_⟩:=liveOf_val c1
 rw[zY a1,bS',v1,bS',zY a2,bS']
 have hpc:=c2.2.2
 have hp2:(x.Threads[k]).Pc.toNat<(liveG r.2[k]).length:=by rw[v2.1];omega
 have a3:=List.getElem?_eq_getElem hp2
 have hrow:=v2.2 _ (List.getElem_mem hp2)
 rw[tF hpc.1 a3,bS',iRun_mo hs 60 (by omega),if_pos ⟨(sV hs).2 hx,by decide⟩,bS']
 have hlv:∀j,j<12->(liveG r.2[k])[(x.Threads[k]).Pc.toNat][j]? =some (lv (liveG r.2[k]) (x.Threads[k]).Pc j):=by
  intro j hj
  unfold lv
  simp[List.getD_eq_getElem?_getD,a3,List.getElem?_eq_getElem (show j<((liveG r.2[k])[(x.Threads[k]).Pc.toNat]).length by omega)]
 generalize (liveG r.2[k])[(x.Threads[k]).Pc.toNat]=row at hrow hlv
 rw[show(60:Int).toNat=60 from rfl]
 dsimp only
 generalize hY:crewN 60 x=Y
 have key:Ok (loopM (xD (k:Int) row) (0,x,Y)) (fun e=>∃u,e=(withT x k u,Y)/\Fit u r.2[k].length/\LvR r.2[k] (liveG r.2[k]) x.Threads[k] u):=by
  refine Ok.loop (fun s:Int×gCrew×gCrew=>∃(j:Nat) (u:gThread),s.1=(j:Int)/\j<=12/\s.2.1=withT x k u/\s.2.2=Y/\Fit u r.2[k].length/\LvR r.2[k] (liveG r.2[k]) x.Threads[k] u) (fun s=>12-s.1.toNat) _ ⟨0,x.Threads[k],rfl,by omega,?_,rfl,c2,rfl,fun _ _ _=>rfl⟩ ?_
  .unfold withT
   rw[setSelf a2]
  rintro⟨_,c,y⟩ ⟨j,u,rfl,g1,rfl,rfl,g2,g3⟩
  unfold xD
  dsimp only
  rw[iadd1 (by omega)]
  refine Ok.ite (fun hi=>?_) fun hi=>Ok.pure ⟨u,rfl,g2,g3⟩
  rw[zF] at hi
  have hj:j<12:=by omega
  rw[zY (hlv j hj),bS']
  refine Ok.ite (fun hb=>?_) fun hb=>Ok.pure ⟨⟨j+1,u,rfl,by omega,rfl,rfl,g2,g3⟩,by simp only;omega⟩
  have gu:(withT x k u).Threads[k]? =some u:=by unfold withT;exact List.getElem?_set_self hk2
  obtain⟨q1,q2,q3⟩:=kZ g2 (r:=(j:Int)) (by unfold Rg;omega)
  rw[zY gu,bS',q3,bS']
  have hw:Wd (rgv u j):=q2
  unfold Wd at hw
  rw[zZ _ _ (by omega),cC _ (by omega)]
  refine Ok.bind (Ok.wrap _ (by omega)) fun v hv=>?_
  rw[uZ _ q3,bS',uZ _ (zY gu),bS',Int.toNat_natCast,Int.toNat_natCast]
  have hnl:lv (liveG r.2[k]) (x.Threads[k]).Pc j=false:=by
   cases hz:lv (liveG r.2[k]) (x.Threads[k]).Pc j with
   |false=>rfl
   |true=>rw[hz] at hb;cases hb
  have hfit:Fit ⟨u.Regs.set j v,u.Pc⟩ r.2[k].length:=by
   have:=g2.set (r:=(j:Int)) hv g2.2.2.1 g2.2.2.2
   rwa [Int.toNat_natCast] at this
  refine Ok.pure ⟨⟨j+1,⟨u.Regs.set j v,u.Pc⟩,rfl,by omega,?_,rfl,hfit,g3.1,fun i hi hl=>?_⟩,by simp only;omega⟩
  .simp only[withT,List.set_set]
  .have hij:¬(i:Int)=(j:Int):=fun e=>by
    have:i=j:=by omega
    subst this
    rw[hnl] at hl;cases hl
   have:=rgv_set g2.1 (d:=(j:Int)) (by unfold Rg;omega) v u.Pc hi
   rw[Int.toNat_natCast] at this
   rw[this,if_neg hij]
   exact g3.2 i hi hl
 obtain⟨e,ee,u,rfl,hfu,hlu⟩:=key
 rw[ee,bS']
 dsimp only
 have hy:=withT_ok hx a1' hfu
 have hys:=hy.small (by show x.Out.length<=_;omega)
 rw[iRun_mo hys 60 (by show x.Out.length<=_;omega),if_pos ⟨(sV hys).2 hy,by decide⟩,bS',if_pos rfl,bS',if_pos rfl]
 dsimp only
 have hS:Sim (DeadR r.2) x (withT x k u):=by
  refine⟨hx,hy,rfl,rfl,rfl,rfl,rfl,fun j t' u' a b l' hl'=>?_⟩
  simp only[withT] at b
  by_cases e:k=j
  .subst e
   rw[List.getElem?_set_self hk2] at b
   rw[a2] at a
   rw[a1] at hl'
   cases a;cases b;cases hl'
   exact hlu
  .rw[List.getElem?_set_ne e,a] at b
   cases b
   exact⟨rfl,fun _ _ _=>rfl⟩
 have hN:=hS.steps (fun j l m t u q p bx b1 b2 hr h h'=>by
  simp only[withT] at b2
  rw[b1] at b2
  cases b2
  have hj:=b1
  rw[hcodes] at hj
  have hrl:=hr l hj
  have hp:=h'.at'
  rw[hrl.1,h.at'] at hp
  cases hp
  obtain⟨s1,s2⟩:=hrl.same (liveOf_val h.code).2.2.1 h h'
  exact⟨s1,fun l' a=>by rw[hj] at a;cases a;exact s2⟩) 60
 have ho60:=crewN_out hx 60
 rw[<- hY,show(60:Int).toNat=60 from rfl]
 rw[hN.talk ((hx.steps 60).small (by omega)) fun j t u a b hr=>?_]
 .rfl
 .have hj:=(List.getElem?_eq_some_iff.1 a).1
  rw[hN.ok.same,fW,hcodes] at hj
  exact(hr _ (List.getElem?_eq_getElem hj)).1
end Go.Abs
