/- The common head of the laws on a new crew. -/
import Derived.Test.YtnaikeccpnadgaaGreatNCrM
set_option linter.unusedSimpArgs false
set_option linter.unusedVariables false
set_option maxHeartbeats 8000000
namespace Go.Abs
open Go

theorem crewN_out {c:gCrew}(h:CrewOk c)(n:Nat):(crewN n c).Out.length<=c.Out.length+n:=by
 induction n generalizing c with
 |zero=>exact Nat.le_refl _
 |succ n ih=>
  have h1:=ih h.step
  have h2:=crewS_out h
  show(crewN n (crewS c)).Out.length<=_
  omega
theorem CrewOk.small {c:gCrew}(h:CrewOk c)(ho:c.Out.length<=1000000):SmallCr c:=by
 refine⟨⟨by have:=h.many;omega,fun x hx=>?_⟩,by have:=h.many;have:=h.same;omega,fun t ht=>?_,by have:=box_len h.box;omega,fun b hb=>by have:=box_items h.box b hb;omega,ho⟩
 .obtain⟨k,hk,rfl⟩:=List.getElem_of_mem hx
  have hk2:k<c.Threads.length:=by have:=h.same;omega
  have:=(h.thr k _ _ (List.getElem?_eq_getElem hk) (List.getElem?_eq_getElem hk2)).1
  exact fC this
 .obtain⟨k,hk,rfl⟩:=List.getElem_of_mem ht
  have hk2:k<c.Codes.length:=by have:=h.same;omega
  have:=(h.thr k _ _ (List.getElem?_eq_getElem hk2) (List.getElem?_eq_getElem hk)).2.1.1
  omega
noncomputable def newC (rooms:List Int)(codes:List (List gQuad)):gCrew×Bool:=if jM rooms=true/\crewB (crew0 rooms codes)=true then(crew0 rooms codes,true) else(zeroC,false)
theorem small_zero:SmallCr zeroC:=⟨⟨by simp[zeroC],by simp[zeroC]⟩,by simp[zeroC],by simp[zeroC],by simp[zeroC],by simp[zeroC],by simp[zeroC]⟩
theorem newC_small {rooms:List Int}{codes:List (List gQuad)}(hr:rooms.length<=1000)(hc:pO codes):SmallCr (newC rooms codes).1:=by
 unfold newC
 split
 .exact small0 hr hc
 .exact small_zero
theorem headC {rest:List Int×List (List gQuad)->Option Bool}{l m:List Int}(hb:Bytes l)(hl:l.length<=maxLen)
  (h1:∀r,r.1.length<=2->pO r.2->jM r.1=true->CrewOk (crew0 r.1 r.2)->SmallCr (crew0 r.1 r.2)->¬igt (ilen m) 1048576=true->rest r=some true):
  ((if igt (ilen l) 1048576=true then some true else some (igt (ilen m) 1048576)).bind fun g1=>
  if g1=true then some true else
   (yF l).bind fun r2=>(xY r2.1 r2.2).bind fun r3=>(vG r2.1 r2.2).bind fun r4=>
   (if bneb r3.2 r4.2=true then some true else(kY r3.1 r4.1).bind fun r5=>some (bnot r5)).bind fun g6=>
   (if g6=true then some true else some (bnot r3.2)).bind fun g7=>
   if g7=true then
    (if beqb r3.2 r4.2=true then(kY r3.1 r4.1).bind fun r8=>some r8 else some false).bind fun g9=>some g9
   else rest r2)=some true:=by
 by_cases hg:igt (ilen l) 1048576=true
 .rw[if_pos hg];rfl
 rw[if_neg hg,bS']
 by_cases hm:igt (ilen m) 1048576=true
 .rw[if_pos hm]
 rw[if_neg hm]
 rw[yD,zB] at hg
 obtain⟨r,e,z1,z2⟩:=Ok.drawCN hb (by omega)
 rw[e,bS',iNew_val (by omega) z2,bS',sNew_val (by omega) z2,bS']
 have hs:=newC_small (rooms:=r.1) (codes:=r.2) (by omega) z2
 have hx:(if jM r.1=true/\crewB (crew0 r.1 r.2)=true then(crew0 r.1 r.2,true) else(zeroC,false))=newC r.1 r.2:=rfl
 rw[hx,if_neg (by simp[bneb]),dZ _ hs,bS',bS',if_neg (by simp[bnot]),bS']
 by_cases hv:jM r.1=true/\crewB (crew0 r.1 r.2)=true
 .have e2:(newC r.1 r.2).2=true:=by unfold newC;rw[if_pos hv]
  rw[e2,if_neg (by simp[bnot])]
  have h0:=small0 (rooms:=r.1) (codes:=r.2) (by omega) z2
  exact h1 r z1 z2 hv.1 ((oJ h0).1 hv.2) h0 hm
 .have e2:(newC r.1 r.2).2=false:=by unfold newC;rw[if_neg hv]
  rw[e2,if_pos (by rfl)]
  rfl
theorem headC1 {rest:List Int×List (List gQuad)->Option Bool}{l:List Int}(hb:Bytes l)(hl:l.length<=maxLen)
  (h1:∀r,r.1.length<=2->pO r.2->jM r.1=true->CrewOk (crew0 r.1 r.2)->SmallCr (crew0 r.1 r.2)->rest r=some true):
  (if igt (ilen l) 1048576=true then some true else
   (yF l).bind fun r2=>(xY r2.1 r2.2).bind fun r3=>(vG r2.1 r2.2).bind fun r4=>
   (if bneb r3.2 r4.2=true then some true else(kY r3.1 r4.1).bind fun r5=>some (bnot r5)).bind fun g6=>
   (if g6=true then some true else some (bnot r3.2)).bind fun g7=>
   if g7=true then
    (if beqb r3.2 r4.2=true then(kY r3.1 r4.1).bind fun r8=>some r8 else some false).bind fun g9=>some g9
   else rest r2)=some true:=by
 by_cases hg:igt (ilen l) 1048576=true
 .rw[if_pos hg]
 rw[if_neg hg]
 rw[yD,zB] at hg
 obtain⟨r,e,z1,z2⟩:=Ok.drawCN hb (by omega)
 rw[e,bS',iNew_val (by omega) z2,bS',sNew_val (by omega) z2,bS']
 have hs:=newC_small (rooms:=r.1) (codes:=r.2) (by omega) z2
 have hx:(if jM r.1=true/\crewB (crew0 r.1 r.2)=true then(crew0 r.1 r.2,true) else(zeroC,false))=newC r.1 r.2:=rfl
 rw[hx,if_neg (by simp[bneb]),dZ _ hs,bS',bS',if_neg (by simp[bnot]),bS']
 by_cases hv:jM r.1=true/\crewB (crew0 r.1 r.2)=true
 .have e2:(newC r.1 r.2).2=true:=by unfold newC;rw[if_pos hv]
  rw[e2,if_neg (by simp[bnot])]
  have h0:=small0 (rooms:=r.1) (codes:=r.2) (by omega) z2
  exact h1 r z1 z2 hv.1 ((oJ h0).1 hv.2) h0
 .have e2:(newC r.1 r.2).2=false:=by unfold newC;rw[if_neg hv]
  rw[e2,if_pos (by rfl)]
  rfl
theorem iRun_ok {c:gCrew}(h:CrewOk c)(hs:SmallCr c)(ho:c.Out.length<=800000){n:Int}(hn:0<=n/\n<=100000):oG c n=some (crewN n.toNat c,true):=by
 rw[iRun_val hs n ho,if_pos ⟨(oJ hs).2 h,hn⟩]
theorem crewOf_val {rooms:List Int}{codes:List (List gQuad)}(hr:rooms.length<=1000)(hc:pO codes)(h1:jM rooms=true)(h2:CrewOk (crew0 rooms codes)){n:Int}(hn:0<=n/\n<=100000):vO rooms codes n=some (crewN n.toNat (crew0 rooms codes)):=by
 have h0:=small0 hr hc
 have hB:=(oJ h0).2 h2
 unfold vO
 rw[iNew_val hr hc,bS',if_pos ⟨h1,hB⟩,iRun_ok h2 h0 (by simp[crew0]) hn,bS',if_neg (by simp[bnot]),bS',if_neg (by simp[bnot])]
end Go.Abs

/- Laws on a new crew whose codes are written anew: what is alike for all of them. -/
set_option linter.unusedSimpArgs false
set_option linter.unusedVariables false
set_option maxHeartbeats 8000000
namespace Go.Abs
open Go

theorem pass_loop {step:Int×List (List gQuad)->Option (Flow (Int×List (List gQuad)) (Sum (List (List gQuad)) Bool))}(l:List (List gQuad))(f:List gQuad->Option (List gQuad×Bool))(g:List gQuad->List gQuad)(hl:l.length<=1000)(hf:∀x∈l,f x=some (g x,true))
  (hs:∀i o,step (i,o)=if ilt i (ilen l)=true then(idx l i).bind fun v=>(f v).bind fun r=>if bnot r.2=true then some (.done (.inr false)) else(appx 24 o ([r.1]:List (List gQuad))).bind fun l'=>some (.next (iadd .i64 i 1,l')) else some (.done (.inl o))):
  loopM step (0,[])=some (.inl (l.map g)):=by
 refine kQ l.length (fun k=>((k:Int),(l.take k).map g)) _ (by simp) (fun k hk=>?_) ?_
 .rw[hs,if_pos (by rw[zC,zB];omega),zQ (List.getElem?_eq_getElem hk),bS',hf _ (List.getElem_mem hk),bS',if_neg (by simp[bnot]),kT 24 _ _ (by simp;unfold maxLen;omega),bS',iadd1 (by omega),sO l g k hk]
 .rw[hs,if_neg (by rw[zC,zB];omega),List.take_length]
theorem crew0_map {rooms:List Int}{codes:List (List gQuad)}(h:CrewOk (crew0 rooms codes))(g:List gQuad->List gQuad)(hg:∀x∈codes,zU false x->zU false (g x)/\∀m,Talks x m->Talks (g x) m):CrewOk (crew0 rooms (codes.map g)):=by
 refine⟨by have:=h.many;simp only[crew0,List.length_map] at this ⊢;exact this,by simp[crew0],h.box,?_,?_,by simp[crew0],fun k l t h1 h2=>?_⟩
 .have:=h.turn;simp only[crew0,List.length_map] at this ⊢;exact this
 .have:=h.idle;simp only[crew0,List.length_map] at this ⊢;exact this
 .simp only[crew0,List.length_map] at h1 h2
  rw[List.getElem?_map] at h1
  cases hk:codes[k]? with
  |none=>rw[hk] at h1;cases h1
  |some x=>
   rw[hk] at h1
   cases h1
   obtain⟨a1,a2,a3⟩:=h.thr k x t hk h2
   obtain⟨b1,b2⟩:=hg x (List.mem_of_getElem? hk) a1
   refine⟨b1,?_,b2 _ a3⟩
   have ht:t=thr0:=(List.mem_replicate.1 (List.mem_of_getElem? h2)).2
   rw[ht]
   exact⟨by simp[thr0],fun x hx=>by simp[thr0] at hx;rw[hx];decide,by simp[thr0],by have:=b1.1;simp only[thr0];omega⟩
theorem codes_ok {rooms:List Int}{codes:List (List gQuad)}(hC:CrewOk (crew0 rooms codes)):∀x∈codes,zU false x:=fun x hx=>by
 obtain⟨k,hk,rfl⟩:=List.getElem_of_mem hx
 have h2:k<(List.replicate codes.length thr0).length:=by simpa using hk
 exact(hC.thr k _ _ (List.getElem?_eq_getElem hk) (List.getElem?_eq_getElem h2)).1
theorem smallC_of {rooms:List Int}{codes:List (List gQuad)}(h:CrewOk (crew0 rooms codes)):pO codes:=by
 refine⟨by have:=h.many;simp only[crew0] at this;omega,fun x hx=>?_⟩
 obtain⟨k,hk,rfl⟩:=List.getElem_of_mem hx
 have h2:k<(List.replicate codes.length thr0).length:=by simpa using hk
 exact fC (h.thr k _ _ (List.getElem?_eq_getElem hk) (List.getElem?_eq_getElem h2)).1
theorem run_val {rooms:List Int}{codes:List (List gQuad)}(hr:rooms.length<=1000)(h1:jM rooms=true)(h2:CrewOk (crew0 rooms codes)){n:Int}(hn:0<=n/\n<=100000):vO rooms codes n=some (crewN n.toNat (crew0 rooms codes)):=crewOf_val hr (smallC_of h2) h1 h2 hn
theorem lagN {R:gCrew->gCrew->Prop}(hR:∀c d,R c d->R (crewS c) d\/R (crewS c) (crewS d)){c d:gCrew}(h:R c d)(n:Nat):∃m,m<=n/\R (crewN n c) (crewN m d):=by
 induction n with
 |zero=>exact⟨0,by omega,h⟩
 |succ n ih=>
  obtain⟨m,hm,hr⟩:=ih
  rw[crewN_succ]
  rcases hR _ _ hr with h1|h1
  .exact⟨m,by omega,h1⟩
  .exact⟨m+1,by omega,by rw[crewN_succ];exact h1⟩
end Go.Abs

/- Crews at rest: each thread would wait. -/
set_option linter.unusedSimpArgs false
set_option linter.unusedVariables false
set_option maxHeartbeats 8000000
namespace Go.Abs
open Go

theorem still_of {l:List gQuad}{t:gThread}{bx:List gBox}{q:gQuad}(h:Can l t bx q):(thrP q t bx).2.2.2=3\/(thrP q t bx).2.2.2=4->(thrP q t bx).1=t/\(thrP q t bx).2.1=bx/\(thrP q t bx).2.2.1=[]:=by
 refine h.cases (P:=fun r=>r.2.2.2=3\/r.2.2.2=4->r.1=t/\r.2.1=bx/\r.2.2.1=[]) ?_ ?_ ?_ ?_ ?_ ?_ ?_ ?_ ?_ ?_ ?_<;>intros<;>first|exact⟨rfl,rfl,rfl⟩|(exfalso;simp at*;done)|skip
 rename_i hk
 split at hk
 .exfalso;simp at hk
 .rename_i hb;rw[if_neg hb];exact⟨rfl,rfl,rfl⟩
def Rests (c:gCrew):Prop:=∀j:Nat,(j:Int)<c.Idle->∀l t q,c.Codes[((c.Turn-1-j) % c.Codes.length).toNat]? =some l->c.Threads[((c.Turn-1-j) % c.Codes.length).toNat]? =some t->l[t.Pc.toNat]? =some q->(thrP q t c.Boxes).2.2.2=3\/(thrP q t c.Boxes).2.2.2=4
theorem Rests.step {c:gCrew}(h:CrewOk c)(hr:Rests c):Rests (crewS c):=by
 by_cases hi:c.Idle<c.Codes.length
 .obtain⟨l,t,q,h1,h2,h3,h4,h5⟩:=h.now
  rw[vZ hi h1 h2 h3]
  have hm:=h.many
  have ht:=h.turn
  have hd:=h.idle
  by_cases hk:(thrP q t c.Boxes).2.2.2=3\/(thrP q t c.Boxes).2.2.2=4
  .obtain⟨s1,s2,s3⟩:=still_of h4 hk
   have hn:nextT c.Codes.length c.Turn c.Idle (thrP q t c.Boxes).2.2.2=((c.Turn+1) % c.Codes.length,c.Idle+1):=by
    unfold nextT
    rw[if_neg (by omega),if_neg (by omega)]
   have e:crewG c (thrP q t c.Boxes)=⟨c.Codes,c.Threads,c.Boxes,(c.Turn+1) % c.Codes.length,c.Idle+1,c.Out⟩:=by
    unfold crewG
    rw[hn,s1,s2,s3,setSelf h2,List.append_nil]
   rw[e]
   intro j hj l' t' q' a1 a2 a3
   simp only at hj a1 a2 a3 ⊢
   by_cases h0:j=0
   .subst h0
    have ei:(((c.Turn+1) % (c.Codes.length:Int)-1-((0:Nat):Int)) % (c.Codes.length:Int)).toNat=c.Turn.toNat:=by
     have:c.Codes.length=1\/c.Codes.length=2\/c.Codes.length=3:=by omega
     rcases this with hL|hL|hL<;>rw[hL] at ht ⊢<;>omega
    rw[ei] at a1 a2
    rw[h1] at a1
    rw[h2] at a2
    cases a1
    cases a2
    rw[h3] at a3
    cases a3
    exact hk
   .have ei:(((c.Turn+1) % (c.Codes.length:Int)-1-(j:Int)) % (c.Codes.length:Int)).toNat=((c.Turn-1-((j-1:Nat):Int)) % (c.Codes.length:Int)).toNat:=by
     have:c.Codes.length=1\/c.Codes.length=2\/c.Codes.length=3:=by omega
     rcases this with hL|hL|hL<;>rw[hL] at ht ⊢<;>omega
    rw[ei] at a1 a2
    exact hr (j-1) (by omega) l' t' q' a1 a2 a3
  .intro j hj
   exfalso
   have hn:(nextT c.Codes.length c.Turn c.Idle (thrP q t c.Boxes).2.2.2).2=0:=by
    rcases kind_in h4 with k|k|k|k
    .rw[k];rfl
    .rw[k];rfl
    .exact absurd (.inl k) hk
    .exact absurd (.inr k) hk
   simp only[crewG,hn] at hj
   omega
 .rw[wO hi];exact hr
theorem Rests.steps {c:gCrew}(h:CrewOk c)(hr:Rests c)(n:Nat):Rests (crewN n c):=by
 induction n generalizing c with
 |zero=>exact hr
 |succ n ih=>exact ih h.step (hr.step h)
theorem Rests.all {c:gCrew}(h:CrewOk c)(hr:Rests c)(hi:¬c.Idle<c.Codes.length){k:Nat}{l:List gQuad}{t:gThread}{q:gQuad}(e1:c.Codes[k]? =some l)(e2:c.Threads[k]? =some t)(e3:l[t.Pc.toNat]? =some q):(thrP q t c.Boxes).2.2.2=3\/(thrP q t c.Boxes).2.2.2=4:=by
 have hm:=h.many
 have ht:=h.turn
 have hk:=(List.getElem?_eq_some_iff.1 e1).1
 have:∃j:Nat,(j:Int)<c.Idle/\((c.Turn-1-(j:Int)) % (c.Codes.length:Int)).toNat=k:=by
  refine⟨((c.Turn-1-(k:Int)) % (c.Codes.length:Int)).toNat,?_,?_⟩
  .have:c.Codes.length=1\/c.Codes.length=2\/c.Codes.length=3:=by omega
   rcases this with hL|hL|hL<;>rw[hL] at ht hi hk ⊢<;>omega
  .have:c.Codes.length=1\/c.Codes.length=2\/c.Codes.length=3:=by omega
   rcases this with hL|hL|hL<;>rw[hL] at ht hk ⊢<;>omega
 obtain⟨j,hj,ej⟩:=this
 exact hr j hj l t q (by rw[ej];exact e1) (by rw[ej];exact e2) e3
end Go.Abs

/- Threads with the same values where it matters go the same way. -/
set_option linter.unusedSimpArgs false
set_option linter.unusedVariables false
set_option maxHeartbeats 8000000
namespace Go.Abs
open Go

theorem rgv_set {t:gThread}(ht:t.Regs.length=12){d:Int}(hd:Rg d)(v pc:Int){r:Nat}(hr:r<12):rgv ⟨t.Regs.set d.toNat v,pc⟩ r=if(r:Int)=d then v else rgv t r:=by
 unfold rgv
 unfold Rg at hd
 simp only[Int.toNat_natCast]
 by_cases h:(r:Int)=d
 .rw[if_pos h]
  have:d.toNat=r:=by omega
  rw[this,List.getElem?_set_self (by omega)]
  rfl
 .rw[if_neg h,List.getElem?_set_ne (by omega)]
theorem rgv_go (t:gThread)(pc:Int)(r:Int):rgv ⟨t.Regs,pc⟩ r=rgv t r:=rfl
theorem Can.pcs {l:List gQuad}{t:gThread}{bx:List gBox}{q:gQuad}(h:Can l t bx q):(thrP q t bx).1.Pc∈nxt l t.Pc.toNat\/(thrP q t bx).1=t:=by
 have hp:((t.Pc.toNat:Nat):Int)=t.Pc:=Int.toNat_of_nonneg h.fit.2.2.1
 have h1:q.Op≠10->q.Op≠4->t.Pc+1∈nxt l t.Pc.toNat:=by
  intro a b
  unfold nxt
  rw[h.at']
  simp only[if_neg a,if_neg b,hp]
  split
  .simp
  .split<;>simp
 have h2:q.Op=4\/q.Op=5->q.N∈nxt l t.Pc.toNat:=by
  intro a
  unfold nxt
  rw[h.at']
  simp only[hp]
  rw[if_neg (by omega)]
  split
  .simp
  .split
   .simp
   .split
    .simp
    .rename_i x y z
     simp only[List.mem_singleton]
     omega
 refine h.cases (P:=fun r=>r.1.Pc∈nxt l t.Pc.toNat\/r.1=t) ?_ ?_ ?_ ?_ ?_ ?_ ?_ ?_ ?_ ?_ ?_
 .intro a _ _;exact .inl (h1 (by omega) (by omega))
 .intro a _ _;exact .inl (h1 (by omega) (by omega))
 .intro a _ _ _ _;exact .inl (h1 (by omega) (by omega))
 .intro a _ _;exact .inl (h2 (.inl a))
 .intro a _ _ _
  left
  simp only
  split
  .exact h2 (.inr a)
  .exact h1 (by omega) (by omega)
 .intro a _ _ b _ _
  split
  .exact .inl (h1 (by omega) (by omega))
  .exact .inr rfl
 .intro a _ _ _ _ _ _ _;exact .inl (h1 (by omega) (by omega))
 .intro _ _ _ _ _ _;exact .inr rfl
 .intro a;exact .inl (h1 (by omega) (by omega))
 .intro a _;exact .inl (h1 (by omega) (by omega))
 .intro _;exact .inr rfl
theorem same_step {l m:List gQuad}{t u:gThread}{bx:List gBox}{q:gQuad}(h:Can l t bx q)(h':Can m u bx q)(hp:u.Pc=t.Pc)(hr:∀x∈usesQ q,rgv u x=rgv t x):
  (thrP q u bx).2=(thrP q t bx).2/\(thrP q u bx).1.Pc=(thrP q t bx).1.Pc/\(((thrP q t bx).1=t/\(thrP q u bx).1=u)\/∀r:Nat,r<12->((r:Int)=setsQ q->rgv (thrP q u bx).1 r=rgv (thrP q t bx).1 r)/\((r:Int)≠setsQ q->rgv (thrP q u bx).1 r=rgv u r/\rgv (thrP q t bx).1 r=rgv t r)):=by
 have ht:=h.fit.1
 have hu:=h'.fit.1
 have nos:(q.Op=1\/q.Op=2\/q.Op=3\/q.Op=7->setsQ q=q.Dst)/\(¬(q.Op=1\/q.Op=2\/q.Op=3\/q.Op=7)->setsQ q= -1):=by
  unfold setsQ
  exact⟨fun a=>if_pos a,fun a=>if_neg a⟩
 have hA:q.Op=2\/q.Op=5\/q.Op=6\/q.Op=9\/q.Op=3->rgv u q.A=rgv t q.A:=by
  intro a
  refine hr _ ?_
  unfold usesQ
  by_cases c:q.Op=2\/q.Op=5\/q.Op=6\/q.Op=9
  .rw[if_pos c];simp
  .rw[if_neg c,if_pos (by omega)]
   split
   .simp
   .unfold imin imax
    simp only[List.mem_cons,List.not_mem_nil,or_false]
    split<;>split<;>omega
 have hB:q.Op=3->rgv u q.B=rgv t q.B:=by
  intro a
  refine hr _ ?_
  unfold usesQ
  rw[if_neg (by omega),if_pos a]
  split
  .rename_i e;simp[e]
  .unfold imin imax
   simp only[List.mem_cons,List.not_mem_nil,or_false]
   split<;>split<;>omega
 have keep:¬(q.Op=1\/q.Op=2\/q.Op=3\/q.Op=7)->∀r:Nat,r<12->∀a b:Int,((r:Int)=setsQ q->rgv ⟨u.Regs,a⟩ r=rgv ⟨t.Regs,b⟩ r)/\((r:Int)≠setsQ q->rgv ⟨u.Regs,a⟩ r=rgv u r/\rgv ⟨t.Regs,b⟩ r=rgv t r):=by
  intro hn r _ a b
  rw[nos.2 hn]
  exact⟨fun h=>by omega,fun _=>⟨rfl,rfl⟩⟩
 have put:∀(v:Int) (a b:Int),(q.Op=1\/q.Op=2\/q.Op=3\/q.Op=7)->Rg q.Dst->∀r:Nat,r<12->((r:Int)=setsQ q->rgv ⟨u.Regs.set q.Dst.toNat v,a⟩ r=rgv ⟨t.Regs.set q.Dst.toNat v,b⟩ r)/\((r:Int)≠setsQ q->rgv ⟨u.Regs.set q.Dst.toNat v,a⟩ r=rgv u r/\rgv ⟨t.Regs.set q.Dst.toNat v,b⟩ r=rgv t r):=by
  intro v a b ho hd r hr
  rw[nos.1 ho,rgv_set hu hd _ _ hr,rgv_set ht hd _ _ hr]
  exact⟨fun e=>by rw[if_pos e,if_pos e],fun e=>by rw[if_neg e,if_neg e];exact⟨rfl,rfl⟩⟩
 have hb:=h.box
 unfold thrP
 rcases h.qv with k|k|k|k|k|k|k|k|k|k
 .simp only[k.1,hp]
  exact⟨rfl,rfl,.inr (put _ _ _ (by omega) k.2.1)⟩
 .simp only[k.1,hp,hA (by omega)]
  exact⟨rfl,rfl,.inr (put _ _ _ (by omega) k.2.1)⟩
 .simp only[k.1,hp,hA (by omega),hB (by omega)]
  exact⟨rfl,rfl,.inr (put _ _ _ (by omega) k.2.1)⟩
 .simp only[k.1]
  exact⟨rfl,rfl,.inr (fun r hr=>keep (by omega) r hr _ _)⟩
 .simp only[k.1,hp,hA (by omega)]
  exact⟨rfl,rfl,.inr (fun r hr=>keep (by omega) r hr _ _)⟩
 .simp only[k.1]
  rw[hA (by omega)]
  simp only[hp]
  cases bx[q.N.toNat]? with
  |none=>exact⟨rfl,hp,.inl ⟨rfl,rfl⟩⟩
  |some b=>
   simp only
   by_cases hl:(b.Items.length:Int)<b.Room
   .simp only[hl]
    exact⟨rfl,rfl,.inr (fun r hr=>keep (by omega) r hr _ _)⟩
   .simp only[hl]
    exact⟨rfl,hp,.inl ⟨rfl,rfl⟩⟩
 .simp only[k.1,hp]
  rcases bx[q.N.toNat]? with _|⟨r,it⟩
  .exact⟨rfl,hp,.inl ⟨rfl,rfl⟩⟩
  .cases it with
   |nil=>exact⟨rfl,hp,.inl ⟨rfl,rfl⟩⟩
   |cons x s=>exact⟨rfl,rfl,.inr (put _ _ _ (by omega) k.2.1)⟩
 .simp only[k.1,hp]
  exact⟨rfl,rfl,.inr (fun r hr=>keep (by omega) r hr _ _)⟩
 .simp only[k.1,hp,hA (by omega)]
  exact⟨rfl,rfl,.inr (fun r hr=>keep (by omega) r hr _ _)⟩
 .simp only[k.1]
  exact⟨rfl,hp,.inl ⟨rfl,rfl⟩⟩
theorem sameTalk_of {c d:gCrew}(hs:SmallCr c)(hl:d.Threads.length=c.Threads.length)(ht:d.Turn=c.Turn)(hi:d.Idle=c.Idle)(hb:d.Boxes=c.Boxes)(ho:d.Out=c.Out)(hp:∀(k:Nat) t u,c.Threads[k]? =some t->d.Threads[k]? =some u->u.Pc=t.Pc):xH c d=some true:=by
 have hth:=hs.thr
 unfold xH
 rw[zB,zB,hl,ht,hi,if_neg (by simp[ine]),bS',if_neg (by simp[ine]),bS',if_neg (by simp[ine])]
 have:=kQ (step:=yO c d) (s0:=(0:Int)) c.Threads.length (fun k=>(k:Int)) (.inl ()) rfl (fun k hk=>?_) ?_
 .rw[this,bS']
  dsimp only
  rw[hb,ho,fZ _ (by have:=hs.box;omega) (fun b hb=>by have:=hs.items b hb;omega),bS',if_pos rfl,yW _ (by have:=hs.out;omega)]
  rfl
 .unfold yO
  dsimp only
  have g1:=List.getElem?_eq_getElem hk
  have g2:=List.getElem?_eq_getElem (show k<d.Threads.length by omega)
  rw[if_pos (by rw[zC];unfold ilen;omega),zQ g1,bS',zQ g2,bS',hp k _ _ g1 g2,if_neg (by simp[ine]),iadd1 (by omega)]
 .unfold yO
  dsimp only
  rw[if_neg (by rw[zC];unfold ilen;omega)]
theorem Sim.talk {R:Nat->gThread->gThread->Prop}{c d:gCrew}(h:Sim R c d)(hs:SmallCr c)(hR:∀(k:Nat) t u,c.Threads[k]? =some t->d.Threads[k]? =some u->R k t u->u.Pc=t.Pc):xH c d=some true:=
 sameTalk_of hs (by rw[h.ok'.same,h.ok.same,h.many]) h.turn h.idle h.box h.out fun k t u a b=>hR k t u a b (h.thr k t u a b)
theorem sim0 {R:Nat->gThread->gThread->Prop}{rooms:List Int}{codes other:List (List gQuad)}(hC:CrewOk (crew0 rooms codes))(hD:CrewOk (crew0 rooms other))(hl:other.length=codes.length)(h0:∀k,k<codes.length->R k thr0 thr0):Sim R (crew0 rooms codes) (crew0 rooms other):=by
 refine⟨hC,hD,hl,rfl,rfl,rfl,rfl,fun k t u a b=>?_⟩
 simp only[crew0] at a b
 have hk:=(List.getElem?_eq_some_iff.1 a).1
 rw[(List.mem_replicate.1 (List.mem_of_getElem? a)).2,(List.mem_replicate.1 (List.mem_of_getElem? b)).2]
 exact h0 k (by simpa using hk)
end Go.Abs
