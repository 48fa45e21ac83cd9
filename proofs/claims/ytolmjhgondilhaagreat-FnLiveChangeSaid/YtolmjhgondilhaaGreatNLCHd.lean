/- The common head of the laws on a new crew. -/
import Derived.Test.YtolmjhgondilhaaGreatNCrM
set_option linter.unusedSimpArgs false
set_option linter.unusedVariables false
set_option maxHeartbeats 8000000
namespace Go.Abs
open Go

theorem crewN_out {c:gCrew}(h:CrewOk c)(n:Nat):(crewN n c).Out.length<=c.Out.length+n:=by
 induction n generalizing c with
 |zero=>exact Nat.le_refl _
 |succ n ih=>
  have h1:=ih h.step
  have h2:=crewS_out h
  show(crewN n (crewS c)).Out.length<=_
  omega
theorem CrewOk.small {c:gCrew}(h:CrewOk c)(ho:c.Out.length<=1000000):SmallCr c:=by
 refine⟨⟨by have:=h.many;omega,fun x hx=>?_⟩,by have:=h.many;have:=h.same;omega,fun t ht=>?_,by have:=box_len h.box;omega,fun b hb=>by have:=box_items h.box b hb;omega,ho⟩
 .obtain⟨k,hk,rfl⟩:=List.getElem_of_mem hx
  have hk2:k<c.Threads.length:=by have:=h.same;omega
  have:=(h.thr k _ _ (List.getElem?_eq_getElem hk) (List.getElem?_eq_getElem hk2)).1
  exact gJ this
 .obtain⟨k,hk,rfl⟩:=List.getElem_of_mem ht
  have hk2:k<c.Codes.length:=by have:=h.same;omega
  have:=(h.thr k _ _ (List.getElem?_eq_getElem hk2) (List.getElem?_eq_getElem hk)).2.1.1
  omega
noncomputable def newC (rooms:List Int)(codes:List (List gQuad)):gCrew×Bool:=if wX rooms=true/\crewB (crew0 rooms codes)=true then(crew0 rooms codes,true) else(zeroC,false)
theorem small_zero:SmallCr zeroC:=⟨⟨by simp[zeroC],by simp[zeroC]⟩,by simp[zeroC],by simp[zeroC],by simp[zeroC],by simp[zeroC],by simp[zeroC]⟩
theorem newC_small {rooms:List Int}{codes:List (List gQuad)}(hr:rooms.length<=1000)(hc:qT codes):SmallCr (newC rooms codes).1:=by
 unfold newC
 split
 .exact small0 hr hc
 .exact small_zero
theorem headC {rest:List Int×List (List gQuad)->Option Bool}{l m:List Int}(hb:Bytes l)(hl:l.length<=maxLen)
  (h1:∀r,r.1.length<=2->qT r.2->wX r.1=true->CrewOk (crew0 r.1 r.2)->SmallCr (crew0 r.1 r.2)->¬igt (ilen m) 1048576=true->rest r=some true):
  ((if igt (ilen l) 1048576=true then some true else some (igt (ilen m) 1048576)).bind fun g1=>
  if g1=true then some true else
   (jB l).bind fun r2=>(vD r2.1 r2.2).bind fun r3=>(sK r2.1 r2.2).bind fun r4=>
   (if bneb r3.2 r4.2=true then some true else(jH r3.1 r4.1).bind fun r5=>some (bnot r5)).bind fun g6=>
   (if g6=true then some true else some (bnot r3.2)).bind fun g7=>
   if g7=true then
    (if beqb r3.2 r4.2=true then(jH r3.1 r4.1).bind fun r8=>some r8 else some false).bind fun g9=>some g9
   else rest r2)=some true:=by
 by_cases hg:igt (ilen l) 1048576=true
 .rw[if_pos hg];rfl
 rw[if_neg hg,bS']
 by_cases hm:igt (ilen m) 1048576=true
 .rw[if_pos hm]
 rw[if_neg hm]
 rw[yE,zD] at hg
 obtain⟨r,e,z1,z2⟩:=Ok.drawCN hb (by omega)
 rw[e,bS',iNew_val (by omega) z2,bS',sNew_val (by omega) z2,bS']
 have hs:=newC_small (rooms:=r.1) (codes:=r.2) (by omega) z2
 have hx:(if wX r.1=true/\crewB (crew0 r.1 r.2)=true then(crew0 r.1 r.2,true) else(zeroC,false))=newC r.1 r.2:=rfl
 rw[hx,if_neg (by simp[bneb]),sameCrew_refl _ hs,bS',bS',if_neg (by simp[bnot]),bS']
 by_cases hv:wX r.1=true/\crewB (crew0 r.1 r.2)=true
 .have e2:(newC r.1 r.2).2=true:=by unfold newC;rw[if_pos hv]
  rw[e2,if_neg (by simp[bnot])]
  have h0:=small0 (rooms:=r.1) (codes:=r.2) (by omega) z2
  exact h1 r z1 z2 hv.1 ((sV h0).1 hv.2) h0 hm
 .have e2:(newC r.1 r.2).2=false:=by unfold newC;rw[if_neg hv]
  rw[e2,if_pos (by rfl)]
  rfl
theorem iRun_ok {c:gCrew}(h:CrewOk c)(hs:SmallCr c)(ho:c.Out.length<=800000){n:Int}(hn:0<=n/\n<=100000):nN c n=some (crewN n.toNat c,true):=by
 rw[iRun_val hs n ho,if_pos ⟨(sV hs).2 h,hn⟩]
theorem crewOf_val {rooms:List Int}{codes:List (List gQuad)}(hr:rooms.length<=1000)(hc:qT codes)(h1:wX rooms=true)(h2:CrewOk (crew0 rooms codes)){n:Int}(hn:0<=n/\n<=100000):qQ rooms codes n=some (crewN n.toNat (crew0 rooms codes)):=by
 have h0:=small0 hr hc
 have hB:=(sV h0).2 h2
 unfold qQ
 rw[iNew_val hr hc,bS',if_pos ⟨h1,hB⟩,iRun_ok h2 h0 (by simp[crew0]) hn,bS',if_neg (by simp[bnot]),bS',if_neg (by simp[bnot])]
end Go.Abs

/- Laws on a new crew whose codes are written anew: what is alike for all of them. -/
set_option linter.unusedSimpArgs false
set_option linter.unusedVariables false
set_option maxHeartbeats 8000000
namespace Go.Abs
open Go

theorem crew0_map {rooms:List Int}{codes:List (List gQuad)}(h:CrewOk (crew0 rooms codes))(g:List gQuad->List gQuad)(hg:∀x∈codes,kG false x->kG false (g x)/\∀m,Talks x m->Talks (g x) m):CrewOk (crew0 rooms (codes.map g)):=by
 refine⟨by have:=h.many;simp only[crew0,List.length_map] at this ⊢;exact this,by simp[crew0],h.box,?_,?_,by simp[crew0],fun k l t h1 h2=>?_⟩
 .have:=h.turn;simp only[crew0,List.length_map] at this ⊢;exact this
 .have:=h.idle;simp only[crew0,List.length_map] at this ⊢;exact this
 .simp only[crew0,List.length_map] at h1 h2
  rw[List.getElem?_map] at h1
  cases hk:codes[k]? with
  |none=>rw[hk] at h1;cases h1
  |some x=>
   rw[hk] at h1
   cases h1
   obtain⟨a1,a2,a3⟩:=h.thr k x t hk h2
   obtain⟨b1,b2⟩:=hg x (List.mem_of_getElem? hk) a1
   refine⟨b1,?_,b2 _ a3⟩
   have ht:t=thr0:=(List.mem_replicate.1 (List.mem_of_getElem? h2)).2
   rw[ht]
   exact⟨by simp[thr0],fun x hx=>by simp[thr0] at hx;rw[hx];decide,by simp[thr0],by have:=b1.1;simp only[thr0];omega⟩
theorem smallC_of {rooms:List Int}{codes:List (List gQuad)}(h:CrewOk (crew0 rooms codes)):qT codes:=by
 refine⟨by have:=h.many;simp only[crew0] at this;omega,fun x hx=>?_⟩
 obtain⟨k,hk,rfl⟩:=List.getElem_of_mem hx
 have h2:k<(List.replicate codes.length thr0).length:=by simpa using hk
 exact gJ (h.thr k _ _ (List.getElem?_eq_getElem hk) (List.getElem?_eq_getElem h2)).1
theorem run_val {rooms:List Int}{codes:List (List gQuad)}(hr:rooms.length<=1000)(h1:wX rooms=true)(h2:CrewOk (crew0 rooms codes)){n:Int}(hn:0<=n/\n<=100000):qQ rooms codes n=some (crewN n.toNat (crew0 rooms codes)):=crewOf_val hr (smallC_of h2) h1 h2 hn
end Go.Abs

/- Threads with the same values where it matters go the same way. -/
set_option linter.unusedSimpArgs false
set_option linter.unusedVariables false
set_option maxHeartbeats 8000000
namespace Go.Abs
open Go

theorem rgv_set {t:gThread}(ht:t.Regs.length=12){d:Int}(hd:Rg d)(v pc:Int){r:Nat}(hr:r<12):rgv ⟨t.Regs.set d.toNat v,pc⟩ r=if(r:Int)=d then v else rgv t r:=by
 unfold rgv
 unfold Rg at hd
 simp only[Int.toNat_natCast]
 by_cases h:(r:Int)=d
 .rw[if_pos h]
  have:d.toNat=r:=by omega
  rw[this,List.getElem?_set_self (by omega)]
  rfl
 .rw[if_neg h,List.getElem?_set_ne (by omega)]
theorem Can.pcs {l:List gQuad}{t:gThread}{bx:List gBox}{q:gQuad}(h:Can l t bx q):(thrP q t bx).1.Pc∈nxt l t.Pc.toNat\/(thrP q t bx).1=t:=by
 have hp:((t.Pc.toNat:Nat):Int)=t.Pc:=Int.toNat_of_nonneg h.fit.2.2.1
 have h1:q.Op≠10->q.Op≠4->t.Pc+1∈nxt l t.Pc.toNat:=by
  intro a b
  unfold nxt
  rw[h.at']
  simp only[if_neg a,if_neg b,hp]
  split
  .simp
  .split<;>simp
 have h2:q.Op=4\/q.Op=5->q.N∈nxt l t.Pc.toNat:=by
  intro a
  unfold nxt
  rw[h.at']
  simp only[hp]
  rw[if_neg (by omega)]
  split
  .simp
  .split
   .simp
   .split
    .simp
    .rename_i x y z
     simp only[List.mem_singleton]
     omega
 refine h.cases (P:=fun r=>r.1.Pc∈nxt l t.Pc.toNat\/r.1=t) ?_ ?_ ?_ ?_ ?_ ?_ ?_ ?_ ?_ ?_ ?_
 .intro a _ _;exact .inl (h1 (by omega) (by omega))
 .intro a _ _;exact .inl (h1 (by omega) (by omega))
 .intro a _ _ _ _;exact .inl (h1 (by omega) (by omega))
 .intro a _ _;exact .inl (h2 (.inl a))
 .intro a _ _ _
  left
  simp only
  split
  .exact h2 (.inr a)
  .exact h1 (by omega) (by omega)
 .intro a _ _ b _ _
  split
  .exact .inl (h1 (by omega) (by omega))
  .exact .inr rfl
 .intro a _ _ _ _ _ _ _;exact .inl (h1 (by omega) (by omega))
 .intro _ _ _ _ _ _;exact .inr rfl
 .intro a;exact .inl (h1 (by omega) (by omega))
 .intro a _;exact .inl (h1 (by omega) (by omega))
 .intro _;exact .inr rfl
theorem same_step {l m:List gQuad}{t u:gThread}{bx:List gBox}{q:gQuad}(h:Can l t bx q)(h':Can m u bx q)(hp:u.Pc=t.Pc)(hr:∀x∈usesQ q,rgv u x=rgv t x):
  (thrP q u bx).2=(thrP q t bx).2/\(thrP q u bx).1.Pc=(thrP q t bx).1.Pc/\(((thrP q t bx).1=t/\(thrP q u bx).1=u)\/∀r:Nat,r<12->((r:Int)=setsQ q->rgv (thrP q u bx).1 r=rgv (thrP q t bx).1 r)/\((r:Int)≠setsQ q->rgv (thrP q u bx).1 r=rgv u r/\rgv (thrP q t bx).1 r=rgv t r)):=by
 have ht:=h.fit.1
 have hu:=h'.fit.1
 have nos:(q.Op=1\/q.Op=2\/q.Op=3\/q.Op=7->setsQ q=q.Dst)/\(¬(q.Op=1\/q.Op=2\/q.Op=3\/q.Op=7)->setsQ q= -1):=by
  unfold setsQ
  exact⟨fun a=>if_pos a,fun a=>if_neg a⟩
 have hA:q.Op=2\/q.Op=5\/q.Op=6\/q.Op=9\/q.Op=3->rgv u q.A=rgv t q.A:=by
  intro a
  refine hr _ ?_
  unfold usesQ
  by_cases c:q.Op=2\/q.Op=5\/q.Op=6\/q.Op=9
  .rw[if_pos c];simp
  .rw[if_neg c,if_pos (by omega)]
   split
   .simp
   .unfold imin imax
    simp only[List.mem_cons,List.not_mem_nil,or_false]
    split<;>split<;>omega
 have hB:q.Op=3->rgv u q.B=rgv t q.B:=by
  intro a
  refine hr _ ?_
  unfold usesQ
  rw[if_neg (by omega),if_pos a]
  split
  .rename_i e;simp[e]
  .unfold imin imax
   simp only[List.mem_cons,List.not_mem_nil,or_false]
   split<;>split<;>omega
 have keep:¬(q.Op=1\/q.Op=2\/q.Op=3\/q.Op=7)->∀r:Nat,r<12->∀a b:Int,((r:Int)=setsQ q->rgv ⟨u.Regs,a⟩ r=rgv ⟨t.Regs,b⟩ r)/\((r:Int)≠setsQ q->rgv ⟨u.Regs,a⟩ r=rgv u r/\rgv ⟨t.Regs,b⟩ r=rgv t r):=by
  intro hn r _ a b
  rw[nos.2 hn]
  exact⟨fun h=>by omega,fun _=>⟨rfl,rfl⟩⟩
 have put:∀(v:Int) (a b:Int),(q.Op=1\/q.Op=2\/q.Op=3\/q.Op=7)->Rg q.Dst->∀r:Nat,r<12->((r:Int)=setsQ q->rgv ⟨u.Regs.set q.Dst.toNat v,a⟩ r=rgv ⟨t.Regs.set q.Dst.toNat v,b⟩ r)/\((r:Int)≠setsQ q->rgv ⟨u.Regs.set q.Dst.toNat v,a⟩ r=rgv u r/\rgv ⟨t.Regs.set q.Dst.toNat v,b⟩ r=rgv t r):=by
  intro v a b ho hd r hr
  rw[nos.1 ho,rgv_set hu hd _ _ hr,rgv_set ht hd _ _ hr]
  exact⟨fun e=>by rw[if_pos e,if_pos e],fun e=>by rw[if_neg e,if_neg e];exact⟨rfl,rfl⟩⟩
 have hb:=h.box
 unfold thrP
 rcases h.qv with k|k|k|k|k|k|k|k|k|k
 .simp only[k.1,hp]
  exact⟨rfl,rfl,.inr (put _ _ _ (by omega) k.2.1)⟩
 .simp only[k.1,hp,hA (by omega)]
  exact⟨rfl,rfl,.inr (put _ _ _ (by omega) k.2.1)⟩
 .simp only[k.1,hp,hA (by omega),hB (by omega)]
  exact⟨rfl,rfl,.inr (put _ _ _ (by omega) k.2.1)⟩
 .simp only[k.1]
  exact⟨rfl,rfl,.inr (fun r hr=>keep (by omega) r hr _ _)⟩
 .simp only[k.1,hp,hA (by omega)]
  exact⟨rfl,rfl,.inr (fun r hr=>keep (by omega) r hr _ _)⟩
 .simp only[k.1]
  rw[hA (by omega)]
  simp only[hp]
  cases bx[q.N.toNat]? with
  |none=>exact⟨rfl,hp,.inl ⟨rfl,rfl⟩⟩
  |some b=>
   simp only
   by_cases hl:(b.Items.length:Int)<b.Room
   .simp only[hl]
    exact⟨rfl,rfl,.inr (fun r hr=>keep (by omega) r hr _ _)⟩
   .simp only[hl]
    exact⟨rfl,hp,.inl ⟨rfl,rfl⟩⟩
 .simp only[k.1,hp]
  rcases bx[q.N.toNat]? with _|⟨r,it⟩
  .exact⟨rfl,hp,.inl ⟨rfl,rfl⟩⟩
  .cases it with
   |nil=>exact⟨rfl,hp,.inl ⟨rfl,rfl⟩⟩
   |cons x s=>exact⟨rfl,rfl,.inr (put _ _ _ (by omega) k.2.1)⟩
 .simp only[k.1,hp]
  exact⟨rfl,rfl,.inr (fun r hr=>keep (by omega) r hr _ _)⟩
 .simp only[k.1,hp,hA (by omega)]
  exact⟨rfl,rfl,.inr (fun r hr=>keep (by omega) r hr _ _)⟩
 .simp only[k.1]
  exact⟨rfl,hp,.inl ⟨rfl,rfl⟩⟩
theorem sameTalk_of {c d:gCrew}(hs:SmallCr c)(hl:d.Threads.length=c.Threads.length)(ht:d.Turn=c.Turn)(hi:d.Idle=c.Idle)(hb:d.Boxes=c.Boxes)(ho:d.Out=c.Out)(hp:∀(k:Nat) t u,c.Threads[k]? =some t->d.Threads[k]? =some u->u.Pc=t.Pc):xC c d=some true:=by
 have hth:=hs.thr
 unfold xC
 rw[zD,zD,hl,ht,hi,if_neg (by simp[ine]),bS',if_neg (by simp[ine]),bS',if_neg (by simp[ine])]
 have:=kX (step:=yO c d) (s0:=(0:Int)) c.Threads.length (fun k=>(k:Int)) (.inl ()) rfl (fun k hk=>?_) ?_
 .rw[this,bS']
  dsimp only
  rw[hb,ho,fE _ (by have:=hs.box;omega) (fun b hb=>by have:=hs.items b hb;omega),bS',if_pos rfl,tH _ (by have:=hs.out;omega)]
  rfl
 .unfold yO
  dsimp only
  have g1:=List.getElem?_eq_getElem hk
  have g2:=List.getElem?_eq_getElem (show k<d.Threads.length by omega)
  rw[if_pos (by rw[zF];unfold ilen;omega),zY g1,bS',zY g2,bS',hp k _ _ g1 g2,if_neg (by simp[ine]),iadd1 (by omega)]
 .unfold yO
  dsimp only
  rw[if_neg (by rw[zF];unfold ilen;omega)]
theorem Sim.talk {R:Nat->gThread->gThread->Prop}{c d:gCrew}(h:Sim R c d)(hs:SmallCr c)(hR:∀(k:Nat) t u,c.Threads[k]? =some t->d.Threads[k]? =some u->R k t u->u.Pc=t.Pc):xC c d=some true:=
 sameTalk_of hs (by rw[h.ok'.same,h.ok.same,h.many]) h.turn h.idle h.box h.out fun k t u a b=>hR k t u a b (h.thr k t u a b)
theorem sim0 {R:Nat->gThread->gThread->Prop}{rooms:List Int}{codes other:List (List gQuad)}(hC:CrewOk (crew0 rooms codes))(hD:CrewOk (crew0 rooms other))(hl:other.length=codes.length)(h0:∀k,k<codes.length->R k thr0 thr0):Sim R (crew0 rooms codes) (crew0 rooms other):=by
 refine⟨hC,hD,hl,rfl,rfl,rfl,rfl,fun k t u a b=>?_⟩
 simp only[crew0] at a b
 have hk:=(List.getElem?_eq_some_iff.1 a).1
 rw[(List.mem_replicate.1 (List.mem_of_getElem? a)).2,(List.mem_replicate.1 (List.mem_of_getElem? b)).2]
 exact h0 k (by simpa using hk)
end Go.Abs
