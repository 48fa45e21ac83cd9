/- Threads with the same values where it matters go the same way. -/
import Derived.Test.YtolmjhgondilhaaGreatNLPass
import Derived.Test.YtolmjhgondilhaaGreatNCNDeadRun
set_option linter.unusedSimpArgs false
set_option linter.unusedVariables false
set_option maxHeartbeats 8000000
namespace Go.Abs
open Go

theorem rgv_set {t:gThread}(ht:t.Regs.length=12){d:Int}(hd:Rg d)(v pc:Int){r:Nat}(hr:r<12):rgv ⟨t.Regs.set d.toNat v,pc⟩ r=if(r:Int)=d then v else rgv t r:=by
 unfold rgv
 unfold Rg at hd
 simp only[Int.toNat_natCast]
 by_cases h:(r:Int)=d
 .rw[if_pos h]
  have:d.toNat=r:=by omega
  rw[this,List.getElem?_set_self (by omega)]
  rfl
 .rw[if_neg h,List.getElem?_set_ne (by omega)]
theorem rgv_go (t:gThread)(pc:Int)(r:Int):rgv ⟨t.Regs,pc⟩ r=rgv t r:=rfl
theorem Can.pcs {l:List gQuad}{t:gThread}{bx:List gBox}{q:gQuad}(h:Can l t bx q):(thrP q t bx).1.Pc∈nxt l t.Pc.toNat\/(thrP q t bx).1=t:=by
 have hp:((t.Pc.toNat:Nat):Int)=t.Pc:=Int.toNat_of_nonneg h.fit.2.2.1
 have h1:q.Op≠10->q.Op≠4->t.Pc+1∈nxt l t.Pc.toNat:=by
  intro a b
  unfold nxt
  rw[h.at']
  simp only[if_neg a,if_neg b,hp]
  split
  .simp
  .split<;>simp
 have h2:q.Op=4\/q.Op=5->q.N∈nxt l t.Pc.toNat:=by
  intro a
  unfold nxt
  rw[h.at']
  simp only[hp]
  rw[if_neg (by omega)]
  split
  .simp
  .split
   .simp
   .split
    .simp
    .rename_i x y z
     simp only[List.mem_singleton]
     omega
 refine h.cases (P:=fun r=>r.1.Pc∈nxt l t.Pc.toNat\/r.1=t) ?_ ?_ ?_ ?_ ?_ ?_ ?_ ?_ ?_ ?_ ?_
 .intro a _ _;exact .inl (h1 (by omega) (by omega))
 .intro a _ _;exact .inl (h1 (by omega) (by omega))
 .intro a _ _ _ _;exact .inl (h1 (by omega) (by omega))
 .intro a _ _;exact .inl (h2 (.inl a))
 .intro a _ _ _
  left
  simp only
  split
  .exact h2 (.inr a)
  .exact h1 (by omega) (by omega)
 .intro a _ _ b _ _
  split
  .exact .inl (h1 (by omega) (by omega))
  .exact .inr rfl
 .intro a _ _ _ _ _ _ _;exact .inl (h1 (by omega) (by omega))
 .intro _ _ _ _ _ _;exact .inr rfl
 .intro a;exact .inl (h1 (by omega) (by omega))
 .intro a _;exact .inl (h1 (by omega) (by omega))
 .intro _;exact .inr rfl
theorem same_step {l m:List gQuad}{t u:gThread}{bx:List gBox}{q:gQuad}(h:Can l t bx q)(h':Can m u bx q)(hp:u.Pc=t.Pc)(hr:∀x∈usesQ q,rgv u x=rgv t x):
  (thrP q u bx).2=(thrP q t bx).2/\(thrP q u bx).1.Pc=(thrP q t bx).1.Pc/\(((thrP q t bx).1=t/\(thrP q u bx).1=u)\/∀r:Nat,r<12->((r:Int)=setsQ q->rgv (thrP q u bx).1 r=rgv (thrP q t bx).1 r)/\((r:Int)≠setsQ q->rgv (thrP q u bx).1 r=rgv u r/\rgv (thrP q t bx).1 r=rgv t r)):=by
 have ht:=h.fit.1
 have hu:=h'.fit.1
 have nos:(q.Op=1\/q.Op=2\/q.Op=3\/q.Op=7->setsQ q=q.Dst)/\(¬(q.Op=1\/q.Op=2\/q.Op=3\/q.Op=7)->setsQ q= -1):=by
  unfold setsQ
  exact⟨fun a=>if_pos a,fun a=>if_neg a⟩
 have hA:q.Op=2\/q.Op=5\/q.Op=6\/q.Op=9\/q.Op=3->rgv u q.A=rgv t q.A:=by
  intro a
  refine hr _ ?_
  unfold usesQ
  by_cases c:q.Op=2\/q.Op=5\/q.Op=6\/q.Op=9
  .rw[if_pos c];simp
  .rw[if_neg c,if_pos (by omega)]
   split
   .simp
   .unfold imin imax
    simp only[List.mem_cons,List.not_mem_nil,or_false]
    split<;>split<;>omega
 have hB:q.Op=3->rgv u q.B=rgv t q.B:=by
  intro a
  refine hr _ ?_
  unfold usesQ
  rw[if_neg (by omega),if_pos a]
  split
  .rename_i e;simp[e]
  .unfold imin imax
   simp only[List.mem_cons,List.not_mem_nil,or_false]
   split<;>split<;>omega
 have keep:¬(q.Op=1\/q.Op=2\/q.Op=3\/q.Op=7)->∀r:Nat,r<12->∀a b:Int,((r:Int)=setsQ q->rgv ⟨u.Regs,a⟩ r=rgv ⟨t.Regs,b⟩ r)/\((r:Int)≠setsQ q->rgv ⟨u.Regs,a⟩ r=rgv u r/\rgv ⟨t.Regs,b⟩ r=rgv t r):=by
  intro hn r _ a b
  rw[nos.2 hn]
  exact⟨fun h=>by omega,fun _=>⟨rfl,rfl⟩⟩
 have put:∀(v:Int) (a b:Int),(q.Op=1\/q.Op=2\/q.Op=3\/q.Op=7)->Rg q.Dst->∀r:Nat,r<12->((r:Int)=setsQ q->rgv ⟨u.Regs.set q.Dst.toNat v,a⟩ r=rgv ⟨t.Regs.set q.Dst.toNat v,b⟩ r)/\((r:Int)≠setsQ q->rgv ⟨u.Regs.set q.Dst.toNat v,a⟩ r=rgv u r/\rgv ⟨t.Regs.set q.Dst.toNat v,b⟩ r=rgv t r):=by
  intro v a b ho hd r hr
  rw[nos.1 ho,rgv_set hu hd _ _ hr,rgv_set ht hd _ _ hr]
  exact⟨fun e=>by rw[if_pos e,if_pos e],fun e=>by rw[if_neg e,if_neg e];exact⟨rfl,rfl⟩⟩
 have hb:=h.box
 unfold thrP
 rcases h.qv with k|k|k|k|k|k|k|k|k|k
 .simp only[k.1,hp]
  exact⟨rfl,rfl,.inr (put _ _ _ (by omega) k.2.1)⟩
 .simp only[k.1,hp,hA (by omega)]
  exact⟨rfl,rfl,.inr (put _ _ _ (by omega) k.2.1)⟩
 .simp only[k.1,hp,hA (by omega),hB (by omega)]
  exact⟨rfl,rfl,.inr (put _ _ _ (by omega) k.2.1)⟩
 .simp only[k.1]
  exact⟨rfl,rfl,.inr (fun r hr=>keep (by omega) r hr _ _)⟩
 .simp only[k.1,hp,hA (by omega)]
  exact⟨rfl,rfl,.inr (fun r hr=>keep (by omega) r hr _ _)⟩
 .simp only[k.1]
  rw[hA (by omega)]
  simp only[hp]
  cases bx[q.N.toNat]? with
  |none=>exact⟨rfl,hp,.inl ⟨rfl,rfl⟩⟩
  |some b=>
   simp only
   by_cases hl:(b.Items.length:Int)<b.Room
   .simp only[hl]
    exact⟨rfl,rfl,.inr (fun r hr=>keep (by omega) r hr _ _)⟩
   .simp only[hl]
    exact⟨rfl,hp,.inl ⟨rfl,rfl⟩⟩
 .simp only[k.1,hp]
  rcases bx[q.N.toNat]? with _|⟨r,it⟩
  .exact⟨rfl,hp,.inl ⟨rfl,rfl⟩⟩
  .cases it with
   |nil=>exact⟨rfl,hp,.inl ⟨rfl,rfl⟩⟩
   |cons x s=>exact⟨rfl,rfl,.inr (put _ _ _ (by omega) k.2.1)⟩
 .simp only[k.1,hp]
  exact⟨rfl,rfl,.inr (fun r hr=>keep (by omega) r hr _ _)⟩
 .simp only[k.1,hp,hA (by omega)]
  exact⟨rfl,rfl,.inr (fun r hr=>keep (by omega) r hr _ _)⟩
 .simp only[k.1]
  exact⟨rfl,hp,.inl ⟨rfl,rfl⟩⟩
theorem sameTalk_of {c d:gCrew}(hs:SmallCr c)(hl:d.Threads.length=c.Threads.length)(ht:d.Turn=c.Turn)(hi:d.Idle=c.Idle)(hb:d.Boxes=c.Boxes)(ho:d.Out=c.Out)(hp:∀(k:Nat) t u,c.Threads[k]? =some t->d.Threads[k]? =some u->u.Pc=t.Pc):jU c d=some true:=by
 have hth:=hs.thr
 unfold jU
 rw[zC,zC,hl,ht,hi,if_neg (by simp[ine]),bS',if_neg (by simp[ine]),bS',if_neg (by simp[ine])]
 have:=kW (step:=yX c d) (s0:=(0:Int)) c.Threads.length (fun k=>(k:Int)) (.inl ()) rfl (fun k hk=>?_) ?_
 .rw[this,bS']
  dsimp only
  rw[hb,ho,dZ _ (by have:=hs.box;omega) (fun b hb=>by have:=hs.items b hb;omega),bS',if_pos rfl,jI _ (by have:=hs.out;omega)]
  rfl
 .unfold yX
  dsimp only
  have g1:=List.getElem?_eq_getElem hk
  have g2:=List.getElem?_eq_getElem (show k<d.Threads.length by omega)
  rw[if_pos (by rw[zE];unfold ilen;omega),zU g1,bS',zU g2,bS',hp k _ _ g1 g2,if_neg (by simp[ine]),iadd1 (by omega)]
 .unfold yX
  dsimp only
  rw[if_neg (by rw[zE];unfold ilen;omega)]
theorem Sim.talk {R:Nat->gThread->gThread->Prop}{c d:gCrew}(h:Sim R c d)(hs:SmallCr c)(hR:∀(k:Nat) t u,c.Threads[k]? =some t->d.Threads[k]? =some u->R k t u->u.Pc=t.Pc):jU c d=some true:=
 sameTalk_of hs (by rw[h.ok'.same,h.ok.same,h.many]) h.turn h.idle h.box h.out fun k t u a b=>hR k t u a b (h.thr k t u a b)
theorem sim0 {R:Nat->gThread->gThread->Prop}{rooms:List Int}{codes other:List (List gQuad)}(hC:CrewOk (crew0 rooms codes))(hD:CrewOk (crew0 rooms other))(hl:other.length=codes.length)(h0:∀k,k<codes.length->R k thr0 thr0):Sim R (crew0 rooms codes) (crew0 rooms other):=by
 refine⟨hC,hD,hl,rfl,rfl,rfl,rfl,fun k t u a b=>?_⟩
 simp only[crew0] at a b
 have hk:=(List.getElem?_eq_some_iff.1 a).1
 rw[(List.mem_replicate.1 (List.mem_of_getElem? a)).2,(List.mem_replicate.1 (List.mem_of_getElem? b)).2]
 exact h0 k (by simpa using hk)
theorem keepsTalk_true {rooms:List Int}{codes other:List (List gQuad)}(hr:rooms.length<=1000)(h1:yZ rooms=true)(hC:CrewOk (crew0 rooms codes))(hD:CrewOk (crew0 rooms other)){n:Int}(hn:0<=n/\n<=1000)
  (ht:SmallCr (crewN n.toNat (crew0 rooms codes))->jU (crewN n.toNat (crew0 rooms codes)) (crewN n.toNat (crew0 rooms other))=some true):pR rooms codes other n=some true:=by
 unfold pR
 have hx:=hC.steps n.toNat
 have hout:=uR hC n.toNat
 have hs:=hx.small (by simp only[crew0,List.length_nil] at hout ⊢;omega)
 rw[run_val hr h1 hC (by omega),bS',if_pos,run_val hr h1 hD (by omega),bS',ht hs]
 .rfl
 .rw[zO,zC,zC,hx.same,gF]
  rfl
end Go.Abs
