/- At rest alike. -/
import Derived.Test.YtnaikeccpnadgaaGreatNLCHd
import Derived.Test.YtnaikeccpnadgaaGreatNBNSqueezeRun
set_option linter.unusedSimpArgs false
set_option linter.unusedVariables false
set_option maxHeartbeats 8000000
namespace Go.Abs
open Go

def outc (c:gCrew):gOutcome:=⟨c.Out,c.Boxes.map gBox.Items,(List.range c.Threads.length).map fun k=>match c.Codes[k]?,c.Threads[k]? with|some l,some t=>(match l[t.Pc.toNat]? with|some q=>decide (q.Op=10)|none=>false)|_,_=>false,decide (c.Idle=(c.Threads.length:Int))⟩
theorem range_snoc (f:Nat->Bool)(k:Nat):(List.range (k+1)).map f=(List.range k).map f++[f k]:=by rw[List.range_succ,List.map_append];rfl
theorem outcome_val {c:gCrew}(h:CrewOk c)(hs:SmallCr c)(ho:c.Out.length<=800000):xJ c=some (outc c):=by
 unfold xJ
 have hb:=hs.box
 have hth:=hs.thr
 rw[iCrewValid hs,(oJ hs).2 h,bS',if_neg (by simp[bnot])]
 unfold sF
 rw[clone_id _ (by omega),bS']
 rw[kQ (step:=jG c.Boxes) (s0:=((0:Int),(⟨[],[],[],false⟩:gOutcome),(⟨c.Out,[],[],ieq c.Idle (ilen c.Threads)⟩:gOutcome))) c.Boxes.length (fun k=>((k:Int),(⟨[],[],[],false⟩:gOutcome),(⟨c.Out,(c.Boxes.take k).map gBox.Items,[],ieq c.Idle (ilen c.Threads)⟩:gOutcome))) ((⟨[],[],[],false⟩:gOutcome),(⟨c.Out,c.Boxes.map gBox.Items,[],ieq c.Idle (ilen c.Threads)⟩:gOutcome)) rfl (fun k hk=>?_) ?_,bS',bS']
 .rw[kQ (step:=jI c) (s0:=((0:Int),(⟨[],[],[],false⟩:gOutcome),(⟨c.Out,c.Boxes.map gBox.Items,[],ieq c.Idle (ilen c.Threads)⟩:gOutcome))) c.Threads.length (fun k=>((k:Int),(⟨[],[],[],false⟩:gOutcome),(⟨c.Out,c.Boxes.map gBox.Items,(List.range k).map fun k=>match c.Codes[k]?,c.Threads[k]? with|some l,some t=>(match l[t.Pc.toNat]? with|some q=>decide (q.Op=10)|none=>false)|_,_=>false,ieq c.Idle (ilen c.Threads)⟩:gOutcome))) ((⟨[],[],[],false⟩:gOutcome),outc c) rfl (fun k hk=>?_) ?_]
  .rfl
  .unfold jI
   dsimp only
   rw[if_neg (by rw[zC,zB];omega)]
   simp only[outc,ieq_d,zB]
  .unfold jI
   dsimp only
   have hk2:k<c.Codes.length:=by have:=h.same;omega
   have a1:=List.getElem?_eq_getElem hk2
   have a2:=List.getElem?_eq_getElem hk
   obtain⟨c1,c2,c3⟩:=h.thr k _ _ a1 a2
   have hp:c.Threads[k].Pc.toNat<c.Codes[k].length:=by obtain⟨_,_,p1,p2⟩:=c2;omega
   have a3:=List.getElem?_eq_getElem hp
   have a4:idx c.Codes[k] c.Threads[k].Pc=some c.Codes[k][c.Threads[k].Pc.toNat]:=by
    have:=zQ a3
    rwa [Int.toNat_of_nonneg c2.2.2.1] at this
   rw[if_pos (by rw[zC,zB];omega),zQ a2,bS',zQ a1,bS',a4,bS',kT 1 _ _ (by simp;unfold maxLen;omega),bS',iadd1 (by omega),range_snoc]
   simp only[a1,a2,a3,ieq_d]
 .unfold jG
  dsimp only
  rw[if_neg (by rw[zC,zB];omega),List.take_length]
 .unfold jG
  dsimp only
  rw[if_pos (by rw[zC,zB];omega),zQ (List.getElem?_eq_getElem hk),bS',clone_id _ (by have:=hs.items _ (List.getElem_mem hk);omega),bS',kT 24 _ _ (by simp;unfold maxLen;omega),bS',iadd1 (by omega),sO c.Boxes gBox.Items k hk]
theorem sameLists_refl (l:List (List Int))(hl:l.length<=1000000)(hi:∀x∈l,x.length<=1000000):qQ l l=some true:=by
 unfold qQ
 rw[if_neg (by simp[ine])]
 have:=kQ (step:=xQ l l) (s0:=(0:Int)) l.length (fun k=>(k:Int)) (.inl ()) rfl (fun k hk=>?_) ?_
 .rw[this];rfl
 .unfold xQ
  dsimp only
  rw[if_pos (by rw[zC];unfold ilen;omega),zQ (List.getElem?_eq_getElem hk)]
  simp only[bS',yW l[k] (by have:=hi _ (List.getElem_mem hk);omega)]
  rw[show bnot true=false from rfl,if_neg (by decide),iadd1 (by omega)]
 .unfold xQ
  dsimp only
  rw[if_neg (by rw[zC];unfold ilen;omega)]
theorem sameFlags_refl (l:List Bool)(hl:l.length<=1000000):qR l l=some true:=by
 unfold qR
 rw[if_neg (by simp[ine])]
 have:=kQ (step:=xR l l) (s0:=(0:Int)) l.length (fun k=>(k:Int)) (.inl ()) rfl (fun k hk=>?_) ?_
 .rw[this];rfl
 .unfold xR
  dsimp only
  rw[if_pos (by rw[zC];unfold ilen;omega),zQ (List.getElem?_eq_getElem hk)]
  simp only[bS']
  rw[if_neg (by simp[bneb]),iadd1 (by omega)]
 .unfold xR
  dsimp only
  rw[if_neg (by rw[zC];unfold ilen;omega)]
theorem sameOutcome_refl {c:gCrew}(hs:SmallCr c):vL (outc c) (outc c)=some true:=by
 have hb:=hs.box
 have hth:=hs.thr
 have ho:=hs.out
 unfold vL
 rw[yW _ (by simp only[outc];omega),bS',if_pos rfl,sameLists_refl _ (by simp only[outc,List.length_map];omega) (fun x hx=>by
  simp only[outc,List.mem_map] at hx
  obtain⟨b,hb,rfl⟩:=hx
  have:=hs.items b hb
  omega),bS',bS',if_pos rfl,sameFlags_refl _ (by simp only[outc,List.length_map,List.length_range];omega),bS',bS',if_pos rfl]
 simp[beqb]
theorem restsAs_true {R:gCrew->gCrew->Prop}(hR:∀c d,R c d->R (crewS c) d\/R (crewS c) (crewS d))(hQ:∀c d,R c d->CrewOk c->¬c.Idle<c.Codes.length->¬d.Idle<d.Codes.length/\outc d=outc c)
  {rooms:List Int} {codes other:List (List gQuad)} (hr:rooms.length<=1000) (h1:jM rooms=true) (hC:CrewOk (crew0 rooms codes)) (hD:CrewOk (crew0 rooms other)) (h0:R (crew0 rooms codes) (crew0 rooms other)) {n:Int} (hn:0<=n/\n<=1000):gV rooms codes other n=some true:=by
 unfold gV
 have hx:=hC.steps n.toNat
 have hout:(crewN n.toNat (crew0 rooms codes)).Out.length<=1000:=by have:=crewN_out hC n.toNat;simp only[crew0,List.length_nil] at this ⊢;omega
 have hxs:=hx.small (by omega)
 rw[run_val hr h1 hC (by omega),bS',outcome_val hx hxs (by omega),bS']
 have hlen:(crewN n.toNat (crew0 rooms codes)).Threads.length=codes.length:=by rw[hx.same,pD];rfl
 have hid:=hx.idle
 by_cases hi:(crewN n.toNat (crew0 rooms codes)).Idle<(crewN n.toNat (crew0 rooms codes)).Codes.length
 .have hf:(outc (crewN n.toNat (crew0 rooms codes))).Rest=false:=by
   simp only[outc,decide_eq_false_iff_not]
   have:=hx.same
   omega
  rw[hf,if_pos (by rfl)]
  simp[outc,ieq,ilen,hlen]
 .have hf:(outc (crewN n.toNat (crew0 rooms codes))).Rest=true:=by
   simp only[outc,decide_eq_true_iff]
   have:=hx.same
   omega
  rw[hf,if_neg (by simp[bnot]),run_val hr h1 hD (by omega),bS']
  obtain⟨m,hm,hrel⟩:=lagN hR h0 n.toNat
  obtain⟨e1,e2⟩:=hQ _ _ hrel hx hi
  have hy:=hD.steps n.toNat
  have hout2:(crewN n.toNat (crew0 rooms other)).Out.length<=1000:=by have:=crewN_out hD n.toNat;simp only[crew0,List.length_nil] at this ⊢;omega
  rw[outcome_val hy (hy.small (by omega)) (by omega),bS']
  have:crewN n.toNat (crew0 rooms other)=crewN m (crew0 rooms other):=by
   rw[show n.toNat=m+(n.toNat-m) by omega,crewN_add,crewN_rest e1]
  rw[this,e2,sameOutcome_refl hxs]
  rfl
end Go.Abs
