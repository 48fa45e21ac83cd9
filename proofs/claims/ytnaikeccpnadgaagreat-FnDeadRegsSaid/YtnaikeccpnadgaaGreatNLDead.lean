/- A code without dead quads goes the same way. -/
import Derived.Test.YtnaikeccpnadgaaGreatNLLive
import Derived.Test.YtnaikeccpnadgaaGreatNBNDeadRegs
import Derived.Test.YtnaikeccpnadgaaGreatNLCHd
set_option linter.unusedSimpArgs false
set_option linter.unusedVariables false
set_option maxHeartbeats 8000000
namespace Go.Abs
open Go

theorem Ok.deadI {l:List gQuad}(hc:zU false l):∃S,yP l=some S/\dE l.length S/\FixL l (rowsI S)/\Least l (rowsI S)/\qY l=some (((List.range l.length).filter (deadB l (rowsI S))).map fun k:Nat=>(k:Int)):=by
 obtain⟨S,e,h1,h2,h3⟩:=Ok.liveI hc
 have hl:=hc.1
 refine⟨S,e,h1,h2,h3,?_⟩
 unfold qY
 rw[e,bS']
 rw[kQ (step:=xV l S) (s0:=((0:Int),([]:List Int))) l.length (fun k=>((k:Int),((List.range k).filter (deadB l (rowsI S))).map fun k:Nat=>(k:Int))) _ rfl (fun k hk=>?_) ?_,bS']
 .unfold xV
  dsimp only
  rw[if_neg (by rw[zC,zB];omega)]
 .unfold xV
  dsimp only
  have g:=List.getElem?_eq_getElem hk
  obtain⟨a,a1,a2,a3⟩:=behindI hc h1 hk
  have hq:=hc.2.1 _ (List.getElem_mem hk)
  rw[if_pos (by rw[zC,zB];omega),zQ g,bS',setsI,bS',yR,bS',a1,iadd1 (by omega)]
  have hd:(if(ige (setsQ l[k]) 0&&ine l[k].Op 7)=true then((some a).bind fun r8=>(jY r8 (setsQ l[k])).bind fun r9=>some (bnot r9)) else some false)=some (deadB l (rowsI S) k):=by
   unfold deadB
   rw[g]
   dsimp only
   by_cases ho:l[k].Op=1\/l[k].Op=2\/l[k].Op=3
   .have hs:setsQ l[k]=l[k].Dst:=by unfold setsQ;rw[if_pos (by omega)]
    have hR:Rg l[k].Dst:=by
     rcases sets_in hq with h|h
     .rw[hs] at h
      rcases hq with k'|k'|k'|k'|k'|k'|k'|k'|k'|k'
      case inl=>exact k'.2.1
      case inr.inl=>exact k'.2.1
      case inr.inr.inl=>exact k'.2.1
      all_goals (have:=k'.1;omega)
     .rw[hs] at h;exact h
    have h12:l[k].Dst.toNat<12:=by unfold Rg at hR;omega
    rw[hs,if_pos (by rw[Bool.and_eq_true,uK,jW];exact⟨hR.1,by omega⟩),bS',has12 a2 hR,bS',decide_eq_true ho,Bool.true_and,a3 _ h12]
    rfl
   .rw[decide_eq_false ho,Bool.false_and,if_neg]
    rw[Bool.and_eq_true,uK,jW]
    intro⟨x,y⟩
    unfold setsQ at x
    rw[if_neg (by omega)] at x
    omega
  rw[hd,bS',List.range_succ,List.filter_append,List.map_append]
  cases hb:deadB l (rowsI S) k with
  |true=>
   have hfl:((List.range k).filter (deadB l (rowsI S))).length<=k:=by have:=List.length_filter_le (deadB l (rowsI S)) (List.range k);simpa using this
   rw[if_pos rfl,kT 8 _ _ (by simp only[List.length_map,List.length_singleton];unfold maxLen;omega),bS']
   simp[hb]
  |false=>
   rw[if_neg (by simp)]
   simp[hb]
def DOf (l:List gQuad)(live:List (List Bool))(m:List gQuad):Prop:=m.length=l.length/\∀(k:Nat) (q:gQuad),l[k]? =some q->m[k]? =some (if deadB l live k=true then⟨4,0,0,0,((k+1:Nat):Int)⟩ else q)
theorem Ok.deadCI {l:List gQuad}(hc:zU false l):∃S m,yP l=some S/\dE l.length S/\FixL l (rowsI S)/\Least l (rowsI S)/\wN l=some (m,true)/\DOf l (rowsI S) m:=by
 obtain⟨S,e,h1,h2,h3,h4⟩:=Ok.deadI hc
 have hl:=hc.1
 have e0:kI l=some l:=cloneQ_id l (by omega)
 have key:Ok (loopM (sG (((List.range l.length).filter (deadB l (rowsI S))).map fun k:Nat=>(k:Int))) (0,l)) (fun m=>DOf l (rowsI S) m):=by
  have hin:∀x∈(List.range l.length).filter (deadB l (rowsI S)),x<l.length/\deadB l (rowsI S) x=true:=fun x hx=>by
   rw[List.mem_filter] at hx;exact⟨List.mem_range.1 hx.1,hx.2⟩
  have hall:∀x,x<l.length->deadB l (rowsI S) x=true->x∈(List.range l.length).filter (deadB l (rowsI S)):=fun x a b=>List.mem_filter.2 ⟨List.mem_range.2 a,b⟩
  have hlen:((List.range l.length).filter (deadB l (rowsI S))).length<=l.length:=by have:=List.length_filter_le (deadB l (rowsI S)) (List.range l.length);simpa using this
  generalize (List.range l.length).filter (deadB l (rowsI S))=D at hin hall hlen
  refine Ok.loop (fun s:Int×List gQuad=>∃i:Nat,s.1=(i:Int)/\i<=D.length/\s.2.length=l.length/\∀(k:Nat) (q:gQuad),l[k]? =some q->(k∈D.take i->s.2[k]? =some ⟨4,0,0,0,((k+1:Nat):Int)⟩)/\(k ∉ D.take i->s.2[k]? =some q)) (fun s=>D.length-s.1.toNat) _ ⟨0,rfl,by omega,rfl,fun k q hq=>⟨by simp,fun _=>hq⟩⟩ ?_
  rintro⟨_,m⟩ ⟨i,rfl,g1,g2,g3⟩
  simp only at g2 g3
  unfold sG
  dsimp only
  rw[iadd1 (by omega)]
  refine Ok.ite (fun hi=>?_) fun hi=>?_
  .rw[zC,zB,List.length_map] at hi
   have hi':i<D.length:=by omega
   have gi:=List.getElem?_eq_getElem hi'
   have gm:(D.map fun k:Nat=>(k:Int))[i]? =some ((D[i]:Nat):Int):=by rw[List.getElem?_map,gi];rfl
   have hD:=(hin _ (List.getElem_mem hi')).1
   have gk:=List.getElem?_eq_getElem (show D[i]<m.length by omega)
   rw[zQ gm,bS',zQ gk,bS',pP _ (zQ gk),bS',iadd1 (by omega),Int.toNat_natCast]
   refine Ok.pure ⟨⟨i+1,rfl,by omega,by simp[g2],fun k q hq=>?_⟩,by simp only;omega⟩
   simp only
   have hk:k<m.length:=by rw[g2];exact(List.getElem?_eq_some_iff.1 hq).1
   rw[List.take_add_one,gi]
   by_cases e:D[i]=k
   .subst e
    exact⟨fun _=>List.getElem?_set_self hk,fun hn=>absurd (List.mem_append_right _ (by simp)) hn⟩
   .rw[List.getElem?_set_ne e]
    obtain⟨b1,b2⟩:=g3 k q hq
    refine⟨fun hm=>b1 ?_,fun hn=>b2 fun hm=>hn (List.mem_append_left _ hm)⟩
    rcases List.mem_append.1 hm with hm|hm
    .exact hm
    .simp at hm;exact absurd hm.symm e
  .rw[zC,zB,List.length_map] at hi
   have:i=D.length:=by omega
   subst this
   refine Ok.pure ⟨g2,fun k q hq=>?_⟩
   obtain⟨b1,b2⟩:=g3 k q hq
   rw[List.take_length] at b1 b2
   have hk:=(List.getElem?_eq_some_iff.1 hq).1
   cases hb:deadB l (rowsI S) k with
   |true=>rw[if_pos rfl];exact b1 (hall k hk hb)
   |false=>
    rw[if_neg (by simp)]
    refine b2 fun hm=>?_
    have:=(hin k hm).2
    rw[hb] at this;cases this
 obtain⟨m,em,hm⟩:=key
 refine⟨S,m,e,h1,h2,h3,?_,hm⟩
 unfold wN
 rw[tP,kB hc,bS',if_neg (by simp[bnot]),e0,bS',h4,bS',em,bS']
theorem dead_op {l:List gQuad}{live:List (List Bool)}{k:Nat}{q:gQuad}(hq:l[k]? =some q)(h:deadB l live k=true):(q.Op=1\/q.Op=2\/q.Op=3)/\aft l live k q.Dst.toNat=false:=by
 unfold deadB at h
 rw[hq] at h
 simpa using h
theorem DOf.at {l m:List gQuad}{live:List (List Bool)}(h:DOf l live m){k:Nat}{p:gQuad}(hp:m[k]? =some p):∃q,l[k]? =some q/\p=if deadB l live k=true then⟨4,0,0,0,((k+1:Nat):Int)⟩ else q:=by
 have hk:k<l.length:=by rw[<- h.1];exact(List.getElem?_eq_some_iff.1 hp).1
 have:=h.2 k _ (List.getElem?_eq_getElem hk)
 rw[hp] at this
 exact⟨_,List.getElem?_eq_getElem hk,Option.some.inj this⟩
theorem DOf.ok {l m:List gQuad}{live:List (List Bool)}(h:DOf l live m)(hc:zU false l):zU false m/\∀n,Talks l n->Talks m n:=by
 have hl:=hc.1
 have nl:∀{k:Nat} {q:gQuad},l[k]? =some q->deadB l live k=true->k+1<l.length:=by
  intro k q hq hd
  have hk:=(List.getElem?_eq_some_iff.1 hq).1
  have:=(dead_op hq hd).1
  rcases Nat.lt_or_ge (k+1) l.length with h'|h'
  .exact h'
  .have e:k=l.length-1:=by omega
   have:=hc.2.2 q (by rw[<- e];exact hq)
   omega
 refine⟨⟨by rw[h.1];exact hl,fun p hp=>?_,fun p hp=>?_⟩,fun n ht p hp ho=>?_⟩
 .obtain⟨k,hk⟩:=List.mem_iff_getElem?.1 hp
  obtain⟨q,hq,rfl⟩:=h.at hk
  rw[h.1]
  split
  .rename_i hd
   have:=nl hq hd
   exact .inr (.inr (.inr (.inl ⟨rfl,rfl,rfl,rfl,by dsimp only;omega⟩)))
  .exact hc.2.1 q (List.mem_of_getElem? hq)
 .rw[h.1] at hp
  obtain⟨q,hq,rfl⟩:=h.at hp
  split
  .exact .inr rfl
  .exact hc.2.2 q hq
 .obtain⟨k,hk⟩:=List.mem_iff_getElem?.1 hp
  obtain⟨q,hq,rfl⟩:=h.at hk
  split at ho
  .simp at ho
  .rename_i hd;rw[if_neg hd];exact ht q (List.mem_of_getElem? hq) ho
theorem LvR.dead {l m:List gQuad}{live:List (List Bool)}(hf:FixL l live){t u:gThread}{bx:List gBox}{q p:gQuad}(h:Can l t bx q)(h':Can m u bx p)(hm:DOf l live m)(hr:LvR l live t u):(thrP p u bx).2=(thrP q t bx).2/\LvR l live (thrP q t bx).1 (thrP p u bx).1:=by
 have hpc:t.Pc=((t.Pc.toNat:Nat):Int):=(Int.toNat_of_nonneg h.fit.2.2.1).symm
 have hp:=h'.at'
 rw[hr.1] at hp
 obtain⟨q',hq',e⟩:=hm.at hp
 rw[h.at'] at hq'
 cases hq'
 by_cases hd:deadB l live t.Pc.toNat=true
 .rw[if_pos hd] at e
  obtain⟨ho,ha⟩:=dead_op h.at' hd
  have hn:t.Pc+1∈nxt l t.Pc.toNat:=by
   unfold nxt
   rw[h.at']
   simp only[<- hpc]
   rw[if_neg (by omega),if_neg (by omega),if_neg (by omega),if_neg (by omega)]
   simp
  have hR:Rg q.Dst:=by
   rcases h.qv with k|k|k|k|k|k|k|k|k|k
   case inl=>exact k.2.1
   case inr.inl=>exact k.2.1
   case inr.inr.inl=>exact k.2.1
   all_goals (have:=k.1;omega)
  have e1:thrP p u bx=(⟨u.Regs,t.Pc+1⟩,bx,[],1):=by
   have e3:((t.Pc.toNat+1:Nat):Int)=t.Pc+1:=by omega
   rw[e,e3];unfold thrP
   rw[if_neg (by simp),if_neg (by simp),if_neg (by simp),if_pos rfl]
  have e2:∃v,thrP q t bx=(⟨t.Regs.set q.Dst.toNat v,t.Pc+1⟩,bx,[],1):=by
   unfold thrP
   rcases ho with o|o|o
   .exact⟨q.N,by simp only[o];rfl⟩
   .exact⟨rgv t q.A,by simp only[o];rfl⟩
   .exact⟨apv q.N (rgv t q.A) (rgv t q.B),by simp only[o];rfl⟩
  obtain⟨v,e2⟩:=e2
  rw[e1,e2]
  refine⟨rfl,rfl,fun r hr12 hl=>?_⟩
  have hal:=aft_of hn hl
  have hne:¬(r:Int)=q.Dst:=fun e=>by
   have:q.Dst.toNat=r:=by omega
   rw[this] at ha
   rw[ha] at hal;cases hal
  rw[rgv_go,rgv_set h.fit.1 hR _ _ hr12,if_neg hne]
  refine hr.2 r hr12 ?_
  rw[fix_lv hf h.at' hpc hr12]
  unfold bef
  rw[Bool.or_eq_true,Bool.and_eq_true]
  refine .inr ⟨?_,hal⟩
  rw[bne_iff_ne]
  unfold setsQ
  rw[if_pos (by omega)]
  exact fun e=>hne e.symm
 .rw[if_neg hd] at e
  subst e
  exact hr.same hf h h'
noncomputable def deadG (l:List gQuad):List gQuad:=match wN l with|some r=>r.1|none=>l
theorem deadG_val {l:List gQuad}(hc:zU false l):wN l=some (deadG l,true)/\DOf l (liveG l) (deadG l)/\FixL l (liveG l)/\Least l (liveG l):=by
 obtain⟨S,m,e1,e2,e3,e4,e5,e6⟩:=Ok.deadCI hc
 unfold deadG liveG
 rw[e5,e1]
 exact⟨rfl,e6,e3,e4⟩
theorem dead_sim {rooms:List Int}{codes:List (List gQuad)}(hC:CrewOk (crew0 rooms codes))(n:Nat):CrewOk (crew0 rooms (codes.map deadG))/\Sim (DeadR codes) (crewN n (crew0 rooms codes)) (crewN n (crew0 rooms (codes.map deadG))):=by
 have hD:=crew0_map hC deadG fun x _ hx=>(deadG_val hx).2.1.ok hx
 refine⟨hD,(sim0 hC hD (by simp) fun k _ l _=>⟨rfl,fun _ _ _=>rfl⟩).steps (fun k l m t u q p bx a1 a2 hr h h'=>?_) n⟩
 simp only[crew0] at a1 a2
 rw[List.getElem?_map,a1] at a2
 cases a2
 have hc:=h.code
 obtain⟨_,d1,d2,_⟩:=deadG_val hc
 obtain⟨s1,s2⟩:=(hr l a1).dead d2 h h' d1
 exact⟨s1,fun l' a=>by rw[a1] at a;cases a;exact s2⟩
end Go.Abs
