/- laws.FnCrewRest's mirror: true for each code. -/
import Derived.Test.YtdnkfkfjaaedpaaGreatNCrM
set_option linter.unusedSimpArgs false
set_option linter.unusedVariables false
set_option maxHeartbeats 8000000
namespace Go.Abs
open Go

theorem still_of {l:List gQuad}{t:gThread}{bx:List gBox}{q:gQuad}(h:Can l t bx q):(thrP q t bx).2.2.2=3∨(thrP q t bx).2.2.2=4→(thrP q t bx).1=t∧(thrP q t bx).2.1=bx∧(thrP q t bx).2.2.1=[]:=by
 refine h.cases (P:=fun r=>r.2.2.2=3∨r.2.2.2=4→r.1=t∧r.2.1=bx∧r.2.2.1=[]) ?_ ?_ ?_ ?_ ?_ ?_ ?_ ?_ ?_ ?_ ?_<;>intros<;>first|exact⟨rfl,rfl,rfl⟩|(exfalso;simp at*;done)|skip
 rename_i hk
 split at hk
 ·exfalso;simp at hk
 ·rename_i hb;rw[if_neg hb];exact⟨rfl,rfl,rfl⟩
def Rests (c:gCrew):Prop:=∀j:Nat,(j:Int)<c.Idle→∀l t q,c.Codes[((c.Turn-1-j) % c.Codes.length).toNat]? =some l→c.Threads[((c.Turn-1-j) % c.Codes.length).toNat]? =some t→l[t.Pc.toNat]? =some q→(thrP q t c.Boxes).2.2.2=3∨(thrP q t c.Boxes).2.2.2=4
theorem Rests.step {c:gCrew}(h:CrewOk c)(hr:Rests c):Rests (crewS c):=by
 by_cases hi:c.Idle<c.Codes.length
 ·obtain⟨l,t,q,h1,h2,h3,h4,h5⟩:=h.now
  rw[pA hi h1 h2 h3]
  have hm:=h.many
  have ht:=h.turn
  have hd:=h.idle
  by_cases hk:(thrP q t c.Boxes).2.2.2=3∨(thrP q t c.Boxes).2.2.2=4
  ·obtain⟨s1,s2,s3⟩:=still_of h4 hk
   have hn:nextT c.Codes.length c.Turn c.Idle (thrP q t c.Boxes).2.2.2=((c.Turn+1) % c.Codes.length,c.Idle+1):=by
    unfold nextT
    rw[if_neg (by omega),if_neg (by omega)]
   have e:crewG c (thrP q t c.Boxes)=⟨c.Codes,c.Threads,c.Boxes,(c.Turn+1) % c.Codes.length,c.Idle+1,c.Out⟩:=by
    unfold crewG
    rw[hn,s1,s2,s3,setSelf h2,List.append_nil]
   rw[e]
   intro j hj l' t' q' a1 a2 a3
   simp only at hj a1 a2 a3 ⊢
   by_cases h0:j=0
   ·subst h0
    have ei:(((c.Turn+1) % (c.Codes.length:Int)-1-((0:Nat):Int)) % (c.Codes.length:Int)).toNat=c.Turn.toNat:=by
     have:c.Codes.length=1∨c.Codes.length=2∨c.Codes.length=3:=by omega
     rcases this with hL|hL|hL<;>rw[hL] at ht ⊢<;>omega
    rw[ei] at a1 a2
    rw[h1] at a1
    rw[h2] at a2
    cases a1
    cases a2
    rw[h3] at a3
    cases a3
    exact hk
   ·have ei:(((c.Turn+1) % (c.Codes.length:Int)-1-(j:Int)) % (c.Codes.length:Int)).toNat=((c.Turn-1-((j-1:Nat):Int)) % (c.Codes.length:Int)).toNat:=by
     have:c.Codes.length=1∨c.Codes.length=2∨c.Codes.length=3:=by omega
     rcases this with hL|hL|hL<;>rw[hL] at ht ⊢<;>omega
    rw[ei] at a1 a2
    exact hr (j-1) (by omega) l' t' q' a1 a2 a3
  ·intro j hj
   exfalso
   have hn:(nextT c.Codes.length c.Turn c.Idle (thrP q t c.Boxes).2.2.2).2=0:=by
    rcases kind_in h4 with k|k|k|k
    ·rw[k];rfl
    ·rw[k];rfl
    ·exact absurd (.inl k) hk
    ·exact absurd (.inr k) hk
   simp only[crewG,hn] at hj
   omega
 ·rw[uZ hi];exact hr
theorem Rests.steps {c:gCrew}(h:CrewOk c)(hr:Rests c)(n:Nat):Rests (crewN n c):=by
 induction n generalizing c with
 |zero=>exact hr
 |succ n ih=>exact ih h.step (hr.step h)
theorem Rests.all {c:gCrew}(h:CrewOk c)(hr:Rests c)(hi:¬c.Idle<c.Codes.length){k:Nat}{l:List gQuad}{t:gThread}{q:gQuad}(e1:c.Codes[k]? =some l)(e2:c.Threads[k]? =some t)(e3:l[t.Pc.toNat]? =some q):(thrP q t c.Boxes).2.2.2=3∨(thrP q t c.Boxes).2.2.2=4:=by
 have hm:=h.many
 have ht:=h.turn
 have hk:=(List.getElem?_eq_some_iff.1 e1).1
 have:∃j:Nat,(j:Int)<c.Idle∧((c.Turn-1-(j:Int)) % (c.Codes.length:Int)).toNat=k:=by
  refine⟨((c.Turn-1-(k:Int)) % (c.Codes.length:Int)).toNat,?_,?_⟩
  ·have:c.Codes.length=1∨c.Codes.length=2∨c.Codes.length=3:=by omega
   rcases this with hL|hL|hL<;>rw[hL] at ht hi hk ⊢<;>omega
  ·have:c.Codes.length=1∨c.Codes.length=2∨c.Codes.length=3:=by omega
   rcases this with hL|hL|hL<;>rw[hL] at ht hk ⊢<;>omega
 obtain⟨j,hj,ej⟩:=this
 exact hr j hj l t q (by rw[ej];exact e1) (by rw[ej];exact e2) e3
theorem crewN_out {c:gCrew}(h:CrewOk c)(n:Nat):(crewN n c).Out.length≤c.Out.length+n:=by
 induction n generalizing c with
 |zero=>exact Nat.le_refl _
 |succ n ih=>
  have h1:=ih h.step
  have h2:=crewS_out h
  show(crewN n (crewS c)).Out.length≤_
  omega
theorem CrewOk.small {c:gCrew}(h:CrewOk c)(ho:c.Out.length≤1000000):SmallCr c:=by
 refine⟨⟨by have:=h.many;omega,fun x hx=>?_⟩,by have:=h.many;have:=h.same;omega,fun t ht=>?_,by have:=box_len h.box;omega,fun b hb=>by have:=box_items h.box b hb;omega,ho⟩
 ·obtain⟨k,hk,rfl⟩:=List.getElem_of_mem hx
  have hk2:k<c.Threads.length:=by have:=h.same;omega
  have:=(h.thr k _ _ (List.getElem?_eq_getElem hk) (List.getElem?_eq_getElem hk2)).1
  exact dB this
 ·obtain⟨k,hk,rfl⟩:=List.getElem_of_mem ht
  have hk2:k<c.Codes.length:=by have:=h.same;omega
  have:=(h.thr k _ _ (List.getElem?_eq_getElem hk2) (List.getElem?_eq_getElem hk)).2.1.1
  omega
theorem iStep_val {l:List gQuad}{t:gThread}{bx:List gBox}{q:gQuad}(h:Can l t bx q):uC l t bx=some (thrP q t bx):=by
 have hb3:=box_len h.box
 have hbi:=box_items h.box
 have hf:=h.fit
 have hl:=h.len
 unfold uC
 rw[(tv_val (by have:=hf.1;omega) (by omega)).1,((tv_val (by have:=hf.1;omega) (by omega)).2.2).2 ⟨h.code,hf⟩,nG bx (by omega) (fun b hb=>by have:=hbi b hb;omega),h.box]
 simp only[if_or,bS']
 rw[if_neg (by simp[bnot]),h.idx,bS',zC,(dP _ _).1,decide_eq_true h.talk,bS',bS',if_neg (by simp[bnot]),fP,mP,dM _ (by have:=hf.1;omega),mN bx (by omega) (fun b hb=>by have:=hbi b hb;omega),bS',bS',dO h (o:=[]) (by simp),bS']
 rfl
noncomputable def newC (rooms:List Int)(codes:List (List gQuad)):gCrew×Bool:=if vA rooms=true∧crewB (crew0 rooms codes)=true then(crew0 rooms codes,true) else(zeroC,false)
theorem small_zero:SmallCr zeroC:=⟨⟨by simp[zeroC],by simp[zeroC]⟩,by simp[zeroC],by simp[zeroC],by simp[zeroC],by simp[zeroC],by simp[zeroC]⟩
theorem newC_small {rooms:List Int}{codes:List (List gQuad)}(hr:rooms.length≤1000)(hc:nI codes):SmallCr (newC rooms codes).1:=by
 unfold newC
 split
 ·exact small0 hr hc
 ·exact small_zero
theorem headC {rest:List Int×List (List gQuad)→Option Bool}{l m:List Int}(hb:Bytes l)(hl:l.length≤maxLen)
  (h1:∀r,r.1.length≤2→nI r.2→vA r.1=true→CrewOk (crew0 r.1 r.2)→SmallCr (crew0 r.1 r.2)→¬igt (ilen m) 1048576=true→rest r=some true):
  ((if igt (ilen l) 1048576=true then some true else some (igt (ilen m) 1048576)).bind fun g1=>
  if g1=true then some true else
   (jL l).bind fun r2=>(tX r2.1 r2.2).bind fun r3=>(qO r2.1 r2.2).bind fun r4=>
   (if bneb r3.2 r4.2=true then some true else(jM r3.1 r4.1).bind fun r5=>some (bnot r5)).bind fun g6=>
   (if g6=true then some true else some (bnot r3.2)).bind fun g7=>
   if g7=true then
    (if beqb r3.2 r4.2=true then(jM r3.1 r4.1).bind fun r8=>some r8 else some false).bind fun g9=>some g9
   else rest r2)=some true:=by
 by_cases hg:igt (ilen l) 1048576=true
 ·rw[if_pos hg];rfl
 rw[if_neg hg,bS']
 by_cases hm:igt (ilen m) 1048576=true
 ·rw[if_pos hm]
 rw[if_neg hm]
 rw[yV,zC] at hg
 obtain⟨r,e,z1,z2⟩:=Ok.drawCN hb (by omega)
 rw[e,bS',iNew_val (by omega) z2,bS',sNew_val (by omega) z2,bS']
 have hs:=newC_small (rooms:=r.1) (codes:=r.2) (by omega) z2
 have hx:(if vA r.1=true∧crewB (crew0 r.1 r.2)=true then(crew0 r.1 r.2,true) else(zeroC,false))=newC r.1 r.2:=rfl
 rw[hx,if_neg (by simp[bneb]),hY _ hs,bS',bS',if_neg (by simp[bnot]),bS']
 by_cases hv:vA r.1=true∧crewB (crew0 r.1 r.2)=true
 ·have e2:(newC r.1 r.2).2=true:=by unfold newC;rw[if_pos hv]
  rw[e2,if_neg (by simp[bnot])]
  have h0:=small0 (rooms:=r.1) (codes:=r.2) (by omega) z2
  exact h1 r z1 z2 hv.1 ((gM h0).1 hv.2) h0 hm
 ·have e2:(newC r.1 r.2).2=false:=by unfold newC;rw[if_neg hv]
  rw[e2,if_pos (by rfl)]
  rfl
theorem iRun_ok {c:gCrew}(h:CrewOk c)(hs:SmallCr c)(ho:c.Out.length≤800000){n:Int}(hn:0≤n∧n≤100000):tW c n=some (crewN n.toNat c,true):=by
 rw[iRun_val hs n ho,if_pos ⟨(gM hs).2 h,hn⟩]
theorem crewOf_val {rooms:List Int}{codes:List (List gQuad)}(hr:rooms.length≤1000)(hc:nI codes)(h1:vA rooms=true)(h2:CrewOk (crew0 rooms codes)){n:Int}(hn:0≤n∧n≤100000):gG rooms codes n=some (crewN n.toNat (crew0 rooms codes)):=by
 have h0:=small0 hr hc
 have hB:=(gM h0).2 h2
 unfold gG
 rw[iNew_val hr hc,bS',if_pos ⟨h1,hB⟩,iRun_ok h2 h0 (by simp[crew0]) hn,bS',if_neg (by simp[bnot]),bS',if_neg (by simp[bnot])]
theorem fnCrewRest_true (l m:List Int)(hb:Bytes l)(hl:l.length≤maxLen):sI l m=some true:=by
 unfold sI
 refine headC hb hl fun r z1 z2 z3 hC h0 hm=>?_
 rw[crewOf_val (by omega) z2 z3 hC (n:=150) (by decide),bS']
 have hx:=hC.steps 150
 have hrx:=Rests.steps hC (fun j hj=>by exfalso;simp only[crew0] at hj;omega) 150
 have hcodes:(crewN 150 (crew0 r.1 r.2)).Codes=r.2:=crewN_codes 150
 have hout:(crewN 150 (crew0 r.1 r.2)).Out.length≤150:=by have:=crewN_out hC 150;simpa [crew0] using this
 rw[show(150:Int).toNat=150 from rfl]
 generalize crewN 150 (crew0 r.1 r.2)=x at*
 have hs:=hx.small (by omega)
 have hlen:ilen x.Threads=(x.Codes.length:Int):=by rw[zC,hx.same]
 rw[hlen]
 by_cases hi:x.Idle<x.Codes.length
 ·rw[if_pos (by rw[zD];exact hi),hcodes]
  simp[ieq,ilen]
 rw[if_neg (by rw[zD];exact hi)]
 have hmany:=hx.many
 rw[yD (step:=jE) (s0:=((0:Int),x)) x.Codes.length (fun k=>((k:Int),x)) (.inl x) rfl (fun k hk=>?_) ?_,bS']
 ·dsimp only
  rw[yV,zC] at hm
  have e1:remx (ilen m) 1000=some ((m.length:Int) % 1000):=by rw[zC,fI _ _ (by omega) (by omega)]
  rw[e1,bS',zT _ _ (by omega),iRun_ok hx hs (by omega) (by omega),bS',if_pos rfl,crewN_rest hi,hY x hs]
  rfl
 ·unfold jE
  dsimp only
  rw[if_neg (by rw[zD,hlen];omega)]
 ·unfold jE
  dsimp only
  have hk2:k<x.Threads.length:=by have:=hx.same;omega
  have a1:=List.getElem?_eq_getElem hk
  have a2:=List.getElem?_eq_getElem hk2
  obtain⟨c1,c2,c3⟩:=hx.thr k _ _ a1 a2
  have hp:x.Threads[k].Pc.toNat<x.Codes[k].length:=by obtain⟨_,_,p1,p2⟩:=c2;omega
  have a3:=List.getElem?_eq_getElem hp
  have hCan:Can x.Codes[k] x.Threads[k] x.Boxes _:=⟨c1,c2,hx.box,a3,fun hq=>c3 _ (List.getElem_mem hp) hq⟩
  have hkind:=hrx.all hx hi a1 a2 a3
  rw[if_pos (by rw[zD,hlen];omega),zW a1,bS',zW a2,bS',iStep_val hCan,bS',yZ,bS',iadd1 (by omega),if_neg]
  rw[Bool.and_eq_true,wK,wK]
  omega
end Go.Abs
