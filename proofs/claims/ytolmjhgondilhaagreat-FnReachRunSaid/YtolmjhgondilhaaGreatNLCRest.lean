/- laws.FnCrewRest's mirror: true for each code. -/
import Derived.Test.YtolmjhgondilhaaGreatNCrM
set_option linter.unusedSimpArgs false
set_option linter.unusedVariables false
set_option maxHeartbeats 8000000
namespace Go.Abs
open Go

theorem still_of {l:List gQuad}{t:gThread}{bx:List gBox}{q:gQuad}(h:Can l t bx q):(thrP q t bx).2.2.2=3∨(thrP q t bx).2.2.2=4→(thrP q t bx).1=t∧(thrP q t bx).2.1=bx∧(thrP q t bx).2.2.1=[]:=by
 refine h.cases (P:=fun r=>r.2.2.2=3∨r.2.2.2=4→r.1=t∧r.2.1=bx∧r.2.2.1=[]) ?_ ?_ ?_ ?_ ?_ ?_ ?_ ?_ ?_ ?_ ?_<;>intros<;>first|exact⟨rfl,rfl,rfl⟩|(exfalso;simp at*;done)|skip
 rename_i hk
 split at hk
 ·exfalso;simp at hk
 ·rename_i hb;rw[if_neg hb];exact⟨rfl,rfl,rfl⟩
def Rests (c:gCrew):Prop:=∀j:Nat,(j:Int)<c.Idle→∀l t q,c.Codes[((c.Turn-1-j) % c.Codes.length).toNat]? =some l→c.Threads[((c.Turn-1-j) % c.Codes.length).toNat]? =some t→l[t.Pc.toNat]? =some q→(thrP q t c.Boxes).2.2.2=3∨(thrP q t c.Boxes).2.2.2=4
theorem Rests.step {c:gCrew}(h:CrewOk c)(hr:Rests c):Rests (crewS c):=by
 by_cases hi:c.Idle<c.Codes.length
 ·obtain⟨l,t,q,h1,h2,h3,h4,h5⟩:=h.now
  rw[sA hi h1 h2 h3]
  have hm:=h.many
  have ht:=h.turn
  have hd:=h.idle
  by_cases hk:(thrP q t c.Boxes).2.2.2=3∨(thrP q t c.Boxes).2.2.2=4
  ·obtain⟨s1,s2,s3⟩:=still_of h4 hk
   have hn:nextT c.Codes.length c.Turn c.Idle (thrP q t c.Boxes).2.2.2=((c.Turn+1) % c.Codes.length,c.Idle+1):=by
    unfold nextT
    rw[if_neg (by omega),if_neg (by omega)]
   have e:crewG c (thrP q t c.Boxes)=⟨c.Codes,c.Threads,c.Boxes,(c.Turn+1) % c.Codes.length,c.Idle+1,c.Out⟩:=by
    unfold crewG
    rw[hn,s1,s2,s3,setSelf h2,List.append_nil]
   rw[e]
   intro j hj l' t' q' a1 a2 a3
   simp only at hj a1 a2 a3 ⊢
   by_cases h0:j=0
   ·subst h0
    have ei:(((c.Turn+1) % (c.Codes.length:Int)-1-((0:Nat):Int)) % (c.Codes.length:Int)).toNat=c.Turn.toNat:=by
     have:c.Codes.length=1∨c.Codes.length=2∨c.Codes.length=3:=by omega
     rcases this with hL|hL|hL<;>rw[hL] at ht ⊢<;>omega
    rw[ei] at a1 a2
    rw[h1] at a1
    rw[h2] at a2
    cases a1
    cases a2
    rw[h3] at a3
    cases a3
    exact hk
   ·have ei:(((c.Turn+1) % (c.Codes.length:Int)-1-(j:Int)) % (c.Codes.length:Int)).toNat=((c.Turn-1-((j-1:Nat):Int)) % (c.Codes.length:Int)).toNat:=by
     have:c.Codes.length=1∨c.Codes.length=2∨c.Codes.length=3:=by omega
     rcases this with hL|hL|hL<;>rw[hL] at ht ⊢<;>omega
    rw[ei] at a1 a2
    exact hr (j-1) (by omega) l' t' q' a1 a2 a3
  ·intro j hj
   exfalso
   have hn:(nextT c.Codes.length c.Turn c.Idle (thrP q t c.Boxes).2.2.2).2=0:=by
    rcases kind_in h4 with k|k|k|k
    ·rw[k];rfl
    ·rw[k];rfl
    ·exact absurd (.inl k) hk
    ·exact absurd (.inr k) hk
   simp only[crewG,hn] at hj
   omega
 ·rw[vE hi];exact hr
theorem Rests.steps {c:gCrew}(h:CrewOk c)(hr:Rests c)(n:Nat):Rests (crewN n c):=by
 induction n generalizing c with
 |zero=>exact hr
 |succ n ih=>exact ih h.step (hr.step h)
theorem Rests.all {c:gCrew}(h:CrewOk c)(hr:Rests c)(hi:¬c.Idle<c.Codes.length){k:Nat}{l:List gQuad}{t:gThread}{q:gQuad}(e1:c.Codes[k]? =some l)(e2:c.Threads[k]? =some t)(e3:l[t.Pc.toNat]? =some q):(thrP q t c.Boxes).2.2.2=3∨(thrP q t c.Boxes).2.2.2=4:=by
 have hm:=h.many
 have ht:=h.turn
 have hk:=(List.getElem?_eq_some_iff.1 e1).1
 have:∃j:Nat,(j:Int)<c.Idle∧((c.Turn-1-(j:Int)) % (c.Codes.length:Int)).toNat=k:=by
  refine⟨((c.Turn-1-(k:Int)) % (c.Codes.length:Int)).toNat,?_,?_⟩
  ·have:c.Codes.length=1∨c.Codes.length=2∨c.Codes.length=3:=by omega
   rcases this with hL|hL|hL<;>rw[hL] at ht hi hk ⊢<;>omega
  ·have:c.Codes.length=1∨c.Codes.length=2∨c.Codes.length=3:=by omega
   rcases this with hL|hL|hL<;>rw[hL] at ht hk ⊢<;>omega
 obtain⟨j,hj,ej⟩:=this
 exact hr j hj l t q (by rw[ej];exact e1) (by rw[ej];exact e2) e3
theorem CrewOk.small {c:gCrew}(h:CrewOk c)(ho:c.Out.length≤1000000):SmallCr c:=by
 refine⟨⟨by have:=h.many;omega,fun x hx=>?_⟩,by have:=h.many;have:=h.same;omega,fun t ht=>?_,by have:=box_len h.box;omega,fun b hb=>by have:=box_items h.box b hb;omega,ho⟩
 ·obtain⟨k,hk,rfl⟩:=List.getElem_of_mem hx
  have hk2:k<c.Threads.length:=by have:=h.same;omega
  have:=(h.thr k _ _ (List.getElem?_eq_getElem hk) (List.getElem?_eq_getElem hk2)).1
  exact dA this
 ·obtain⟨k,hk,rfl⟩:=List.getElem_of_mem ht
  have hk2:k<c.Codes.length:=by have:=h.same;omega
  have:=(h.thr k _ _ (List.getElem?_eq_getElem hk2) (List.getElem?_eq_getElem hk)).2.1.1
  omega
noncomputable def newC (rooms:List Int)(codes:List (List gQuad)):gCrew×Bool:=if wX rooms=true∧crewB (crew0 rooms codes)=true then(crew0 rooms codes,true) else(zeroC,false)
theorem small_zero:SmallCr zeroC:=⟨⟨by simp[zeroC],by simp[zeroC]⟩,by simp[zeroC],by simp[zeroC],by simp[zeroC],by simp[zeroC],by simp[zeroC]⟩
theorem newC_small {rooms:List Int}{codes:List (List gQuad)}(hr:rooms.length≤1000)(hc:nJ codes):SmallCr (newC rooms codes).1:=by
 unfold newC
 split
 ·exact small0 hr hc
 ·exact small_zero
theorem headC {rest:List Int×List (List gQuad)→Option Bool}{l m:List Int}(hb:Bytes l)(hl:l.length≤maxLen)
  (h1:∀r,r.1.length≤2→nJ r.2→wX r.1=true→CrewOk (crew0 r.1 r.2)→SmallCr (crew0 r.1 r.2)→¬igt (ilen m) 1048576=true→rest r=some true):
  ((if igt (ilen l) 1048576=true then some true else some (igt (ilen m) 1048576)).bind fun g1=>
  if g1=true then some true else
   (jJ l).bind fun r2=>(tY r2.1 r2.2).bind fun r3=>(qP r2.1 r2.2).bind fun r4=>
   (if bneb r3.2 r4.2=true then some true else(xE r3.1 r4.1).bind fun r5=>some (bnot r5)).bind fun g6=>
   (if g6=true then some true else some (bnot r3.2)).bind fun g7=>
   if g7=true then
    (if beqb r3.2 r4.2=true then(xE r3.1 r4.1).bind fun r8=>some r8 else some false).bind fun g9=>some g9
   else rest r2)=some true:=by
 by_cases hg:igt (ilen l) 1048576=true
 ·rw[if_pos hg];rfl
 rw[if_neg hg,bS']
 by_cases hm:igt (ilen m) 1048576=true
 ·rw[if_pos hm]
 rw[if_neg hm]
 rw[yI,zC] at hg
 obtain⟨r,e,z1,z2⟩:=Ok.drawCN hb (by omega)
 rw[e,bS',iNew_val (by omega) z2,bS',sNew_val (by omega) z2,bS']
 have hs:=newC_small (rooms:=r.1) (codes:=r.2) (by omega) z2
 have hx:(if wX r.1=true∧crewB (crew0 r.1 r.2)=true then(crew0 r.1 r.2,true) else(zeroC,false))=newC r.1 r.2:=rfl
 rw[hx,if_neg (by simp[bneb]),sameCrew_refl _ hs,bS',bS',if_neg (by simp[bnot]),bS']
 by_cases hv:wX r.1=true∧crewB (crew0 r.1 r.2)=true
 ·have e2:(newC r.1 r.2).2=true:=by unfold newC;rw[if_pos hv]
  rw[e2,if_neg (by simp[bnot])]
  have h0:=small0 (rooms:=r.1) (codes:=r.2) (by omega) z2
  exact h1 r z1 z2 hv.1 ((gL h0).1 hv.2) h0 hm
 ·have e2:(newC r.1 r.2).2=false:=by unfold newC;rw[if_neg hv]
  rw[e2,if_pos (by rfl)]
  rfl
theorem iRun_ok {c:gCrew}(h:CrewOk c)(hs:SmallCr c)(ho:c.Out.length≤800000){n:Int}(hn:0≤n∧n≤100000):pA c n=some (crewN n.toNat c,true):=by
 rw[iRun_val hs n ho,if_pos ⟨(gL hs).2 h,hn⟩]
theorem crewOf_val {rooms:List Int}{codes:List (List gQuad)}(hr:rooms.length≤1000)(hc:nJ codes)(h1:wX rooms=true)(h2:CrewOk (crew0 rooms codes)){n:Int}(hn:0≤n∧n≤100000):gF rooms codes n=some (crewN n.toNat (crew0 rooms codes)):=by
 have h0:=small0 hr hc
 have hB:=(gL h0).2 h2
 unfold gF
 rw[iNew_val hr hc,bS',if_pos ⟨h1,hB⟩,iRun_ok h2 h0 (by simp[crew0]) hn,bS',if_neg (by simp[bnot]),bS',if_neg (by simp[bnot])]
end Go.Abs
