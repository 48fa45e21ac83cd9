/- The common head of the laws on a new crew. -/
import Derived.Test.YtolmjhgondilhaaGreatNCrM
set_option linter.unusedSimpArgs false
set_option linter.unusedVariables false
set_option maxHeartbeats 8000000
namespace Go.Abs
open Go

theorem uR {c:gCrew}(h:CrewOk c)(n:Nat):(crewN n c).Out.length<=c.Out.length+n:=by
 induction n generalizing c with
 |zero=>exact Nat.le_refl _
 |succ n ih=>
  have h1:=ih h.step
  have h2:=crewS_out h
  show(crewN n (crewS c)).Out.length<=_
  omega
theorem CrewOk.small {c:gCrew}(h:CrewOk c)(ho:c.Out.length<=1000000):SmallCr c:=by
 refine⟨⟨by have:=h.many;omega,fun x hx=>?_⟩,by have:=h.many;have:=h.same;omega,fun t ht=>?_,by have:=box_len h.box;omega,fun b hb=>by have:=box_items h.box b hb;omega,ho⟩
 .obtain⟨k,hk,rfl⟩:=List.getElem_of_mem hx
  have hk2:k<c.Threads.length:=by have:=h.same;omega
  have:=(h.thr k _ _ (List.getElem?_eq_getElem hk) (List.getElem?_eq_getElem hk2)).1
  exact nN this
 .obtain⟨k,hk,rfl⟩:=List.getElem_of_mem ht
  have hk2:k<c.Codes.length:=by have:=h.same;omega
  have:=(h.thr k _ _ (List.getElem?_eq_getElem hk2) (List.getElem?_eq_getElem hk)).2.1.1
  omega
noncomputable def newC (rooms:List Int)(codes:List (List gQuad)):gCrew×Bool:=if yZ rooms=true/\crewB (crew0 rooms codes)=true then(crew0 rooms codes,true) else(zeroC,false)
theorem small_zero:SmallCr zeroC:=⟨⟨by simp[zeroC],by simp[zeroC]⟩,by simp[zeroC],by simp[zeroC],by simp[zeroC],by simp[zeroC],by simp[zeroC]⟩
theorem newC_small {rooms:List Int}{codes:List (List gQuad)}(hr:rooms.length<=1000)(hc:nE codes):SmallCr (newC rooms codes).1:=by
 unfold newC
 split
 .exact small0 hr hc
 .exact small_zero
theorem headC {rest:List Int×List (List gQuad)->Option Bool}{l m:List Int}(hb:Bytes l)(hl:l.length<=maxLen)
  (h1:∀r,r.1.length<=2->nE r.2->yZ r.1=true->CrewOk (crew0 r.1 r.2)->SmallCr (crew0 r.1 r.2)->¬igt (ilen m) 1048576=true->rest r=some true):
  ((if igt (ilen l) 1048576=true then some true else some (igt (ilen m) 1048576)).bind fun g1=>
  if g1=true then some true else
   (yE l).bind fun r2=>(xO r2.1 r2.2).bind fun r3=>(uB r2.1 r2.2).bind fun r4=>
   (if bneb r3.2 r4.2=true then some true else(kJ r3.1 r4.1).bind fun r5=>some (bnot r5)).bind fun g6=>
   (if g6=true then some true else some (bnot r3.2)).bind fun g7=>
   if g7=true then
    (if beqb r3.2 r4.2=true then(kJ r3.1 r4.1).bind fun r8=>some r8 else some false).bind fun g9=>some g9
   else rest r2)=some true:=by
 by_cases hg:igt (ilen l) 1048576=true
 .rw[if_pos hg];rfl
 rw[if_neg hg,bS']
 by_cases hm:igt (ilen m) 1048576=true
 .rw[if_pos hm]
 rw[if_neg hm]
 rw[yK,zC] at hg
 obtain⟨r,e,z1,z2⟩:=Ok.drawCN hb (by omega)
 rw[e,bS',iNew_val (by omega) z2,bS',sNew_val (by omega) z2,bS']
 have hs:=newC_small (rooms:=r.1) (codes:=r.2) (by omega) z2
 have hx:(if yZ r.1=true/\crewB (crew0 r.1 r.2)=true then(crew0 r.1 r.2,true) else(zeroC,false))=newC r.1 r.2:=rfl
 rw[hx,if_neg (by simp[bneb]),xS _ hs,bS',bS',if_neg (by simp[bnot]),bS']
 by_cases hv:yZ r.1=true/\crewB (crew0 r.1 r.2)=true
 .have e2:(newC r.1 r.2).2=true:=by unfold newC;rw[if_pos hv]
  rw[e2,if_neg (by simp[bnot])]
  have h0:=small0 (rooms:=r.1) (codes:=r.2) (by omega) z2
  exact h1 r z1 z2 hv.1 ((xP h0).1 hv.2) h0 hm
 .have e2:(newC r.1 r.2).2=false:=by unfold newC;rw[if_neg hv]
  rw[e2,if_pos (by rfl)]
  rfl
theorem headC1 {rest:List Int×List (List gQuad)->Option Bool}{l:List Int}(hb:Bytes l)(hl:l.length<=maxLen)
  (h1:∀r,r.1.length<=2->nE r.2->yZ r.1=true->CrewOk (crew0 r.1 r.2)->SmallCr (crew0 r.1 r.2)->rest r=some true):
  (if igt (ilen l) 1048576=true then some true else
   (yE l).bind fun r2=>(xO r2.1 r2.2).bind fun r3=>(uB r2.1 r2.2).bind fun r4=>
   (if bneb r3.2 r4.2=true then some true else(kJ r3.1 r4.1).bind fun r5=>some (bnot r5)).bind fun g6=>
   (if g6=true then some true else some (bnot r3.2)).bind fun g7=>
   if g7=true then
    (if beqb r3.2 r4.2=true then(kJ r3.1 r4.1).bind fun r8=>some r8 else some false).bind fun g9=>some g9
   else rest r2)=some true:=by
 by_cases hg:igt (ilen l) 1048576=true
 .rw[if_pos hg]
 rw[if_neg hg]
 rw[yK,zC] at hg
 obtain⟨r,e,z1,z2⟩:=Ok.drawCN hb (by omega)
 rw[e,bS',iNew_val (by omega) z2,bS',sNew_val (by omega) z2,bS']
 have hs:=newC_small (rooms:=r.1) (codes:=r.2) (by omega) z2
 have hx:(if yZ r.1=true/\crewB (crew0 r.1 r.2)=true then(crew0 r.1 r.2,true) else(zeroC,false))=newC r.1 r.2:=rfl
 rw[hx,if_neg (by simp[bneb]),xS _ hs,bS',bS',if_neg (by simp[bnot]),bS']
 by_cases hv:yZ r.1=true/\crewB (crew0 r.1 r.2)=true
 .have e2:(newC r.1 r.2).2=true:=by unfold newC;rw[if_pos hv]
  rw[e2,if_neg (by simp[bnot])]
  have h0:=small0 (rooms:=r.1) (codes:=r.2) (by omega) z2
  exact h1 r z1 z2 hv.1 ((xP h0).1 hv.2) h0
 .have e2:(newC r.1 r.2).2=false:=by unfold newC;rw[if_neg hv]
  rw[e2,if_pos (by rfl)]
  rfl
theorem iRun_ok {c:gCrew}(h:CrewOk c)(hs:SmallCr c)(ho:c.Out.length<=800000){n:Int}(hn:0<=n/\n<=100000):yQ c n=some (crewN n.toNat c,true):=by
 rw[iRun_val hs n ho,if_pos ⟨(xP hs).2 h,hn⟩]
theorem crewOf_val {rooms:List Int}{codes:List (List gQuad)}(hr:rooms.length<=1000)(hc:nE codes)(h1:yZ rooms=true)(h2:CrewOk (crew0 rooms codes)){n:Int}(hn:0<=n/\n<=100000):uJ rooms codes n=some (crewN n.toNat (crew0 rooms codes)):=by
 have h0:=small0 hr hc
 have hB:=(xP h0).2 h2
 unfold uJ
 rw[iNew_val hr hc,bS',if_pos ⟨h1,hB⟩,iRun_ok h2 h0 (by simp[crew0]) hn,bS',if_neg (by simp[bnot]),bS',if_neg (by simp[bnot])]
end Go.Abs
