/- laws.FnCrewStep's mirror: true for each code. -/
import Derived.Test.YtolmjhgondilhaaGreatNLCrD
import Derived.Test.YtolmjhgondilhaaGreatNCNCrewStep
set_option linter.unusedSimpArgs false
set_option linter.unusedVariables false
set_option maxHeartbeats 8000000
namespace Go.Abs
open Go

theorem firstInts_val {a b:List Int}(ha:(a++b).length<=1000000):pS (a++b) a=some true:=by
 unfold pS
 rw[List.length_append] at ha
 have:cutx (a++b) 0 (ilen a)=some a:=by
  rw[cutx_iff,zC]
  exact⟨⟨by omega,by omega,by simp;omega⟩,by simp⟩
 rw[if_pos (by rw[hZ,zC,zC,List.length_append];omega),this,bS',jI _ (by omega)]
 rfl
theorem crewS_outs {c:gCrew}(h:CrewOk c):∃o,(crewS c).Out=c.Out++o/\o.length<=1:=by
 by_cases hi:c.Idle<c.Codes.length
 .obtain⟨l,t,q,h1,h2,h3,h4,h5⟩:=h.now
  have:=crewS_out h
  rw[wQ hi h1 h2 h3] at this ⊢
  refine⟨_,rfl,?_⟩
  simp only[crewG,List.length_append] at this
  omega
 .rw[vH hi];exact⟨[],by simp,by simp⟩
theorem fnCrewStep_true (l:List Int)(hb:Bytes l)(hl:l.length<=maxLen):nL l=some true:=by
 unfold nL
 by_cases hg:igt (ilen l) 1048576=true
 .rw[if_pos hg]
 rw[if_neg hg]
 rw[yK,zC] at hg
 obtain⟨c,e,z1,z2⟩:=Ok.drawCSt hb (by omega)
 have e1:jX c=yQ c 1:=by unfold jX;rw[iRun_val z1 1 (by omega)];rfl
 have e2:oW c=jA c 1:=by unfold oW;rw[sRun_val z1 1 (by omega)];rfl
 rw[e,bS',e1,e2]
 refine headR z1 z2 (by omega) fun hc hn hx=>?_
 dsimp only
 rw[dU hx,(xP hx).2 (hc.steps _),bS',if_pos rfl,gF,dY _ z1.codes,bS',bS',if_pos rfl]
 obtain⟨o,ho,hol⟩:=crewS_outs hc
 have:(crewN (1:Int).toNat c).Out=c.Out++o:=ho
 rw[this,firstInts_val (by rw[List.length_append];omega),bS',bS',if_pos rfl,bS']
 refine congrArg some ?_
 rw[hZ,zC,zC,zV _ _ (by omega),List.length_append]
 omega
end Go.Abs
