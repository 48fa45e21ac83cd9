/- What is printed only grows. -/
import Derived.Test.YtnaikeccpnadgaaGreatNLCHd
import Derived.Test.YtnaikeccpnadgaaGreatNBNSqueezeAhead
set_option linter.unusedSimpArgs false
set_option linter.unusedVariables false
set_option maxHeartbeats 8000000
namespace Go.Abs
open Go

theorem firstInts_val {a b:List Int}(ha:(a++b).length<=1000000):qU (a++b) a=some true:=by
 unfold qU
 rw[List.length_append] at ha
 have:cutx (a++b) 0 (ilen a)=some a:=by
  rw[cutx_iff,zB]
  exact⟨⟨by omega,by omega,by simp;omega⟩,by simp⟩
 rw[if_pos (by rw[gY,zB,zB,List.length_append];omega),this,bS',yW _ (by omega)]
 rfl
theorem crewS_outs {c:gCrew}(h:CrewOk c):∃o,(crewS c).Out=c.Out++o/\o.length<=1:=by
 by_cases hi:c.Idle<c.Codes.length
 .obtain⟨l,t,q,h1,h2,h3,h4,h5⟩:=h.now
  have:=crewS_out h
  rw[vZ hi h1 h2 h3] at this ⊢
  refine⟨_,rfl,?_⟩
  simp only[crewG,List.length_append] at this
  omega
 .rw[wO hi];exact⟨[],by simp,by simp⟩
theorem outs_grow {c:gCrew}(h:CrewOk c)(n:Nat):∃o,(crewN n c).Out=c.Out++o:=by
 induction n generalizing c with
 |zero=>exact⟨[],by simp[crewN]⟩
 |succ n ih=>
  obtain⟨o1,h1,_⟩:=crewS_outs h
  obtain⟨o2,h2⟩:=ih h.step
  exact⟨o1++o2,by show(crewN n (crewS c)).Out=_;rw[h2,h1,List.append_assoc]⟩
end Go.Abs
