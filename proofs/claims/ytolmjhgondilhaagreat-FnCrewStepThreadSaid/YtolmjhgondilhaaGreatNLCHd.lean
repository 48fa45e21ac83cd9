/- The common head of the laws on a new crew. -/
import Derived.Test.YtolmjhgondilhaaGreatNCrM
set_option linter.unusedSimpArgs false
set_option linter.unusedVariables false
set_option maxHeartbeats 8000000
namespace Go.Abs
open Go

theorem crewN_out {c:gCrew}(h:CrewOk c)(n:Nat):(crewN n c).Out.length<=c.Out.length+n:=by
 induction n generalizing c with
 |zero=>exact Nat.le_refl _
 |succ n ih=>
  have h1:=ih h.step
  have h2:=crewS_out h
  show(crewN n (crewS c)).Out.length<=_
  omega
theorem CrewOk.small {c:gCrew}(h:CrewOk c)(ho:c.Out.length<=1000000):SmallCr c:=by
 refine⟨⟨by have:=h.many;omega,fun x hx=>?_⟩,by have:=h.many;have:=h.same;omega,fun t ht=>?_,by have:=box_len h.box;omega,fun b hb=>by have:=dC h.box b hb;omega,ho⟩
 .obtain⟨k,hk,rfl⟩:=List.getElem_of_mem hx
  have hk2:k<c.Threads.length:=by have:=h.same;omega
  have:=(h.thr k _ _ (List.getElem?_eq_getElem hk) (List.getElem?_eq_getElem hk2)).1
  exact cJ this
 .obtain⟨k,hk,rfl⟩:=List.getElem_of_mem ht
  have hk2:k<c.Codes.length:=by have:=h.same;omega
  have:=(h.thr k _ _ (List.getElem?_eq_getElem hk2) (List.getElem?_eq_getElem hk)).2.1.1
  omega
theorem small_zero:SmallCr zeroC:=⟨⟨by simp[zeroC],by simp[zeroC]⟩,by simp[zeroC],by simp[zeroC],by simp[zeroC],by simp[zeroC],by simp[zeroC]⟩
end Go.Abs
