/- laws.FnCrewRunOne's mirror: true for each code. -/
import Derived.Test.YtolmjhgondilhaaGreatNLCrD
import Derived.Test.YtolmjhgondilhaaGreatNCNCrewRunOne
set_option linter.unusedSimpArgs false
set_option linter.unusedVariables false
set_option maxHeartbeats 8000000
namespace Go.Abs
open Go

theorem fnCrewRunOne_true (l:List Int)(hb:Bytes l)(hl:l.length<=maxLen):tJ l=some true:=by
 unfold tJ
 by_cases hg:igt (ilen l) 1048576=true
 .rw[if_pos hg]
 rw[if_neg hg]
 rw[yK,zC] at hg
 obtain⟨r,e,z1,z2,z3⟩:=Ok.drawCR hb (by omega)
 rw[e,bS']
 refine headR z1 z2 (by omega) fun hc hn hx=>?_
 unfold jX
 rw[zV _ _ (by omega),iRun_ok (hc.steps _) hx (by have:=uR hc r.2.toNat;omega) (by omega),bS',bS',iRun_ok hc z1 (by omega) (by omega),bS',if_pos rfl,bS',if_pos rfl]
 dsimp only
 rw[<- crewN_add,show r.2.toNat+(1:Int).toNat=(r.2+1).toNat by omega,xS _ ((hc.steps _).small (by have:=uR hc (r.2+1).toNat;omega))]
 rfl
end Go.Abs
