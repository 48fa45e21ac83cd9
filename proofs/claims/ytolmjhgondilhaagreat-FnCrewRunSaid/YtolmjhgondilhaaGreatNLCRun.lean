/- laws.FnCrewRun's mirror: true for each code. -/
import Derived.Test.YtolmjhgondilhaaGreatNLCrD
import Derived.Test.YtolmjhgondilhaaGreatNCNCrewRun
set_option linter.unusedSimpArgs false
set_option linter.unusedVariables false
set_option maxHeartbeats 8000000
namespace Go.Abs
open Go

theorem fnCrewRun_true (l m:List Int)(hb:Bytes l)(hl:l.length<=maxLen):hY l m=some true:=by
 unfold hY
 by_cases hg:igt (ilen l) 1048576=true
 .rw[if_pos hg];rfl
 rw[if_neg hg,bS']
 by_cases hm:igt (ilen m) 1048576=true
 .rw[if_pos hm]
 rw[if_neg hm]
 rw[yK,zC] at hg hm
 obtain⟨r,e,z1,z2,z3⟩:=Ok.drawCR hb (by omega)
 rw[e,bS']
 refine headR z1 z2 (by omega) fun hc hn hx=>?_
 have hB:=(xP z1).2 hc
 rw[zV _ _ (by omega),zC,remx_eq _ _ (by omega) (by omega),bS']
 have k0:=Int.emod_nonneg (m.length:Int) (show r.2+1≠0 by omega)
 have k1:=Int.emod_lt_of_pos (m.length:Int) (show 0<r.2+1 by omega)
 generalize (m.length:Int) % (r.2+1)=k at k0 k1
 rw[yJ _ _ (by omega),iRun_ok hc z1 (by omega) (by omega),bS']
 have hk:=(hc.steps k.toNat).small (by have:=uR hc k.toNat;omega)
 rw[iRun_ok (hc.steps k.toNat) hk (by have:=uR hc k.toNat;omega) (by omega),bS',if_pos rfl,bS',if_pos rfl]
 dsimp only
 rw[<- crewN_add,show k.toNat+(r.2-k).toNat=r.2.toNat by omega,xS _ hx]
 rfl
end Go.Abs
