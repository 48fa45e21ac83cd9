/- laws.FnThreadEnd's mirror: true for each code. -/
import Derived.Test.YtdnkfkfjaaedpaaGreatNThH
import Derived.Test.YtdnkfkfjaaedpaaGreatNUNThreadEnd
set_option linter.unusedSimpArgs false
set_option linter.unusedVariables false
set_option maxHeartbeats 8000000
namespace Go.Abs
open Go

theorem fnThreadEnd_true (l:List Int) (hb:Bytes l) (hl:l.length≤maxLen):l_FnThreadEnd l=some true:=by
 unfold l_FnThreadEnd
 refine headT hb hl (fun r hs=>rfl) fun r q hs h=>?_
 rw[h.idx]
 rcases h.eqs with⟨k1,k2,k3,e⟩|⟨k1,k2,k3,e⟩|⟨k1,k2,k3,k4,k5,e⟩|⟨k1,k2,k3,e⟩|⟨k1,k2,k3,k4,e⟩|⟨k1,k2,k3,b,k4,k5,k6,e⟩|⟨k1,k2,k3,b,k4,k5,k6,e⟩|⟨k1,k2,k3,r,x,s,k4,k5,e⟩|⟨k1,k2,k3,r,k4,k5,e⟩|⟨k1,e⟩|⟨k1,k2,e⟩|⟨k1,e⟩<;>rw[e]<;>simp[k1,ieq,igt,ilen,beqb]
end Go.Abs
