/- laws.FnThreadStill's mirror: true for each code. -/
import Derived.Test.YtdnkfkfjaaedpaaGreatNThH
import Derived.Test.YtdnkfkfjaaedpaaGreatNUNThreadStill
set_option linter.unusedSimpArgs false
set_option linter.unusedVariables false
set_option maxHeartbeats 8000000
namespace Go.Abs
open Go

theorem thrP_still {l:List gQuad} {t:gThread} {bx:List gBox} {q:gQuad} (h:Can l t bx q) (hk:(thrP q t bx).2.2.2=3∨(thrP q t bx).2.2.2=4):(thrP q t bx).1=t∧(thrP q t bx).2.1=bx∧(thrP q t bx).2.2.1=[]:=by
 rcases h.eqs with⟨k1,k2,k3,e⟩|⟨k1,k2,k3,e⟩|⟨k1,k2,k3,k4,k5,e⟩|⟨k1,k2,k3,e⟩|⟨k1,k2,k3,k4,e⟩|⟨k1,k2,k3,b,k4,k5,k6,e⟩|⟨k1,k2,k3,b,k4,k5,k6,e⟩|⟨k1,k2,k3,r,x,s,k4,k5,e⟩|⟨k1,k2,k3,r,k4,k5,e⟩|⟨k1,e⟩|⟨k1,k2,e⟩|⟨k1,e⟩<;>rw[e] at hk ⊢<;>first|exact⟨rfl,rfl,rfl⟩|(exfalso;simp at hk)
theorem fnThreadStill_true (l:List Int) (hb:Bytes l) (hl:l.length≤maxLen):l_FnThreadStill l=some true:=by
 unfold l_FnThreadStill
 refine headT hb hl (fun r hs=>rfl) fun r q hs h=>?_
 simp only[if_and,bS']
 by_cases hk:(thrP q r.2.1 r.2.2).2.2.2=3∨(thrP q r.2.1 r.2.2).2.2.2=4
 ·obtain⟨e1,e2,e3⟩:=thrP_still h hk
  have hf:=h.fit.1
  rw[e1,e2,e3,sameThread_refl _ (by omega),sameBoxes_refl _ (by have:=hs.2.2.1;omega) (fun b hb=>by have:=hs.2.2.2 b hb;omega)]
  simp[ieq,ilen]
 ·have:(ine (thrP q r.2.1 r.2.2).2.2.2 3&&ine (thrP q r.2.1 r.2.2).2.2.2 4)=true:=by
   rw[Bool.and_eq_true,ine_iff,ine_iff];omega
  rw[this,if_pos rfl]
end Go.Abs
