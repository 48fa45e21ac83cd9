/- laws.FnThreadJump's mirror: true for each code. -/
import Derived.Test.YtdnkfkfjaaedpaaGreatNThH
import Derived.Test.YtdnkfkfjaaedpaaGreatNUNThreadJump
set_option linter.unusedSimpArgs false
set_option linter.unusedVariables false
set_option maxHeartbeats 8000000
namespace Go.Abs
open Go

theorem fnThreadJump_true (l:List Int) (hb:Bytes l) (hl:l.length≤maxLen):l_FnThreadJump l=some true:=by
 unfold l_FnThreadJump
 refine headT hb hl (fun r hs=>rfl) fun r q hs h=>?_
 rw[h.idx,bS',bS',if_and,bS',if_or,bS']
 by_cases h3:q.Op=4∨q.Op=5
 ·have hf:=h.fit
  have hp:=h.pc
  have hbx:=sameBoxes_refl r.2.2 (by have:=hs.2.2.1;omega) (fun b hb=>by have:=hs.2.2.2 b hb;omega)
  have hrg:=sameInts_refl r.2.1.Regs (by have:=hf.1;omega)
  rcases h.eqs with⟨k1,k2,k3,e⟩|⟨k1,k2,k3,e⟩|⟨k1,k2,k3,k4,k5,e⟩|⟨k1,k2,k3,e⟩|⟨k1,k2,k3,k4,e⟩|⟨k1,k2,k3,b,k4,k5,k6,e⟩|⟨k1,k2,k3,b,k4,k5,k6,e⟩|⟨k1,k2,k3,w,y,s,k4,k5,e⟩|⟨k1,k2,k3,w,k4,k5,e⟩|⟨k1,e⟩|⟨k1,k2,e⟩|⟨k1,e⟩<;>first|(exfalso;omega)|skip
  ·rw[e,hp]
   simp only[hbx,hrg]
   simp[ieq,ine,k1]
  ·rw[e,hp,(rgv_at hf k2).2.2]
   simp only[hbx,hrg]
   by_cases hz:rgv r.2.1 q.A=0
   ·simp[ieq,ine,k1,hz]
   ·simp[ieq,ine,k1,hz,bnot]
 ·have:(ieq (thrP q r.2.1 r.2.2).2.2.2 0||(ine q.Op 4&&ine q.Op 5))=true:=by rw[Bool.or_eq_true,Bool.and_eq_true,ine_iff,ine_iff];omega
  rw[this,if_pos rfl]
end Go.Abs
