/- laws.FnThreadMove's mirror: true for each code. -/
import Derived.Test.YtdnkfkfjaaedpaaGreatNThH
import Derived.Test.YtdnkfkfjaaedpaaGreatNUNThreadMove
set_option linter.unusedSimpArgs false
set_option linter.unusedVariables false
set_option maxHeartbeats 8000000
namespace Go.Abs
open Go

theorem set_idx {l:List Int} {r x:Int} (h:0≤r∧r<l.length):idx (l.set r.toNat x) r=some x:=by
 have:(l.set r.toNat x)[r.toNat]? =some x:=List.getElem?_set_self (by omega)
 have:=idx_at this
 rwa [Int.toNat_of_nonneg h.1] at this
theorem fnThreadMove_true (l:List Int) (hb:Bytes l) (hl:l.length≤maxLen):l_FnThreadMove l=some true:=by
 unfold l_FnThreadMove
 refine headT hb hl (fun r hs=>rfl) fun r q hs h=>?_
 rw[h.idx,bS',bS',if_or,bS']
 by_cases h3:2<q.Op
 ·have:(ieq (thrP q r.2.1 r.2.2).2.2.2 0||igt q.Op 2)=true:=by rw[Bool.or_eq_true,igt_iff];exact .inr h3
  rw[this,if_pos rfl]
 ·have hf:=h.fit
  have hp:=h.pc
  have hbx:=sameBoxes_refl r.2.2 (by have:=hs.2.2.1;omega) (fun b hb=>by have:=hs.2.2.2 b hb;omega)
  rcases h.eqs with⟨k1,k2,k3,e⟩|⟨k1,k2,k3,e⟩|⟨k1,k2,k3,k4,k5,e⟩|⟨k1,k2,k3,e⟩|⟨k1,k2,k3,k4,e⟩|⟨k1,k2,k3,b,k4,k5,k6,e⟩|⟨k1,k2,k3,b,k4,k5,k6,e⟩|⟨k1,k2,k3,w,y,s,k4,k5,e⟩|⟨k1,k2,k3,w,k4,k5,e⟩|⟨k1,e⟩|⟨k1,k2,e⟩|⟨k1,e⟩<;>first|(exfalso;omega)|skip
  ·rw[e,hp]
   simp only[set_idx (show 0≤q.Dst∧q.Dst<r.2.1.Regs.length by have:=hf.1;unfold Rg at k2;omega),hbx]
   simp[ieq,igt,k1]
  ·rw[e,hp,(rgv_at hf k3).2.2]
   simp only[set_idx (show 0≤q.Dst∧q.Dst<r.2.1.Regs.length by have:=hf.1;unfold Rg at k2;omega),hbx]
   simp[ieq,igt,k1]
end Go.Abs
