/- laws.FnThreadBin's mirror: true for each code. -/
import Derived.Test.YtdnkfkfjaaedpaaGreatNThH
import Derived.Test.YtdnkfkfjaaedpaaGreatNUNThreadBin
set_option linter.unusedSimpArgs false
set_option linter.unusedVariables false
set_option maxHeartbeats 8000000
namespace Go.Abs
open Go

theorem set_idx {l:List Int} {r x:Int} (h:0≤r∧r<l.length):idx (l.set r.toNat x) r=some x:=by
 have:(l.set r.toNat x)[r.toNat]? =some x:=List.getElem?_set_self (by omega)
 have:=idx_at this
 rwa [Int.toNat_of_nonneg h.1] at this
theorem iApply {n a b:Int} (h:1≤n∧n≤12) (ha:Wd a) (hb:Wd b):i_Apply n a b=some (apv n a b,true):=by
 unfold i_Apply i_OpValid
 rw[i_WordValid_val,i_WordValid_val,(isW_iff _).2 ha,(isW_iff _).2 hb,(apv_at h ha hb).1]
 have:(ige n 1&&ile n 12)=true:=by rw[Bool.and_eq_true,ige_iff,ile_iff];omega
 simp only[if_and,if_or,bS',this,bnot,Bool.not_true,Bool.or_false,Bool.false_eq_true,if_false]
 rfl
theorem fnThreadBin_true (l:List Int) (hb:Bytes l) (hl:l.length≤maxLen):l_FnThreadBin l=some true:=by
 unfold l_FnThreadBin
 refine headT hb hl (fun r hs=>rfl) fun r q hs h=>?_
 rw[h.idx,bS',bS',if_or,bS']
 by_cases h3:q.Op=3
 ·have hf:=h.fit
  have hp:=h.pc
  rcases h.eqs with⟨k1,k2,k3,e⟩|⟨k1,k2,k3,e⟩|⟨k1,k2,k3,k4,k5,e⟩|⟨k1,k2,k3,e⟩|⟨k1,k2,k3,k4,e⟩|⟨k1,k2,k3,b,k4,k5,k6,e⟩|⟨k1,k2,k3,b,k4,k5,k6,e⟩|⟨k1,k2,k3,w,y,s,k4,k5,e⟩|⟨k1,k2,k3,w,k4,k5,e⟩|⟨k1,e⟩|⟨k1,k2,e⟩|⟨k1,e⟩<;>first|(exfalso;omega)|skip
  rw[e,(rgv_at hf k3).2.2,(rgv_at hf k4).2.2,bS',bS',iApply k5 (rgv_at hf k3).2.1 (rgv_at hf k4).2.1,bS',set_idx (by have:=hf.1;unfold Rg at k2;omega),hp]
  simp[ieq,ine,h3]
 ·have:(ieq (thrP q r.2.1 r.2.2).2.2.2 0||ine q.Op 3)=true:=by rw[Bool.or_eq_true,ine_iff];exact .inr h3
  rw[this,if_pos rfl]
end Go.Abs
