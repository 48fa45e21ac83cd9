/- What ThreadStep computes, on both sides. -/
import Derived.Test.YtolmjhgondilhaaGreatNThM
set_option linter.unusedSimpArgs false
set_option linter.unusedVariables false
set_option maxHeartbeats 8000000
namespace Go.Abs
open Go

/-! what ThreadStep computes -/
def fitB (t:gThread)(n:Nat):Bool:=decide (t.Regs.length=12)&&t.Regs.all isW&&decide (0≤t.Pc)&&decide (t.Pc<n)
theorem fitB_iff (t:gThread)(n:Nat):fitB t n=true↔Fit t n:=by
 unfold fitB Fit
 simp[fL,and_assoc]
theorem iFits (t:gThread)(l:List gQuad)(ht:t.Regs.length≤4000000):uE t l=some (fitB t l.length):=by
 unfold uE fitB
 rw[sS _ (by unfold maxLen;omega)]
 simp only[bS',yF,yU,ieq_d,zC,ige,ilt,Bool.and_assoc]
 rw[show decide ((t.Regs.length:Int)=12)=decide (t.Regs.length=12) by rw[Bool.eq_iff_iff];simp;omega]
 rfl
theorem sFits (t:gThread)(l:List gQuad)(ht:t.Regs.length≤4000000)(hl:l.length≤4000000):oE t (ilen l)=some (fitB t l.length):=by
 unfold oE fitB
 rw[pI _ _ (by unfold maxLen;omega),zC,yE _ _ (by omega)]
 simp only[bS',yF,yU,wF]
 rw[show decide ((t.Regs.length:Int)=12)=decide (t.Regs.length=12) by rw[Bool.eq_iff_iff];simp;omega,show decide (0≤t.Pc∧t.Pc≤(l.length:Int)-1)=(decide (0≤t.Pc)&&decide (t.Pc<l.length)) by rw[Bool.eq_iff_iff];simp;omega]
 simp[Bool.and_assoc]
theorem there_val (q:gQuad)(n:Nat):qZ q n=some (decide (q.Op=6∨q.Op=7→q.N<n))∧oD q n=some (decide (q.Op=6∨q.Op=7→q.N<n)):=by
 unfold qZ oD
 simp only[yU,if_or,bS',yF]
 have:(ine q.Op 6&&ine q.Op 7||ilt q.N n)=decide (q.Op=6∨q.Op=7→q.N<n):=by
  rw[Bool.eq_iff_iff]
  simp only[Bool.or_eq_true,Bool.and_eq_true,wY,zD,decide_eq_true_iff]
  omega
 rw[this];exact⟨rfl,rfl⟩
end Go.Abs
