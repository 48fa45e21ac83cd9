/- What ThreadStep computes, on both sides. -/
import Derived.Test.YtolmjhgondilhaaGreatNThM
set_option linter.unusedSimpArgs false
set_option linter.unusedVariables false
set_option maxHeartbeats 8000000
namespace Go.Abs
open Go

/-! what ThreadStep computes -/
def fitB (t:gThread)(n:Nat):Bool:=decide (t.Regs.length=12)&&t.Regs.all isW&&decide (0<=t.Pc)&&decide (t.Pc<n)
theorem fitB_iff (t:gThread)(n:Nat):fitB t n=true<->Fit t n:=by
 unfold fitB Fit
 simp[isW_iff,and_assoc]
theorem iFits (t:gThread)(l:List gQuad)(ht:t.Regs.length<=4000000):sG t l=some (fitB t l.length):=by
 unfold sG fitB
 rw[nZ _ (by unfold maxLen;omega)]
 simp only[bS',yS,jQ,ieq_d,zC,ige,ilt,Bool.and_assoc]
 rw[show decide ((t.Regs.length:Int)=12)=decide (t.Regs.length=12) by rw[Bool.eq_iff_iff];simp;omega]
 rfl
theorem sFits (t:gThread)(l:List gQuad)(ht:t.Regs.length<=4000000)(hl:l.length<=4000000):fL t (ilen l)=some (fitB t l.length):=by
 unfold fL fitB
 rw[mM _ _ (by unfold maxLen;omega),zC,yJ _ _ (by omega)]
 simp only[bS',yS,jQ,wU]
 rw[show decide ((t.Regs.length:Int)=12)=decide (t.Regs.length=12) by rw[Bool.eq_iff_iff];simp;omega,show decide (0<=t.Pc/\t.Pc<=(l.length:Int)-1)=(decide (0<=t.Pc)&&decide (t.Pc<l.length)) by rw[Bool.eq_iff_iff];simp;omega]
 simp[Bool.and_assoc]
theorem there_val (q:gQuad)(n:Nat):mE q n=some (decide (q.Op=6\/q.Op=7->q.N<n))/\fK q n=some (decide (q.Op=6\/q.Op=7->q.N<n)):=by
 unfold mE fK
 simp only[jQ,if_or,bS',yS]
 have:(ine q.Op 6&&ine q.Op 7||ilt q.N n)=decide (q.Op=6\/q.Op=7->q.N<n):=by
  rw[Bool.eq_iff_iff]
  simp only[Bool.or_eq_true,Bool.and_eq_true,xJ,zE,decide_eq_true_iff]
  omega
 rw[this];exact⟨rfl,rfl⟩
end Go.Abs
