/- What is live, as flags. -/
import Derived.Test.YtnaikeccpnadgaaGreatNLLive
import Derived.Test.YtnaikeccpnadgaaGreatNBNDeadRegs
set_option linter.unusedSimpArgs false
set_option linter.unusedVariables false
set_option maxHeartbeats 8000000
namespace Go.Abs
open Go

theorem flags_val {s:Int}(hs:S12 s):xU s=some (F12 (bt s)):=by
 unfold xU
 have hm:makex 1 12 false=some (F12 fun _=>false):=rfl
 rw[hm,bS',kQ (step:=yT s (F12 fun _=>false)) (s0:=((0:Int),F12 fun _=>false)) 12 (fun j=>((j:Int),F12 fun r=>decide (r<j)&&bt s r)) (F12 (bt s)) (by simp) (fun j hj=>?_) ?_,bS']
 .unfold yT
  dsimp only
  rw[if_neg (by rw[zC,zB,uB];omega),dU (f:=fun r=>decide (r<12)&&bt s r) (g:=bt s) fun r hr=>by rw[decide_eq_true hr,Bool.true_and]]
 .unfold yT
  dsimp only
  rw[if_pos (by rw[zC,zB,uB];omega),has12 hs (by unfold Rg;omega),bS',F12_idx _ hj,bS',F12_set _ hj,bS',iadd1 (by omega),Int.toNat_natCast]
  congr 4
  funext r
  by_cases h:r=j
  .subst h;simp
  .rw[if_neg h]
   have:decide (r<j+1)=decide (r<j):=by rw[decide_eq_decide];omega
   rw[this]
theorem liveOf_val {l:List gQuad}(hc:zU false l):cP l=some (liveG l)/\pG l.length (liveG l)/\FixL l (liveG l)/\Least l (liveG l):=by
 obtain⟨S,e,h1,h2,h3⟩:=Ok.liveI hc
 have hl:=hc.1
 have eG:liveG l=rowsI S:=by unfold liveG;rw[e]
 rw[eG]
 refine⟨?_,rowsI_12 h1,h2,h3⟩
 unfold cP
 rw[tP,kB hc,bS',if_neg (by simp[bnot]),e,bS']
 have hS:=h1.1
 rw[fB (step:=pA S) S (fun s=>F12 (bt s)) (fun k hk=>?_) ?_,bS']
 .rfl
 .unfold pA
  dsimp only
  rw[if_neg (by rw[zC,zB];omega)]
 .unfold pA
  dsimp only
  rw[if_pos (by rw[zC,zB];omega),zQ (List.getElem?_eq_getElem hk),bS',flags_val (h1.2 _ (List.getElem_mem hk)),bS',kT 24 _ _ (by simp;unfold maxLen;omega),bS',iadd1 (by omega),sO S _ k hk]
end Go.Abs
