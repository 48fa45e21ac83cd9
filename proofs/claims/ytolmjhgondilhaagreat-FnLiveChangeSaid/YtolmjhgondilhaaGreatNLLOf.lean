/- What is live, as flags. -/
import Derived.Test.YtolmjhgondilhaaGreatNLLive
import Derived.Test.YtolmjhgondilhaaGreatNCNLiveChange
set_option linter.unusedSimpArgs false
set_option linter.unusedVariables false
set_option maxHeartbeats 8000000
namespace Go.Abs
open Go

theorem flags_val {s:Int}(hs:S12 s):xL s=some (F12 (bt s)):=by
 unfold xL
 have hm:makex 1 12 false=some (F12 fun _=>false):=rfl
 rw[hm,bS',kX (step:=yT s (F12 fun _=>false)) (s0:=((0:Int),F12 fun _=>false)) 12 (fun j=>((j:Int),F12 fun r=>decide (r<j)&&bt s r)) (F12 (bt s)) (by simp) (fun j hj=>?_) ?_,bS']
 .unfold yT
  dsimp only
  rw[if_neg (by rw[zF,zD,vF];omega),fY (f:=fun r=>decide (r<12)&&bt s r) (g:=bt s) fun r hr=>by rw[decide_eq_true hr,Bool.true_and]]
 .unfold yT
  dsimp only
  rw[if_pos (by rw[zF,zD,vF];omega),has12 hs (by unfold Rg;omega),bS',F12_idx _ hj,bS',F12_set _ hj,bS',iadd1 (by omega),Int.toNat_natCast]
  congr 4
  funext r
  by_cases h:r=j
  .subst h;simp
  .rw[if_neg h]
   have:decide (r<j+1)=decide (r<j):=by rw[decide_eq_decide];omega
   rw[this]
theorem liveOf_val {l:List gQuad}(hc:kG false l):dP l=some (liveG l)/\sY l.length (liveG l)/\FixL l (liveG l)/\Least l (liveG l):=by
 obtain⟨S,e,h1,h2,h3⟩:=Ok.liveI hc
 have hl:=hc.1
 have eG:liveG l=rowsI S:=by unfold liveG;rw[e]
 rw[eG]
 refine⟨?_,rowsI_12 h1,h2,h3⟩
 unfold dP
 rw[codeValid_eq,kQ hc,bS',if_neg (by simp[bnot]),e,bS']
 have hS:=h1.1
 rw[nT (step:=sS S) S (fun s=>F12 (bt s)) (fun k hk=>?_) ?_,bS']
 .rfl
 .unfold sS
  dsimp only
  rw[if_neg (by rw[zF,zD];omega)]
 .unfold sS
  dsimp only
  rw[if_pos (by rw[zF,zD];omega),zY (List.getElem?_eq_getElem hk),bS',flags_val (h1.2 _ (List.getElem_mem hk)),bS',kU 24 _ _ (by simp;unfold maxLen;omega),bS',iadd1 (by omega),pI S _ k hk]
end Go.Abs
