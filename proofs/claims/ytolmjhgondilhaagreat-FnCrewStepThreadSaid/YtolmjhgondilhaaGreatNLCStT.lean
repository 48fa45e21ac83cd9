/- laws.FnCrewStepThread's mirror: true for each code. -/
import Derived.Test.YtolmjhgondilhaaGreatNLCrD
import Derived.Test.YtolmjhgondilhaaGreatNLStV
set_option linter.unusedSimpArgs false
set_option linter.unusedVariables false
set_option maxHeartbeats 8000000
namespace Go.Abs
open Go

theorem mT (l:List Int)(hb:Bytes l)(hl:l.length<=maxLen):jB l=some true:=by
 unfold jB
 by_cases hg:igt (ilen l) 1048576=true
 .rw[if_pos hg]
 rw[if_neg hg]
 rw[jJ,zF] at hg
 obtain⟨c,e,z1,z2⟩:=Ok.drawCSt hb (by omega)
 have e1:pT c=sD c 1:=by unfold pT;rw[iRun_val z1 1 (by omega)];rfl
 have e2:pK c=tT c 1:=by unfold pK;rw[sRun_val z1 1 (by omega)];rfl
 rw[e,bS',e1,e2]
 refine headR z1 z2 (by omega) fun hc hn hx=>?_
 have hS:crewN (1:Int).toNat c=crewS c:=rfl
 have hsame:=hc.same
 have hmany:=hc.many
 have hidle:=hc.idle
 dsimp only
 rw[hS] at hx ⊢
 have hlen:ilen c.Threads=(c.Codes.length:Int):=by rw[zF,hsame]
 rw[hlen]
 by_cases hi:c.Idle<c.Codes.length
 .obtain⟨l,t,q,h1,h2,h3,h4,h5⟩:=hc.now
  have h0:=hc.turn.1
  have hn:=mN (m:=c.Codes.length) (t:=c.Turn) (i:=c.Idle) (k:=(thrP q t c.Boxes).2.2.2) (by omega) hc.turn ⟨hidle.1,hi⟩ (kind_in h4)
  have ht2:=(List.getElem?_eq_some_iff.1 h2).1
  have hp:(thrP q t c.Boxes).2.2.1.length<=1:=by
   refine h4.cases (P:=fun r=>r.2.2.1.length<=1) ?_ ?_ ?_ ?_ ?_ ?_ ?_ ?_ ?_ ?_ ?_<;>intros<;>first|(simp;done)|(split<;>simp)
  rw[if_neg (by rw[zP];omega),uN h0 h1,bS',uN h0 h2,bS',iStep_val h4,bS',hn.1,bS']
  rw[uF hi h1 h2 h3] at hx ⊢
  rw[yC (step:=kU) (s0:=((0:Int),c,crewG c (thrP q t c.Boxes),(thrP q t c.Boxes).1)) c.Codes.length (fun k=>((k:Int),c,crewG c (thrP q t c.Boxes),(thrP q t c.Boxes).1)) (.inl (c,crewG c (thrP q t c.Boxes),(thrP q t c.Boxes).1)) rfl (fun k hk=>?_) ?_,bS']
  .dsimp only
   have g1:(crewG c (thrP q t c.Boxes)).Threads[c.Turn.toNat]? =some (thrP q t c.Boxes).1:=by simp only[crewG];exact List.getElem?_set_self ht2
   have gb:(crewG c (thrP q t c.Boxes)).Boxes=(thrP q t c.Boxes).2.1:=rfl
   have go:(crewG c (thrP q t c.Boxes)).Out=c.Out++(thrP q t c.Boxes).2.2.1:=rfl
   have gt:(crewG c (thrP q t c.Boxes)).Turn=(nextT c.Codes.length c.Turn c.Idle (thrP q t c.Boxes).2.2.2).1:=rfl
   have gi:(crewG c (thrP q t c.Boxes)).Idle=(nextT c.Codes.length c.Turn c.Idle (thrP q t c.Boxes).2.2.2).2:=rfl
   have hf:=h4.keeps
   have hbl:=box_len hf.2.1
   rw[if_pos rfl,uN h0 g1,bS',tG _ (by have:=hf.1.1;omega),bS',bS',if_pos rfl,gb,gG _ (by omega) (fun b hb=>by have:=dC hf.2.1 b hb;omega),bS',bS',if_pos rfl,go,kS 8 [] _ (by simp;unfold maxLen;omega),bS',List.nil_append,kS 8 _ _ (by unfold maxLen;omega),bS',uO _ (by rw[List.length_append];omega),bS',bS',if_pos rfl,bS',gt,gi]
   simp[ieq]
  .unfold kU
   dsimp only
   rw[if_neg (by rw[zD,hlen];omega)]
  .unfold kU
   dsimp only
   have hk2:k<c.Threads.length:=by omega
   have a2:=List.getElem?_eq_getElem hk2
   rw[if_pos (by rw[zD,hlen];omega),iadd1 (by omega)]
   by_cases he:(k:Int)=c.Turn
   .rw[if_neg (c:=ine (k:Int) c.Turn=true) (by rw[wS];exact fun h=>h he),bS',if_neg (by simp)]
   .have a3:(crewG c (thrP q t c.Boxes)).Threads[k]? =some c.Threads[k]:=by
     simp only[crewG]
     rw[List.getElem?_set_ne (by omega)]
     exact a2
    rw[if_pos (c:=ine (k:Int) c.Turn=true) (by rw[wS];exact he),zV a3,bS',zV a2,bS',tG _ (by have:=z1.regs _ (List.getElem_mem hk2);omega),bS',bS',if_neg (by simp[bnot])]
 .rw[if_pos (by rw[zP];omega)]
  rw[vI hi,nA _ z1]
  rfl
end Go.Abs
