/- laws.FnThreadSets' mirror: true for each code. -/
import Derived.Test.YtdnkfkfjaaedpaaGreatNThH
import Derived.Test.YtdnkfkfjaaedpaaGreatNUNThreadSets
set_option linter.unusedSimpArgs false
set_option linter.unusedVariables false
set_option maxHeartbeats 8000000
namespace Go.Abs
open Go

theorem Can.sets {l:List gQuad} {t:gThread} {bx:List gBox} {q:gQuad} (h:Can l t bx q) (k:Nat):(thrP q t bx).1.Regs[k]? =t.Regs[k]? ∨((q.Op≤3∨q.Op=7)∧q.Dst=k):=by
 have st:∀{d x:Int},Rg d→(t.Regs.set d.toNat x)[k]? =t.Regs[k]? ∨d=k:=by
  intro d x hd
  by_cases hk:d.toNat=k
  ·right;have:=hd.1;omega
  ·left;rw[List.getElem?_set_ne hk]
 rcases h.eqs with⟨k1,k2,k3,e⟩|⟨k1,k2,k3,e⟩|⟨k1,k2,k3,k4,k5,e⟩|⟨k1,k2,k3,e⟩|⟨k1,k2,k3,k4,e⟩|⟨k1,k2,k3,b,k4,k5,k6,e⟩|⟨k1,k2,k3,b,k4,k5,k6,e⟩|⟨k1,k2,k3,r,x,s,k4,k5,e⟩|⟨k1,k2,k3,r,k4,k5,e⟩|⟨k1,e⟩|⟨k1,k2,e⟩|⟨k1,e⟩<;>rw[e]
 ·rcases st (x:=q.N) k2 with h1|h1
  ·exact .inl h1
  ·exact .inr ⟨.inl (by omega),h1⟩
 ·rcases st (x:=rgv t q.A) k2 with h1|h1
  ·exact .inl h1
  ·exact .inr ⟨.inl (by omega),h1⟩
 ·rcases st (x:=apv q.N (rgv t q.A) (rgv t q.B)) k2 with h1|h1
  ·exact .inl h1
  ·exact .inr ⟨.inl (by omega),h1⟩
 ·exact .inl rfl
 ·exact .inl rfl
 ·exact .inl rfl
 ·exact .inl rfl
 ·rcases st (x:=x) k2 with h1|h1
  ·exact .inl h1
  ·exact .inr ⟨.inr k1,h1⟩
 ·exact .inl rfl
 ·exact .inl rfl
 ·exact .inl rfl
 ·exact .inl rfl
theorem fnThreadSets_true (l:List Int) (hb:Bytes l) (hl:l.length≤maxLen):l_FnThreadSets l=some true:=by
 unfold l_FnThreadSets
 refine headT hb hl (fun r hs=>rfl) fun r q hs h=>?_
 rw[h.idx,bS']
 by_cases h0:ieq (thrP q r.2.1 r.2.2).2.2.2 0=true
 ·rw[if_pos h0]
 rw[if_neg h0,if_or,bS']
 have hk:=h.sets
 have p1:=h.keeps.1
 generalize thrP q r.2.1 r.2.2=x at*
 have hf:=h.fit.1
 have hf2:=p1.1
 rw[up_loop (step:=l_FnThreadSets_L1 (ile q.Op 3||ieq q.Op 7)) (s0:=((0:Int),r.2.1,x.1,q)) 12 (fun k=>((k:Int),r.2.1,x.1,q)) (.inl ()) rfl (fun k hk12=>?_) ?_,bS']
 ·unfold l_FnThreadSets_L1
  dsimp only
  rw[if_neg (by rw[ilt_iff];omega)]
 ·unfold l_FnThreadSets_L1
  dsimp only
  have g1:=List.getElem?_eq_getElem (l:=x.1.Regs) (i:=k) (by omega)
  have g2:=List.getElem?_eq_getElem (l:=r.2.1.Regs) (i:=k) (by omega)
  rw[if_pos (by rw[ilt_iff];omega),idx_at g1,bS',idx_at g2,bS',iadd1 (by omega)]
  rcases hk k with e|⟨e1,e2⟩
  ·rw[g1,g2] at e
   have e:=Option.some.inj e
   rw[e,if_neg (by simp[ine]),bS',if_neg (by simp)]
  ·have b1:(ile q.Op 3||ieq q.Op 7)=true:=by rw[Bool.or_eq_true,ile_iff,ieq_iff];exact e1
   have b2:ine (k:Int) q.Dst=false:=by rw[Bool.eq_false_iff,ne_eq,ine_iff];omega
   rw[b1,b2]
   simp[bnot]
end Go.Abs
