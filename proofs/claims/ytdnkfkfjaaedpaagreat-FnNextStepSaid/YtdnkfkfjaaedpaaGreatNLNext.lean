/- laws.FnNextStep's mirror: true for each code. -/
import Derived.Test.YtdnkfkfjaaedpaaGreatNThH
import Derived.Test.YtdnkfkfjaaedpaaGreatNUNNextStep
set_option linter.unusedSimpArgs false
set_option linter.unusedVariables false
set_option maxHeartbeats 8000000
namespace Go.Abs
open Go

theorem hasInt_true {l:List Int} {x:Int} (h:x∈l) (hl:l.length≤1000):l_hasInt l x=some true:=by
 unfold l_hasInt
 obtain⟨e,he,hd⟩:=Ok.loop (step:=l_hasInt_L1 l x) (s:=(0:Int)) (fun s=>∃k:Nat,k≤l.length∧s=(k:Int)∧x ∉ l.take k) (fun s=>l.length-s.toNat)
  (fun e=>e=.inr true) ⟨0,by omega,rfl,by simp⟩ (by
  rintro s ⟨k,hk,rfl,hn⟩
  unfold l_hasInt_L1
  dsimp only
  refine Ok.ite (fun hi=>?_) fun hi=>?_
  ·rw[ilt_iff,ilen_def] at hi
   have hlt:k<l.length:=by omega
   rw[idx_at (List.getElem?_eq_getElem hlt),bS',iadd1 (by omega)]
   refine Ok.ite (fun _=>Ok.pure rfl) fun hx=>Ok.pure ⟨⟨k+1,by omega,rfl,?_⟩,by omega⟩
   rw[ieq_iff] at hx
   rw[List.take_add_one,List.getElem?_eq_getElem hlt]
   simp only[Option.toList_some,List.mem_append,List.mem_singleton,not_or]
   exact⟨hn,fun hc=>hx hc.symm⟩
  ·rw[ilt_iff,ilen_def] at hi
   have:k=l.length:=by omega
   subst this
   rw[List.take_length] at hn
   exact absurd h hn)
 rw[he]
 subst hd
 rfl
theorem nextOf_val (q:gQuad) (p:Int):∃L,i_nextOf q p=some L∧L.length≤2∧(q.Op≠10→q.Op≠4→iadd .i64 p 1∈L)∧(q.Op=4∨q.Op=5→q.N∈L):=by
 unfold i_nextOf
 simp only[if_and,bS']
 by_cases h1:q.Op=10
 ·rw[if_pos (by rw[ieq_iff];exact h1)]
  exact⟨_,rfl,by simp,fun h=>absurd h1 h,fun h=>by omega⟩
 rw[if_neg (by rw[ieq_iff];exact h1)]
 by_cases h2:q.Op=4
 ·rw[if_pos (by rw[ieq_iff];exact h2)]
  exact⟨_,rfl,by simp,fun _ h=>absurd h2 h,fun h=>by simp⟩
 rw[if_neg (by rw[ieq_iff];exact h2)]
 split
 ·exact⟨_,rfl,by simp,fun _ _=>by simp,fun _=>by simp⟩
 rename_i h3
 split
 ·exact⟨_,rfl,by simp,fun _ _=>by simp,fun _=>by simp⟩
 rename_i h4
 refine⟨_,rfl,by simp,fun _ _=>by simp,fun h=>?_⟩
 simp only[Bool.and_eq_true,ieq_iff,ilt_iff,igt_iff,not_and] at h3 h4
 have:=h3 (by omega)
 have:=h4 (by omega)
 simp only[List.mem_singleton]
 omega
theorem fnNextStep_true (l:List Int) (hb:Bytes l) (hl:l.length≤maxLen):l_FnNextStep l=some true:=by
 unfold l_FnNextStep
 refine headT hb hl (fun r hs=>rfl) fun r q hs h=>?_
 rw[if_and,bS']
 by_cases hk:(thrP q r.2.1 r.2.2).2.2.2=1∨(thrP q r.2.1 r.2.2).2.2.2=2
 ·have hn:(ine (thrP q r.2.1 r.2.2).2.2.2 1&&ine (thrP q r.2.1 r.2.2).2.2.2 2)=false:=by
   rw[Bool.eq_false_iff,ne_eq,Bool.and_eq_true,ine_iff,ine_iff];omega
  rw[hn,if_neg (by simp)]
  unfold i_CodeNext
  rw[codeValid_eq,codeValid_true h.code,h.idx]
  have hf:=h.fit
  obtain⟨L,e1,e2,e3,e4⟩:=nextOf_val q r.2.1.Pc
  rw[h.pc] at e3
  have hg:(bnot true||ilt r.2.1.Pc 0||ige r.2.1.Pc (ilen r.1))=false:=by
   rw[Bool.eq_false_iff,ne_eq]
   simp only[Bool.or_eq_true,ilt_iff,ige_iff,ilen_def,bnot]
   have:=hf.2.2
   simp
   omega
  simp only[bS',if_or,hg,Bool.false_eq_true,if_false,e1]
  rw[hasInt_true ?_ (by omega)]
  ·rfl
  rcases h.eqs with⟨k1,k2,k3,e⟩|⟨k1,k2,k3,e⟩|⟨k1,k2,k3,k4,k5,e⟩|⟨k1,k2,k3,e⟩|⟨k1,k2,k3,k4,e⟩|⟨k1,k2,k3,b,k4,k5,k6,e⟩|⟨k1,k2,k3,b,k4,k5,k6,e⟩|⟨k1,k2,k3,w,y,s,k4,k5,e⟩|⟨k1,k2,k3,w,k4,k5,e⟩|⟨k1,e⟩|⟨k1,k2,e⟩|⟨k1,e⟩<;>rw[e] at hk ⊢<;>dsimp only at hk ⊢
  ·exact e3 (by omega) (by omega)
  ·exact e3 (by omega) (by omega)
  ·exact e3 (by omega) (by omega)
  ·exact e4 (by omega)
  ·split
   ·exact e4 (by omega)
   ·exact e3 (by omega) (by omega)
  ·exact e3 (by omega) (by omega)
  ·omega
  ·exact e3 (by omega) (by omega)
  ·omega
  ·exact e3 (by omega) (by omega)
  ·exact e3 (by omega) (by omega)
  ·omega
 ·have hn:(ine (thrP q r.2.1 r.2.2).2.2.2 1&&ine (thrP q r.2.1 r.2.2).2.2.2 2)=true:=by
   rw[Bool.and_eq_true,ine_iff,ine_iff];omega
  rw[hn,if_pos rfl]
end Go.Abs
