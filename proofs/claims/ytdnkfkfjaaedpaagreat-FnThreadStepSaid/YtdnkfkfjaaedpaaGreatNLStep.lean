/- laws.FnThreadStep's mirror: true for each code. -/
import Derived.Test.YtdnkfkfjaaedpaaGreatNThH
import Derived.Test.YtdnkfkfjaaedpaaGreatNUNThreadStep
set_option linter.unusedSimpArgs false
set_option linter.unusedVariables false
set_option maxHeartbeats 8000000
namespace Go.Abs
open Go

theorem iThreadValid {l:List gQuad} {t:gThread} (hc:CodeOk false l) (hf:Fit t l.length):i_ThreadValid t l=some true:=by
 unfold i_ThreadValid
 rw[codeValid_eq,codeValid_true hc,iFits t l (by have:=hf.1;omega),(fitB_iff _ _).2 hf]
 rfl
theorem room_get {a b:List gBox} (h:a.map gBox.Room=b.map gBox.Room) {k:Nat} (hk:k<a.length):∃y,b[k]? =some y∧y.Room=a[k].Room:=by
 have hlen:a.length=b.length:=by have:=congrArg List.length h;simpa using this
 have hk2:k<b.length:=by omega
 refine⟨b[k],List.getElem?_eq_getElem hk2,?_⟩
 have:=congrArg (fun z=>z[k]?) h
 simp[List.getElem?_eq_getElem hk,List.getElem?_eq_getElem hk2] at this
 exact this.symm
theorem fnThreadStep_true (l:List Int) (hb:Bytes l) (hl:l.length≤maxLen):l_FnThreadStep l=some true:=by
 unfold l_FnThreadStep
 refine headT hb hl (fun r hs=>rfl) fun r q hs h=>?_
 obtain⟨p1,p2,p3⟩:=h.keeps
 have hlen:(thrP q r.2.1 r.2.2).2.1.length=r.2.2.length:=by have:=congrArg List.length p3;simpa using this
 by_cases h0:ieq (thrP q r.2.1 r.2.2).2.2.2 0=true
 ·rw[if_pos h0]
 rw[if_neg h0]
 generalize thrP q r.2.1 r.2.2=x at*
 have hx:=box_len p2
 rw[up_loop (step:=l_FnThreadStep_L1 r x) (s0:=((0:Int),x.1)) x.2.1.length (fun k=>((k:Int),x.1)) (.inl x.1) rfl (fun k hk=>?_) ?_,bS']
 ·dsimp only
  rw[iThreadValid h.code p1]
  simp[ieq,ilen,hlen]
 ·unfold l_FnThreadStep_L1
  dsimp only
  rw[if_neg (by rw[ilt_iff,ilen_def];omega)]
 ·unfold l_FnThreadStep_L1
  dsimp only
  obtain⟨y,e1,e2⟩:=room_get p3 hk
  have hv:isBox x.2.1[k]=true:=box_mem p2 (List.getElem_mem hk)
  have hi:=box_items p2 _ (List.getElem_mem hk)
  rw[if_pos (by rw[ilt_iff,ilen_def];omega),idx_at (List.getElem?_eq_getElem hk),bS',i_BoxValid_val _ (by unfold maxLen;omega),hv,bS',idx_at e1,bS',e2,iadd1 (by omega)]
  simp[bnot,ine]
end Go.Abs
