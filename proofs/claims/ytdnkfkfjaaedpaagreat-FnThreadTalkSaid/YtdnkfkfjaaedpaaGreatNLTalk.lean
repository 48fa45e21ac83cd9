/- laws.FnThreadTalk's mirror: true for each code. -/
import Derived.Test.YtdnkfkfjaaedpaaGreatNThH
import Derived.Test.YtdnkfkfjaaedpaaGreatNUNThreadTalk
set_option linter.unusedSimpArgs false
set_option linter.unusedVariables false
set_option maxHeartbeats 8000000
namespace Go.Abs
open Go

theorem iBoxPut {b:gBox}{x:Int}(hb:isBox b=true)(hx:Wd x)(h:(b.Items.length:Int)<b.Room):i_BoxPut b x=some (⟨b.Room,b.Items++[x]⟩,true):=by
 obtain⟨⟨h1,h2⟩,h3,h4⟩:=(jP b).1 hb
 unfold i_BoxPut
 rw[i_BoxValid_val b (by unfold maxLen;omega),hb,i_WordValid_val,(isW_iff _).2 hx,clone_o_eq,clone_id _ (by omega)]
 have hn:ieq (ilen b.Items) b.Room=false:=ieq_f (by rw[zG];omega)
 simp only[bS',if_or,bnot,hn,Bool.not_true,Bool.or_false,Bool.false_eq_true,if_false]
 rw[jE 8 b.Items [x] (by simp;unfold maxLen;omega)]
 rfl
theorem iBoxTake {r x:Int}{s:List Int}(hb:isBox ⟨r,x::s⟩=true):i_BoxTake ⟨r,x::s⟩=some (⟨r,s⟩,x,true):=by
 obtain⟨⟨h1,h2⟩,h3,h4⟩:=(jP _).1 hb
 simp only[List.length_cons] at h1 h2 h3
 unfold i_BoxTake
 rw[i_BoxValid_val _ (by simp;unfold maxLen;omega),hb]
 have hn:ieq (ilen (x::s)) 0=false:=ieq_f (by rw[zG];simp;omega)
 have c1:cutx (x::s) 1 (ilen (x::s))=some s:=by rw[cutx_iff];exact⟨⟨by omega,by simp[ilen];omega,by simp[ilen]⟩,by simp[ilen]⟩
 simp only[bS',if_or,bnot,hn,c1,Bool.not_true,Bool.or_false,Bool.false_eq_true,if_false]
 rw[clone_id _ (by omega),bS',show idx (x::s) 0=some x from zX (k:=0) rfl]
 rfl
theorem sameElse_set {l:List gBox}{b:gBox}{n:Int}(h0:0≤n)(hl:l.length≤1000)(hi:∀b∈l,b.Items.length≤1000):l_sameElse (l.set n.toNat b) l n=some true:=by
 unfold l_sameElse
 rw[if_neg (by simp[ine,ilen])]
 rw[jV (step:=xZ (l.set n.toNat b) l n) (s0:=(0:Int)) l.length (fun k=>(k:Int)) (.inl ()) rfl (fun k hk=>?_) ?_,bS']
 ·unfold xZ
  dsimp only
  rw[if_neg (by rw[zF,zG];simp)]
 ·unfold xZ
  dsimp only
  rw[if_pos (by rw[zF,zG];simp;omega),iadd1 (by omega)]
  by_cases hk2:n.toNat=k
  ·rw[if_neg (by rw[ine_iff];omega),bS',if_neg (by simp)]
  ·have g1:=List.getElem?_eq_getElem hk
   have g2:(l.set n.toNat b)[k]? =some l[k]:=by rw[List.getElem?_set_ne hk2];exact g1
   rw[if_pos (by rw[ine_iff];omega),zX g2,bS',zX g1,bS',sameBox_refl _ (by have:=hi _ (List.getElem_mem hk);omega)]
   simp[bnot]
theorem set_idxB {l:List gBox}{r:Int}{x y:gBox}(h:0≤r)(hy:l[r.toNat]? =some y):idx (l.set r.toNat x) r=some x:=by
 have:(l.set r.toNat x)[r.toNat]? =some x:=List.getElem?_set_self (List.getElem?_eq_some_iff.1 hy).1
 have:=zX this
 rwa [Int.toNat_of_nonneg h] at this
theorem set_idx {l:List Int}{r x:Int}(h:0≤r∧r<l.length):idx (l.set r.toNat x) r=some x:=by
 have:(l.set r.toNat x)[r.toNat]? =some x:=List.getElem?_set_self (by omega)
 have:=zX this
 rwa [Int.toNat_of_nonneg h.1] at this
theorem fnThreadTalk_true (l:List Int)(hb:Bytes l)(hl:l.length≤maxLen):wS l=some true:=by
 unfold wS
 refine headT hb hl (fun r hs=>rfl) fun r q hs h=>?_
 have hf:=h.fit
 have hbx:=fun n (b:gBox) (h0:0≤n)=>sameElse_set (l:=r.2.2) (b:=b) (n:=n) h0 (by have:=hs.2.2.1;omega) (fun b hb=>by have:=hs.2.2.2 b hb;omega)
 simp only[h.idx,bS',jL,if_or]
 rcases h.eqs with⟨k1,k2,k3,e⟩|⟨k1,k2,k3,e⟩|⟨k1,k2,k3,k4,k5,e⟩|⟨k1,k2,k3,e⟩|⟨k1,k2,k3,k4,e⟩|⟨k1,k2,k3,b,k4,k5,k6,e⟩|⟨k1,k2,k3,b,k4,k5,k6,e⟩|⟨k1,k2,k3,w,y,s,k4,k5,e⟩|⟨k1,k2,k3,w,k4,k5,e⟩|⟨k1,e⟩|⟨k1,k2,e⟩|⟨k1,e⟩<;>rw[e]<;>try (simp[ieq,ine,k1];done)
 ·obtain⟨⟨h1,h2⟩,h3,h4⟩:=(jP b).1 k5
  rw[bx_idx k3 k4,(kV hf k2).2.2,bS',bS',iBoxPut k5 (kV hf k2).2.1 k6,bS']
  have hsb:=sameBox_refl ⟨b.Room,b.Items++[rgv r.2.1 q.A]⟩ (by simp;omega)
  simp only[set_idxB k3 k4,hbx q.N _ k3,hsb]
  simp[ieq,ine,k1,hsb]
 ·obtain⟨⟨h1,h2⟩,h3,h4⟩:=(jP _).1 k5
  simp only[List.length_cons] at h1 h2 h3
  simp only[bx_idx k3 k4,iBoxTake k5,bS',set_idxB k3 k4,hbx q.N _ k3,sameBox_refl ⟨w,s⟩ (by simp only;omega),set_idx (show 0≤q.Dst∧q.Dst<r.2.1.Regs.length by have:=hf.1;unfold Rg at k2;omega)]
  simp[ieq,ine,k1]
end Go.Abs
