/- The draw of a code, a thread and mailboxes ends; how large it is. -/
import Derived.Test.YtdnkfkfjaaedpaaGreatNOpJ
import Derived.Test.YtdnkfkfjaaedpaaGreatNThM
set_option linter.unusedSimpArgs false
set_option linter.unusedVariables false
set_option maxHeartbeats 8000000
namespace Go.Abs
open Go

section
variable {b:List Int} (hb:Bytes b) (hl:b.length≤1048576)
include hb hl
theorem Ok.pick0 {k:Int}{r:gL6Rd}(hr:Rd b k r){n:Int}(h1:0≤n∧n≤1000000)(hk:k≤1000000):Ok (zC r n) (fun q=>Rd b (k+1) q.2∧0≤q.1∧(q.1<n∨q.1=0)):=by
 by_cases hn:n=0
 ·subst hn
  obtain⟨e,h2,h3⟩:=hr
  unfold zC
  rw[if_pos (by rfl),bS',if_pos rfl]
  exact Ok.pure ⟨⟨e,by simp only;rw[zS _ _ (by omega)];omega,by simp only;rw[zS _ _ (by omega)];omega⟩,by simp,.inr rfl⟩
 ·exact(Ok.pick hb hl hr (by omega) hk).mono fun q h=>⟨h.1,h.2.1,.inl h.2.2⟩
theorem Ok.items {k:Int}{r:gL6Rd}(hr:Rd b k r){n:Int}(h0:0≤n∧n≤12)(hk:k≤990000):Ok (s_l92Items r n) (fun q=>Rd b (k+60) q.2∧(q.1.length:Int)=n∧∀x∈q.1,Wd x):=by
 unfold s_l92Items
 refine Ok.bind (P:=fun e:gL6Rd×List Int=>Rd b (k+60) e.1∧(e.2.length:Int)=n∧∀x∈e.2,Wd x) ?_ fun e he=>Ok.pure he
 refine Ok.loop (fun s=>∃i:Nat,s.1=(i:Int)∧(i:Int)≤n∧Rd b (k+5*i) s.2.1∧s.2.2.length=i∧∀x∈s.2.2,Wd x) (fun s=>(n-s.1).toNat) _ ⟨0,rfl,by omega,hr.le (by omega),rfl,by simp⟩ ?_
 rintro⟨i',rd,l⟩ ⟨i,h2,h3,h4,h5,h6⟩
 simp only at h2 h3 h4 h5 h6
 subst h2
 unfold s_l92Items_L1
 dsimp only
 rw[iadd1 (by omega)]
 refine Ok.ite (fun h=>?_) fun h=>?_
 ·rw[zF] at h
  refine Ok.bind (Ok.word hb hl h4 (by omega)) fun q2 k2=>?_
  refine Ok.bind (Ok.app (by simp;omega)) fun l2 k3=>Ok.pure ⟨⟨i+1,rfl,by omega,k2.1.le (by push_cast;omega),by rw[k3];simp[h5],?_⟩,by simp only;omega⟩
  intro x hx
  rw[k3] at hx
  rcases List.mem_append.1 hx with hx|hx
  ·exact h6 x hx
  ·simp at hx;subst hx;exact k2.2
 ·rw[zF] at h
  exact Ok.pure ⟨h4.le (by omega),by simp only;omega,h6⟩
theorem Ok.thread {k:Int}{r:gL6Rd}(hr:Rd b k r){l:List gQuad}(hc:l.length≤601)(hk:k≤980000):Ok (s_l93Thread r l) (fun q=>Rd b (k+70) q.2∧q.1.Regs.length≤12):=by
 unfold s_l93Thread
 refine Ok.bind (Ok.items hb hl hr (by decide) (by omega)) fun q1 h1=>?_
 refine Ok.bind (Ok.pick0 hb hl h1.1 (n:=ilen l) (by rw[zG];omega) (by omega)) fun q2 h2=>?_
 refine Ok.bind (Ok.pick hb hl h2.1 (by decide) (by omega)) fun q3 h3=>?_
 have hlen:=h1.2.1
 refine Ok.ite (fun _=>Ok.pure ⟨h3.1.le (by omega),by simp only;omega⟩) fun _=>Ok.ite (fun _=>?_) fun _=>Ok.pure ⟨h3.1.le (by omega),by simp only;omega⟩
 have:cutx q1.1 1 (ilen q1.1)=some (q1.1.drop 1):=by
  rw[cutx_iff]
  refine⟨⟨by omega,by rw[zG];omega,by rw[zG];omega⟩,?_⟩
  rw[zG]
  simp
 rw[this,bS']
 exact Ok.pure ⟨h3.1.le (by omega),by simp;omega⟩
theorem Ok.boxes {k:Int}{r:gL6Rd}(hr:Rd b k r)(hk:k≤900000):Ok (s_l92Boxes r) (fun q=>Rd b (k+300) q.2∧q.1.length≤6∧∀x∈q.1,x.Items.length≤4):=by
 unfold s_l92Boxes
 refine Ok.bind (Ok.pick hb hl hr (by decide) (by omega)) fun q1 h1=>?_
 refine Ok.bind (Ok.idx (by simp;omega)) fun v hv=>?_
 have hv':1≤v∧v≤3:=by simp at hv;omega
 refine Ok.bind (P:=fun e:gL6Rd×List gBox=>Rd b (k+250) e.1∧1≤e.2.length∧e.2.length≤3∧∀x∈e.2,x.Items.length≤4) ?_ fun e he=>?_
 ·refine Ok.loop (fun s=>∃i:Nat,s.1=(i:Int)∧(i:Int)≤v∧Rd b (k+1+70*i) s.2.1∧s.2.2.length=i∧∀x∈s.2.2,x.Items.length≤4) (fun s=>(v-s.1).toNat) _ ⟨0,rfl,by omega,h1.1.le (by omega),rfl,by simp⟩ ?_
  rintro⟨i',rd,l⟩ ⟨i,h2,h3,h4,h5,h6⟩
  simp only at h2 h3 h4 h5 h6
  subst h2
  unfold s_l92Boxes_L1
  dsimp only
  rw[iadd1 (by omega)]
  refine Ok.ite (fun h=>?_) fun h=>?_
  ·rw[zF] at h
   refine Ok.bind (Ok.pick hb hl h4 (by decide) (by omega)) fun q2 k2=>?_
   rw[zS 1 q2.1 (by omega),zS _ 1 (by omega)]
   refine Ok.bind (Ok.pick hb hl k2.1 (n:=1+q2.1+1) (by omega) (by omega)) fun q3 k3=>?_
   refine Ok.bind (Ok.items hb hl k3.1 (n:=q3.1) (by omega) (by omega)) fun q4 k4=>?_
   refine Ok.bind (Ok.app (by simp;omega)) fun l2 k5=>Ok.pure ⟨⟨i+1,rfl,by omega,k4.1.le (by push_cast;omega),by rw[k5];simp[h5],?_⟩,by simp only;omega⟩
   intro x hx
   rw[k5] at hx
   rcases List.mem_append.1 hx with hx|hx
   ·exact h6 x hx
   ·simp at hx;subst hx;have:=k4.2.1;simp only;omega
  ·rw[zF] at h
   exact Ok.pure ⟨h4.le (by omega),by simp only;omega,by simp only;omega,h6⟩
 obtain⟨rd,l⟩:=e
 obtain⟨h2,h3,h4,h5⟩:=he
 simp only at h2 h3 h4 h5 ⊢
 refine Ok.bind (Ok.pick hb hl h2 (by decide) (by omega)) fun q3 k3=>?_
 refine Ok.ite (fun _=>?_) fun _=>Ok.ite (fun _=>?_) fun _=>Ok.pure ⟨k3.1.le (by omega),by simp only;omega,h5⟩
 ·refine Ok.bind (Ok.idx (by omega)) fun v hv=>Ok.bind (Ok.set (by omega)) fun l4 h6=>Ok.pure ⟨k3.1.le (by omega),by rw[h6];simp;omega,fun x hx=>?_⟩
  rw[h6] at hx
  rcases List.mem_or_eq_of_mem_set hx with hx|rfl
  ·exact h5 x hx
  ·exact h5 v hv
 ·refine Ok.bind (Ok.idx (by omega)) fun v hv=>Ok.bind (Ok.app (by simp;omega)) fun l4 h6=>Ok.pure ⟨k3.1.le (by omega),by rw[h6];simp;omega,fun x hx=>?_⟩
  rw[h6] at hx
  rcases List.mem_append.1 hx with hx|hx
  ·exact h5 x hx
  ·simp at hx;rw[hx];exact h5 _ hv
end
def Small (r:List gQuad×gThread×List gBox):Prop:=r.1.length≤601∧r.2.1.Regs.length≤12∧r.2.2.length≤6∧∀x∈r.2.2,x.Items.length≤4
theorem Ok.drawTS {l:List Int}(hb:Bytes l)(hl:l.length≤1048576):Ok (kQ l) Small:=by
 unfold kQ
 refine Ok.bind (Ok.open hb hl) fun r1 h1=>?_
 obtain⟨b,hb,hl,hr⟩:=h1
 refine Ok.bind (Ok.code hb hl hr (by omega)) fun r2 h2=>?_
 refine Ok.bind (Ok.thread hb hl h2.1 h2.2 (by omega)) fun r3 h3=>?_
 refine Ok.bind (Ok.boxes hb hl h3.1 (by omega)) fun r4 h4=>Ok.pure ⟨h2.2,h3.2,h4.2⟩

/-! what ThreadStep computes -/
def fitB (t:gThread)(n:Nat):Bool:=decide (t.Regs.length=12)&&t.Regs.all isW&&decide (0≤t.Pc)&&decide (t.Pc<n)
theorem fitB_iff (t:gThread)(n:Nat):fitB t n=true↔Fit t n:=by
 unfold fitB Fit
 simp[isW_iff,and_assoc]
theorem iFits (t:gThread)(l:List gQuad)(ht:t.Regs.length≤4000000):i_threadFits t l=some (fitB t l.length):=by
 unfold i_threadFits fitB
 rw[i_areWords_val _ (by unfold maxLen;omega)]
 simp only[bS',yF,jL,ieq_d,zG,ige,ilt,Bool.and_assoc]
 rw[show decide ((t.Regs.length:Int)=12)=decide (t.Regs.length=12) by rw[Bool.eq_iff_iff];simp;omega]
 rfl
theorem sFits (t:gThread)(l:List gQuad)(ht:t.Regs.length≤4000000)(hl:l.length≤4000000):s_l23Fits t (ilen l)=some (fitB t l.length):=by
 unfold s_l23Fits fitB
 rw[s_l4Words_val _ _ (by unfold maxLen;omega),zG,yZ _ _ (by omega)]
 simp only[bS',yF,jL,l6In_val]
 rw[show decide ((t.Regs.length:Int)=12)=decide (t.Regs.length=12) by rw[Bool.eq_iff_iff];simp;omega,show decide (0≤t.Pc∧t.Pc≤(l.length:Int)-1)=(decide (0≤t.Pc)&&decide (t.Pc<l.length)) by rw[Bool.eq_iff_iff];simp;omega]
 simp[Bool.and_assoc]
theorem there_val (q:gQuad)(n:Nat):i_boxThere q n=some (decide (q.Op=6∨q.Op=7→q.N<n))∧s_l23Quad q n=some (decide (q.Op=6∨q.Op=7→q.N<n)):=by
 unfold i_boxThere s_l23Quad
 simp only[jL,if_or,bS',yF]
 have:(ine q.Op 6&&ine q.Op 7||ilt q.N n)=decide (q.Op=6∨q.Op=7→q.N<n):=by
  rw[Bool.eq_iff_iff]
  simp only[Bool.or_eq_true,Bool.and_eq_true,ine_iff,zF,decide_eq_true_iff]
  omega
 rw[this];exact⟨rfl,rfl⟩
theorem step_eq {l:List gQuad}{t:gThread}{bx:List gBox}(hl:l.length≤2000)(ht:t.Regs.length≤4000000)(hn:bx.length≤4000000)(hi:∀b∈bx,b.Items.length≤4000000):
  (yJ l t bx=some (⟨[],0⟩,[],[],0)∧kS l t bx=some (⟨[],0⟩,[],[],0))∨∃q,Can l t bx q∧yJ l t bx=some (thrP q t bx)∧kS l t bx=some (thrP q t bx):=by
 obtain⟨v,hv,hv1⟩:=codeValid_any l (by omega)
 unfold yJ kS wF xS
 rw[codeValid_eq,hv,iFits t l ht,sFits t l ht (by omega),i_boxesValid_val bx hn hi,s_l15Boxes_val bx hn hi]
 simp only[bS',yF,jL,if_or]
 by_cases hg:(v&&fitB t l.length)=true∧yQ bx=true
 ·obtain⟨g1,g2⟩:=hg
  have g1':=g1
  rw[Bool.and_eq_true] at g1'
  obtain⟨rfl,g3⟩:=g1'
  have hf:=(fitB_iff _ _).1 g3
  have hlt:t.Pc.toNat<l.length:=by have:=hf.2.2;omega
  have ha:=List.getElem?_eq_getElem hlt
  have hx:idx l t.Pc=some l[t.Pc.toNat]:=by
   have:=zX ha
   rwa [Int.toNat_of_nonneg hf.2.2.1] at this
  rw[g1,g2,if_neg (by simp[bnot]),if_neg (by simp[bnot]),hx]
  simp only[bS',zG,(there_val _ _).1,(there_val _ _).2]
  by_cases hk:l[t.Pc.toNat].Op=6∨l[t.Pc.toNat].Op=7→l[t.Pc.toNat].N<bx.length
  ·have hC:Can l t bx l[t.Pc.toNat]:=⟨hv1 rfl,hf,g2,ha,hk⟩
   rw[decide_eq_true hk,if_neg (by simp[bnot]),if_neg (by simp[bnot]),clone_o_eq,boxesCopy_o_eq,clone_id _ ht,i_boxesCopy_id bx hn hi,bS',bS',l23Step hC,bS',thread_step hC (o:=[]) (by simp),bS']
   exact .inr ⟨_,hC,rfl,rfl⟩
  ·rw[decide_eq_false hk]
   exact .inl ⟨rfl,rfl⟩
 ·have:(bnot (v&&fitB t l.length)||bnot (yQ bx))=true:=by
   cases hq:(v&&fitB t l.length)<;>cases hw:yQ bx<;>simp[bnot,hq,hw] at hg ⊢
  simp only[this,if_true]
  exact .inl ⟨rfl,rfl⟩
end Go.Abs
