/- Laws of a thread's step: what they have in common. -/
import Derived.Test.YtdnkfkfjaaedpaaGreatNThD
set_option linter.unusedSimpArgs false
set_option linter.unusedVariables false
set_option maxHeartbeats 8000000
namespace Go.Abs
open Go

theorem sameInts_refl (l:List Int)(hl:l.length≤2000000):yC l l=some true:=by
 unfold yC
 rw[if_neg (by simp[ine])]
 have:=jV (step:=xY l l) (s0:=(0:Int)) l.length (fun k=>(k:Int)) (.inl ()) rfl (fun k hk=>?_) ?_
 ·rw[this];rfl
 ·unfold xY
  dsimp only
  rw[if_pos (by rw[zF];unfold ilen;omega),zX (List.getElem?_eq_getElem hk)]
  simp only[bS']
  rw[if_neg (by simp[ine]),zS _ _ (by omega)]
  rfl
 ·unfold xY
  dsimp only
  rw[if_neg (by rw[zF];unfold ilen;omega)]
theorem sameThread_refl (t:gThread)(h:t.Regs.length≤1000000):yH t t=some true:=by
 unfold yH
 rw[if_pos (by simp[ieq]),sameInts_refl _ (by omega)]
 rfl
theorem sameBox_refl (b:gBox)(h:b.Items.length≤1000000):l_sameBox b b=some true:=by
 unfold l_sameBox
 rw[if_pos (by simp[ieq]),sameInts_refl _ (by omega)]
 rfl
theorem sameBoxes_refl (l:List gBox)(hl:l.length≤1000000)(hi:∀b∈l,b.Items.length≤1000000):yP l l=some true:=by
 unfold yP
 rw[if_neg (by simp[ine])]
 have:=jV (step:=jO l l) (s0:=(0:Int)) l.length (fun k=>(k:Int)) (.inl ()) rfl (fun k hk=>?_) ?_
 ·rw[this];rfl
 ·unfold jO
  dsimp only
  rw[if_pos (by rw[zF];unfold ilen;omega),zX (List.getElem?_eq_getElem hk)]
  simp only[bS',sameBox_refl _ (hi _ (List.getElem_mem hk))]
  rw[show bnot true=false from rfl,if_neg (by decide),zS _ _ (by omega)]
  rfl
 ·unfold jO
  dsimp only
  rw[if_neg (by rw[zF];unfold ilen;omega)]
section
variable {l:List gQuad} {t:gThread} {bx:List gBox} {q:gQuad}
theorem Can.eqs (h:Can l t bx q):
  (q.Op=1∧Rg q.Dst∧Wd q.N∧thrP q t bx=(⟨t.Regs.set q.Dst.toNat q.N,t.Pc+1⟩,bx,[],1))∨
  (q.Op=2∧Rg q.Dst∧Rg q.A∧thrP q t bx=(⟨t.Regs.set q.Dst.toNat (rgv t q.A),t.Pc+1⟩,bx,[],1))∨
  (q.Op=3∧Rg q.Dst∧Rg q.A∧Rg q.B∧(1≤q.N∧q.N≤12)∧thrP q t bx=(⟨t.Regs.set q.Dst.toNat (apv q.N (rgv t q.A) (rgv t q.B)),t.Pc+1⟩,bx,[],1))∨
  (q.Op=4∧0≤q.N∧q.N<l.length∧thrP q t bx=(⟨t.Regs,q.N⟩,bx,[],1))∨
  (q.Op=5∧Rg q.A∧0≤q.N∧q.N<l.length∧thrP q t bx=(⟨t.Regs,if rgv t q.A=0 then q.N else t.Pc+1⟩,bx,[],1))∨
  (q.Op=6∧Rg q.A∧0≤q.N∧∃b,bx[q.N.toNat]? =some b∧isBox b=true∧(b.Items.length:Int)<b.Room∧thrP q t bx=(⟨t.Regs,t.Pc+1⟩,bx.set q.N.toNat ⟨b.Room,b.Items++[rgv t q.A]⟩,[],1))∨
  (q.Op=6∧Rg q.A∧0≤q.N∧∃b,bx[q.N.toNat]? =some b∧isBox b=true∧¬(b.Items.length:Int)<b.Room∧thrP q t bx=(t,bx,[],3))∨
  (q.Op=7∧Rg q.Dst∧0≤q.N∧∃r x s,bx[q.N.toNat]? =some ⟨r,x::s⟩∧isBox ⟨r,x::s⟩=true∧thrP q t bx=(⟨t.Regs.set q.Dst.toNat x,t.Pc+1⟩,bx.set q.N.toNat ⟨r,s⟩,[],1))∨
  (q.Op=7∧Rg q.Dst∧0≤q.N∧∃r,bx[q.N.toNat]? =some ⟨r,[]⟩∧isBox ⟨r,[]⟩=true∧thrP q t bx=(t,bx,[],3))∨
  (q.Op=8∧thrP q t bx=(⟨t.Regs,t.Pc+1⟩,bx,[],2))∨
  (q.Op=9∧Rg q.A∧thrP q t bx=(⟨t.Regs,t.Pc+1⟩,bx,[rgv t q.A],1))∨
  (q.Op=10∧thrP q t bx=(t,bx,[],4)):=by
 generalize hr:thrP q t bx=x
 revert hr
 refine h.cases (P:=fun r=>r=x→_) ?_ ?_ ?_ ?_ ?_ ?_ ?_ ?_ ?_ ?_ ?_
 ·intro k1 k2 k3 e;subst e;exact .inl ⟨k1,k2,k3,rfl⟩
 ·intro k1 k2 k3 e;subst e;exact .inr (.inl ⟨k1,k2,k3,rfl⟩)
 ·intro k1 k2 k3 k4 k5 e;subst e;exact .inr (.inr (.inl ⟨k1,k2,k3,k4,k5,rfl⟩))
 ·intro k1 k2 k3 e;subst e;exact .inr (.inr (.inr (.inl ⟨k1,k2,k3,rfl⟩)))
 ·intro k1 k2 k3 k4 e;subst e;exact .inr (.inr (.inr (.inr (.inl ⟨k1,k2,k3,k4,rfl⟩))))
 ·intro k1 k2 k3 b k4 k5 e
  by_cases hb:(b.Items.length:Int)<b.Room
  ·rw[if_pos hb] at e;subst e;exact .inr (.inr (.inr (.inr (.inr (.inl ⟨k1,k2,k3,b,k4,k5,hb,rfl⟩)))))
  ·rw[if_neg hb] at e;subst e;exact .inr (.inr (.inr (.inr (.inr (.inr (.inl ⟨k1,k2,k3,b,k4,k5,hb,rfl⟩))))))
 ·intro k1 k2 k3 r x s k4 k5 e;subst e;exact .inr (.inr (.inr (.inr (.inr (.inr (.inr (.inl ⟨k1,k2,k3,r,x,s,k4,k5,rfl⟩)))))))
 ·intro k1 k2 k3 r k4 k5 e;subst e;exact .inr (.inr (.inr (.inr (.inr (.inr (.inr (.inr (.inl ⟨k1,k2,k3,r,k4,k5,rfl⟩))))))))
 ·intro k1 e;subst e;exact .inr (.inr (.inr (.inr (.inr (.inr (.inr (.inr (.inr (.inl ⟨k1,rfl⟩)))))))))
 ·intro k1 k2 e;subst e;exact .inr (.inr (.inr (.inr (.inr (.inr (.inr (.inr (.inr (.inr (.inl ⟨k1,k2,rfl⟩))))))))))
 ·intro k1 e;subst e;exact .inr (.inr (.inr (.inr (.inr (.inr (.inr (.inr (.inr (.inr (.inr ⟨k1,rfl⟩))))))))))
theorem Can.printed (h:Can l t bx q):(thrP q t bx).2.2.1.length≤1:=by
 rcases h.eqs with⟨_,_,_,e⟩|⟨_,_,_,e⟩|⟨_,_,_,_,_,e⟩|⟨_,_,_,e⟩|⟨_,_,_,_,e⟩|⟨_,_,_,_,_,_,_,e⟩|⟨_,_,_,_,_,_,_,e⟩|⟨_,_,_,_,_,_,_,_,e⟩|⟨_,_,_,_,_,_,e⟩|⟨_,e⟩|⟨_,_,e⟩|⟨_,e⟩<;>rw[e]<;>simp
end
theorem headT {rest:(List gQuad×gThread×List gBox)→(gThread×List gBox×List Int×Int)→Option Bool}{l:List Int}(hb:Bytes l)(hl:l.length≤maxLen)
  (h0:∀r,Small r→rest r (⟨[],0⟩,[],[],0)=some true)
  (h1:∀r q,Small r→Can r.1 r.2.1 r.2.2 q→rest r (thrP q r.2.1 r.2.2)=some true):
  (if igt (ilen l) 1048576=true then some true else
   (kQ l).bind fun r1=>(yJ r1.1 r1.2.1 r1.2.2).bind fun r2=>(kS r1.1 r1.2.1 r1.2.2).bind fun r3=>
   (if ine r2.2.2.2 r3.2.2.2=true then some true else(yH r2.1 r3.1).bind fun r4=>some (bnot r4)).bind fun g5=>
   (if g5=true then some true else(yP r2.2.1 r3.2.1).bind fun r6=>some (bnot r6)).bind fun g7=>
   (if g7=true then some true else(yC r2.2.2.1 r3.2.2.1).bind fun r8=>some (bnot r8)).bind fun g9=>
   if g9=true then some false else rest r1 r2)=some true:=by
 by_cases hg:igt (ilen l) 1048576=true
 ·rw[if_pos hg]
 rw[if_neg hg]
 rw[wN,zG] at hg
 obtain⟨r,h2,h3⟩:=Ok.drawTS hb (by omega)
 obtain⟨z1,z2,z3,z4⟩:=h3
 rw[h2,bS']
 have fin:∀x:gThread×List gBox×List Int×Int,x.1.Regs.length≤1000→x.2.1.length≤1000→(∀b∈x.2.1,b.Items.length≤1000)→x.2.2.1.length≤1000→rest r x=some true→
   ((if ine x.2.2.2 x.2.2.2=true then some true else(yH x.1 x.1).bind fun r4=>some (bnot r4)).bind fun g5=>
   (if g5=true then some true else(yP x.2.1 x.2.1).bind fun r6=>some (bnot r6)).bind fun g7=>
   (if g7=true then some true else(yC x.2.2.1 x.2.2.1).bind fun r8=>some (bnot r8)).bind fun g9=>
   if g9=true then some false else rest r x)=some true:=by
  intro x a1 a2 a3 a4 a5
  rw[if_neg (by simp[ine]),sameThread_refl _ (by omega),sameBoxes_refl _ (by omega) (fun b hb=>by have:=a3 b hb;omega),sameInts_refl _ (by omega)]
  simp only[bS',bnot,Bool.not_true,Bool.false_eq_true,if_false]
  exact a5
 rcases step_eq (l:=r.1) (t:=r.2.1) (bx:=r.2.2) (by omega) (by omega) (by omega) (fun b hb=>by have:=z4 b hb;omega) with⟨e1,e2⟩|⟨q,hC,e1,e2⟩
 ·rw[e1,bS',e2,bS']
  exact fin _ (by simp) (by simp) (by simp) (by simp) (h0 r ⟨z1,z2,z3,z4⟩)
 ·rw[e1,bS',e2,bS']
  obtain⟨k1,k2,_⟩:=hC.keeps
  exact fin _ (by have:=k1.1;omega) (by have:=box_len k2;omega) (fun b hb=>by have:=box_items k2 b hb;omega) (by have:=hC.printed;omega) (h1 r q ⟨z1,z2,z3,z4⟩ hC)
end Go.Abs
