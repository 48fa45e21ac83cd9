/- The operations that make and write memory: the relation behind them. -/
import Derived.Test.YtolmjhgondilhaaGreatNAbs3
import Derived.Laws.Append
set_option linter.unusedSimpArgs false
set_option linter.unusedVariables false
namespace Go.Abs
open Go Go.RowKit

theorem R0.next {G C J w C' J' w' N}(hR:R0 G C J w)(he:Ext0 N C J w C' J' w')(hids:∀o,J'.next<=o->J'.objs o=none/\C' o=none)
  (hinj:∀o o' b s s' ob ob',J'.objs o=some ob->J'.objs o'=some ob'->C' o=some (b,s)->C' o'=some (b,s')->0<s->0<s'->o=o')
  (hobj:∀o ob,J'.objs o=some ob->ORel C' (own0 C' J') w' (C' o) ob\/(J.objs o=some ob/\C' o=C o/\∀b sz,C o=some (b,sz)->0<sz->w'.heap[b]? =w.heap[b]?)):
  R0 G C' J' w':=by
 refine⟨hids,fun o ob ho=>?_,hinj,fun g cs hg=>(hR.glob g cs hg).mono he⟩
 rcases hobj o ob ho with h|⟨h1,h2,h3⟩
 .exact h
 .have h:=hR.obj o ob h1
  rw[h2]
  obtain⟨b,sz,hC,hz,hp⟩:=h
  refine⟨b,sz,hC,hz,fun h0=>?_⟩
  obtain⟨h4,h5,arr,hw,hl,hh⟩:=hp h0
  refine⟨h4,h5,arr,by rw[h3 b sz hC h0];exact hw,hl,fun r e hr=>⟨(hh r e hr).1,fun i x hx=>?_⟩⟩
  obtain⟨h6,v,h7,h8⟩:=(hh r e hr).2 i x hx
  exact⟨h6,v,h7,h8.mono he⟩

def AHeap.put (J:AHeap)(id:Nat)(ob:AObj):AHeap:={J with objs:=fun o=>if o=id then some ob else J.objs o}
def AHeap.kill (J:AHeap)(id:Nat):AHeap:={J with objs:=fun o=>if o=id then none else J.objs o}
def setC (C:Phi0)(id:Nat)(x:Nat×Nat):Phi0:=fun o=>if o=id then some x else C o

def Rows (C:Phi0)(ow:Nat->Prop)(w:World)(sz:Nat)(rows:List (List AV))(arr:Array Value):Prop:=
 ∀(r:Nat) (e:List AV),rows[r]? =some e->e.length=sz/\∀(i:Nat) (x:AV),e[i]? =some x->x.one=true/\∃v,arr[r*sz+i]? =some v/\VRel C ow w x v

theorem Rows.mono {N C J w C' J' w' sz rows arr}(he:Ext0 N C J w C' J' w')(h:Rows C (own0 C J) w sz rows arr):Rows C' (own0 C' J') w' sz rows arr:=by
 intro r e hr
 refine⟨(h r e hr).1,fun i x hx=>?_⟩
 obtain⟨h1,v,h2,h3⟩:=(h r e hr).2 i x hx
 exact⟨h1,v,h2,h3.mono he⟩

theorem R0.new {G C J w w' id ty sz rows arr}(hR:R0 G C J w)(hid:id<J.next)(ho:J.objs id=none)(hC:C id=none)(hsz:0<sz)
  (hos:w'.os=w.os) (htape:w'.tape=w.tape) (hout:w'.output=w.output) (hsize:w'.heap.size=w.heap.size+1)
  (hold:∀b,b<w.heap.size->w'.heap[b]? =w.heap[b]?) (hnew:w'.heap[w.heap.size]? =some (.cells arr ty (0,0)))
  (hlen:rows.length*sz<=arr.size) (hrel:Rows C (own0 C J) w sz rows arr):
  R0 G (setC C id (w.heap.size,sz)) (J.put id ⟨ty,sz,rows⟩) w'/\Ext0 (·≠id) C J w (setC C id (w.heap.size,sz)) (J.put id ⟨ty,sz,rows⟩) w':=by
 have he:Ext0 (·≠id) C J w (setC C id (w.heap.size,sz)) (J.put id ⟨ty,sz,rows⟩) w':=by
  refine⟨fun o hlt=>?_,fun o x hx=>?_,⟨hos,htape,hout,by omega,fun b hb _=>hold b hb,fun b arr T hb=>⟨arr,?_,rfl⟩⟩,fun b hb=>?_,Nat.le_refl _⟩
  .have hne:o≠id:=hlt
   exact⟨by simp[setC,hne],fun h=>by simp[AHeap.put,hne,h]⟩
  .have hne:o≠id:=by rintro rfl;rw[hC] at hx;cases hx
   simp[setC,hne,hx]
  .rw[hold b (yL hb)];exact hb
  .obtain⟨o,ob,s,h1,h2,h3⟩:=hb
   by_cases e:o=id
   .subst e
    simp[setC] at h2
    right;omega
   .left
    exact⟨o,ob,s,by simpa [AHeap.put,e] using h1,by simpa [setC,e] using h2,h3⟩
 refine⟨hR.next he (fun o hle=>?_) (fun o o' b s s' ob ob' h1 h2 h3 h4 p1 p2=>?_) (fun o ob h=>?_),he⟩
 .have hne:o≠id:=by have:J.next<=o:=hle;omega
  have:=hR.ids o hle
  exact⟨by simp[AHeap.put,hne,this.1],by simp[setC,hne,this.2]⟩
 .have old:∀o ob b s,0<s->o≠id->(J.put id ⟨ty,sz,rows⟩).objs o=some ob->setC C id (w.heap.size,sz) o=some (b,s)->J.objs o=some ob/\C o=some (b,s)/\b<w.heap.size:=by
   intro o ob b s hs0 hne k1 k2
   have k1':J.objs o=some ob:=by simpa [AHeap.put,hne] using k1
   have k2':C o=some (b,s):=by simpa [setC,hne] using k2
   have:=hR.obj o ob k1'
   rw[k2'] at this
   obtain⟨_,_,_,hw,_⟩:=this.get hs0
   exact⟨k1',k2',yL hw⟩
  by_cases e:o=id
  .by_cases e':o'=id
   .omega
   .subst e
    simp[setC] at h3
    have:=(old o' ob' b s' p2 e' h2 h4).2.2
    omega
  .by_cases e':o'=id
   .subst e'
    simp[setC] at h4
    have:=(old o ob b s p1 e h1 h3).2.2
    omega
   .exact hR.inj o o' b s s' ob ob' (old o ob b s p1 e h1 h3).1 (old o' ob' b s' p2 e' h2 h4).1 (old o ob b s p1 e h1 h3).2.1 (old o' ob' b s' p2 e' h2 h4).2.1 p1 p2
 .by_cases e:o=id
  .subst e
   left
   simp[AHeap.put] at h
   subst h
   have e2:setC C o (w.heap.size,sz) o=some (w.heap.size,sz):=by simp[setC]
   rw[e2]
   exact⟨_,_,rfl,fun e=>by omega,fun _=>⟨rfl,hsz,arr,hnew,hlen,hrel.mono he⟩⟩
  .right
   have h':J.objs o=some ob:=by simpa [AHeap.put,e] using h
   refine⟨h',by simp[setC,e],fun b s hb hs0=>hold b ?_⟩
   have:=hR.obj o ob h'
   rw[hb] at this
   obtain⟨_,_,_,hw,_⟩:=this.get hs0
   exact yL hw

theorem R0.newv {G C J w id ty sz}(hR:R0 G C J w)(hid:id<J.next)(ho:J.objs id=none)(hC:C id=none):
  R0 G (setC C id (0,0)) (J.put id ⟨ty,sz,[]⟩) w/\Ext0 (·≠id) C J w (setC C id (0,0)) (J.put id ⟨ty,sz,[]⟩) w:=by
 have he:Ext0 (·≠id) C J w (setC C id (0,0)) (J.put id ⟨ty,sz,[]⟩) w:=by
  refine⟨fun o hlt=>?_,fun o x hx=>?_,Fr.refl _ _,fun b hb=>?_,Nat.le_refl _⟩
  .have hne:o≠id:=hlt
   exact⟨by simp[setC,hne],fun h=>by simp[AHeap.put,hne,h]⟩
  .have hne:o≠id:=by rintro rfl;rw[hC] at hx;cases hx
   simp[setC,hne,hx]
  obtain⟨o,ob,s,h1,h2,h3⟩:=hb
  by_cases e:o=id
  .subst e
   simp[setC] at h2
   omega
  .exact .inl ⟨o,ob,s,by simpa [AHeap.put,e] using h1,by simpa [setC,e] using h2,h3⟩
 refine⟨hR.next he (fun o hle=>?_) (fun o o' b s s' ob ob' h1 h2 h3 h4 p1 p2=>?_) (fun o ob h=>?_),he⟩
 .have hne:o≠id:=by have:J.next<=o:=hle;omega
  exact⟨by simp[AHeap.put,hne,(hR.ids o hle).1],by simp[setC,hne,(hR.ids o hle).2]⟩
 .have e:o≠id:=by rintro rfl;simp[setC] at h3;omega
  have e':o'≠id:=by rintro rfl;simp[setC] at h4;omega
  exact hR.inj o o' b s s' ob ob' (by simpa [AHeap.put,e] using h1) (by simpa [AHeap.put,e'] using h2) (by simpa [setC,e] using h3) (by simpa [setC,e'] using h4) p1 p2
 .by_cases e:o=id
  .subst e
   left
   simp[AHeap.put] at h
   subst h
   exact⟨0,0,by simp[setC],fun _=>rfl,fun h=>by omega⟩
  .right
   exact⟨by simpa [AHeap.put,e] using h,by simp[setC,e],fun _ _ _ _=>rfl⟩

theorem R0.kill {G C J w}(hR:R0 G C J w)(id:Nat)(N:Nat->Prop):R0 G C (J.kill id) w/\Ext0 N C J w C (J.kill id) w:=by
 have he:Ext0 N C J w C (J.kill id) w:=by
  refine⟨fun o _=>⟨rfl,fun h=>by simp only[AHeap.kill];split<;>simp_all⟩,fun o x hx=>hx,Fr.refl _ _,fun b hb=>?_,Nat.le_refl _⟩
  obtain⟨o,ob,s,h1,h2,h3⟩:=hb
  simp only[AHeap.kill] at h1
  split at h1
  .cases h1
  .exact .inl ⟨o,ob,s,h1,h2,h3⟩
 have hold:∀o ob,(J.kill id).objs o=some ob->J.objs o=some ob:=by
  intro o ob h
  simp only[AHeap.kill] at h
  split at h
  .cases h
  .exact h
 refine⟨hR.next he (fun o hle=>⟨?_,(hR.ids o hle).2⟩) (fun o o' b s s' ob ob' h1 h2 h3 h4 p1 p2=>hR.inj o o' b s s' ob ob' (hold _ _ h1) (hold _ _ h2) h3 h4 p1 p2) (fun o ob h=>.inr ⟨hold _ _ h,rfl,fun _ _ _ _=>rfl⟩),he⟩
 have:=(hR.ids o hle).1
 simp only[AHeap.kill]
 split<;>simp_all

theorem R0.write {G C J w w' id b sz ob rows arr}(N:Nat->Prop)(hR:R0 G C J w)(ho:J.objs id=some ob)(hC:C id=some (b,sz))(hsz:0<sz)
  (hos:w'.os=w.os) (htape:w'.tape=w.tape) (hout:w'.output=w.output) (hsize:w'.heap.size=w.heap.size)
  (hold:∀k,k≠b->w'.heap[k]? =w.heap[k]?) (hnew:w'.heap[b]? =some (.cells arr ob.ty (0,0)))
  (hsame:∀old T fz,w.heap[b]? =some (.cells old T fz)->arr.size=old.size)
  (hlen:rows.length*sz<=arr.size) (hrel:Rows C (own0 C J) w sz rows arr):
  R0 G C (J.put id ⟨ob.ty,sz,rows⟩) w'/\Ext0 N C J w C (J.put id ⟨ob.ty,sz,rows⟩) w':=by
 have hob:=hR.obj id ob ho
 rw[hC] at hob
 obtain⟨hs,h0,old,hw,_,_⟩:=hob.get hsz
 have howns:∀k,own0 C (J.put id ⟨ob.ty,sz,rows⟩) k<->own0 C J k:=by
  intro k
  constructor
  .rintro⟨o,ob',s,h1,h2,h3⟩
   by_cases e:o=id
   .subst e;exact⟨o,ob,s,ho,h2,h3⟩
   .exact⟨o,ob',s,by simpa [AHeap.put,e] using h1,h2,h3⟩
  .rintro⟨o,ob',s,h1,h2,h3⟩
   by_cases e:o=id
   .subst e;exact⟨o,_,s,by simp[AHeap.put];rfl,h2,h3⟩
   .exact⟨o,ob',s,by simpa [AHeap.put,e] using h1,h2,h3⟩
 have he:Ext0 N C J w C (J.put id ⟨ob.ty,sz,rows⟩) w':=by
  refine⟨fun o _=>⟨rfl,fun h=>?_⟩,fun o x hx=>hx,⟨hos,htape,hout,by omega,fun k hk hno=>hold k ?_,fun k a T hk=>?_⟩,fun k hk=>.inl ((howns k).1 hk),Nat.le_refl _⟩
  .have:o≠id:=by rintro rfl;rw[ho] at h;cases h
   simp[AHeap.put,this,h]
  .rintro rfl;exact hno ⟨id,ob,sz,ho,hC,hsz⟩
  .by_cases e:k=b
   .subst e
    rw[hw] at hk
    cases hk
    exact⟨arr,hnew,hsame _ _ _ hw⟩
   .exact⟨a,by rw[hold k e];exact hk,rfl⟩
 refine⟨hR.next he (fun o hle=>?_) (fun o o' b s s' ob1 ob2 h1 h2 h3 h4 p1 p2=>?_) (fun o ob' h=>?_),he⟩
 .have:o≠id:=by rintro rfl;rw[(hR.ids o hle).1] at ho;cases ho
  exact⟨by simp[AHeap.put,this,(hR.ids o hle).1],(hR.ids o hle).2⟩
 .have f:∀o ob1,(J.put id ⟨ob.ty,sz,rows⟩).objs o=some ob1->∃x,J.objs o=some x:=by
   intro o ob1 h
   by_cases e:o=id
   .subst e;exact⟨ob,ho⟩
   .exact⟨ob1,by simpa [AHeap.put,e] using h⟩
  obtain⟨x,hx⟩:=f o _ h1
  obtain⟨y,hy⟩:=f o' _ h2
  exact hR.inj o o' b s s' x y hx hy h3 h4 p1 p2
 .by_cases e:o=id
  .subst e
   left
   simp[AHeap.put] at h
   subst h
   rw[hC]
   exact⟨_,_,rfl,fun e=>by omega,fun _=>⟨rfl,h0,arr,hnew,hlen,hrel.mono he⟩⟩
  .right
   have h':J.objs o=some ob':=by simpa [AHeap.put,e] using h
   refine⟨h',rfl,fun k s hk hs0=>hold k ?_⟩
   rintro rfl
   exact e (hR.inj o id k s sz ob' ob h' ho hk hC hs0 hsz)

theorem R0.drew {G C J w}(hR:R0 G C J w)(N:Nat->Prop)(k:Nat):R0 G C J {w with drawn:=k}/\Ext0 N C J w C J {w with drawn:=k}:=by
 have he:Ext0 N C J w C J {w with drawn:=k}:=⟨fun o _=>⟨rfl,id⟩,fun o x hx=>hx,⟨rfl,rfl,rfl,Nat.le_refl _,fun _ _ _=>rfl,fun b arr T h=>⟨arr,h,rfl⟩⟩,fun b hb=>.inl hb,Nat.le_refl _⟩
 exact⟨hR.next he hR.ids hR.inj fun o ob h=>.inr ⟨h,rfl,fun _ _ _ _=>rfl⟩,he⟩

end Go.Abs
