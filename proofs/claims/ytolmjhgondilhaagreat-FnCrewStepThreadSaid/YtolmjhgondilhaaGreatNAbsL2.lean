/- What the lower heap needs: more names, objects let go, cells read otherwise. -/
import Derived.Test.YtolmjhgondilhaaGreatNAbsL1
set_option linter.unusedSimpArgs false
set_option linter.unusedVariables false
namespace Go.Abs
open Go Go.RowKit

def AHeap.bump (J:AHeap)(k:Nat):AHeap:={J with next:=J.next+k}

theorem R0.bump {G C J w}(hR:R0 G C J w)(k:Nat)(K:Nat->Prop):R0 G C (J.bump k) w/\Ext0 K C J w C (J.bump k) w/\(∀j,j<k->(J.bump k).objs (J.next+j)=none/\C (J.next+j)=none):=by
 have he:Ext0 K C J w C (J.bump k) w:=⟨fun o _=>⟨rfl,id⟩,fun o x hx=>hx,Fr.refl _ _,fun b hb=>.inl hb,by simp[AHeap.bump]⟩
 refine⟨hR.next he (fun o ho=>hR.ids o (Nat.le_trans (by simp[AHeap.bump]) ho)) hR.inj fun o ob h=>.inr ⟨h,rfl,fun _ _ _ _=>rfl⟩,he,fun j hj=>hR.ids _ (by omega)⟩

inductive Below (N:Nat):AV->Prop where
 |int {k:IntKind} {n:Int}:Below N (.int k n)
 |bool {b:Bool}:Below N (.bool b)
 |str {s:ByteArray}:Below N (.str s)
 |nilp:Below N .nilp
 |nilsl:Below N .nilsl
 |esl:Below N .esl
 |nilf:Below N .nilf
 |any:Below N .any
 |any1:Below N .any1
 |ptr {o r i:Nat} (h:o<N):Below N (.ptr o r i)
 |sl {o r n:Nat} (h:o<N):Below N (.sl o r n)
 |fptr {cs:List AV} {i:Nat} (h:∀x∈cs,Below N x):Below N (.fptr cs i)
 |fsl {es:List (List AV)} (h:∀e∈es,∀x∈e,Below N x):Below N (.fsl es)
 |agg {cs:List AV} (h:∀x∈cs,Below N x):Below N (.agg cs)
 |tup {cs:List AV} (h:∀x∈cs,Below N x):Below N (.tup cs)
 |clo {f:FuncId} {fs cs:List AV} (h:∀x∈fs,Below N x) (h':∀x∈cs,Below N x):Below N (.clo f fs cs)

theorem gD {N:Nat}{cs:List AV}{vs:Array Value}(hl:cs.length=vs.size)(h:∀(i:Nat) (x:AV) (u:Value),cs[i]? =some x->vs[i]? =some u->Below N x):∀x∈cs,Below N x:=by
 intro x hx
 obtain⟨i,hi,rfl⟩:=List.getElem_of_mem hx
 have hi':i<vs.size:=by omega
 exact h i _ vs[i] (List.getElem?_eq_getElem hi) (Array.getElem?_eq_getElem hi')

theorem VRel.isBelow {C ow}{w:World}{N:Nat}(hN:∀o y,C o=some y->o<N){x:AV}{v:Value}(h:VRel C ow w x v):Below N x:=by
 induction h with
 |int=>exact .int
 |bool=>exact .bool
 |str=>exact .str
 |nilp=>exact .nilp
 |nilsl=>exact .nilsl
 |esl=>exact .esl
 |nilf=>exact .nilf
 |any=>exact .any
 |any1 _=>exact .any1
 |ptr h=>exact .ptr (hN _ _ h)
 |sl h _ _ _ _ _=>exact .sl (hN _ _ h)
 |sl0 h=>exact .sl (hN _ _ h)
 |sl1 h=>exact .sl (hN _ _ h)
 |fptr vs hone hb hno hcell hv ih=>
  refine .fptr fun x hx=>?_
  obtain⟨i,hi,rfl⟩:=List.getElem_of_mem hx
  exact ih i _ (List.getElem?_eq_getElem hi)
 |fsl0=>exact .fsl (by simp)
 |fsl vs hone hn hb hno h0 hcap hm hlen hcell hv ih=>
  refine .fsl fun e he x hx=>?_
  obtain⟨j,hj,rfl⟩:=List.getElem_of_mem he
  obtain⟨i,hi,rfl⟩:=List.getElem_of_mem hx
  exact ih j _ (List.getElem?_eq_getElem hj) i _ (List.getElem?_eq_getElem hi)
 |agg hl _ ih=>exact .agg (gD hl ih)
 |tup hl _ ih=>exact .tup (gD hl ih)
 |clo hl _ hl' _ ih ih'=>exact .clo (gD hl ih) (gD hl' ih')

theorem VRel.cut {C C':Phi0}{ow ow':Nat->Prop}{w:World}{N:Nat}(hC:∀o,o<N->C' o=C o)(how:∀b,ow' b->ow b){x:AV}{v:Value}(h:VRel C ow w x v):Below N x->VRel C' ow' w x v:=by
 induction h with
 |int=>intro _;exact .int
 |bool=>intro _;exact .bool
 |str=>intro _;exact .str
 |nilp=>intro _;exact .nilp
 |nilsl=>intro _;exact .nilsl
 |esl=>intro _;exact .esl
 |nilf=>intro _;exact .nilf
 |any=>intro _;exact .any
 |any1 h=>intro _;exact .any1 h
 |ptr h=>intro hb;cases hb with|ptr hlt=>exact .ptr ((hC _ hlt).trans h)
 |sl h h1 h2 h3 h4 h5=>
  intro hb
  cases hb with
  |sl hlt=>exact .sl ((hC _ hlt).trans h) h1 h2 h3 h4 h5
 |sl0 h=>intro hb;cases hb with|sl hlt=>exact .sl0 ((hC _ hlt).trans h)
 |sl1 h=>intro hb;cases hb with|sl hlt=>exact .sl1 ((hC _ hlt).trans h)
 |fptr vs hone hb hno hcell hv ih=>intro hB;cases hB with|fptr hB=>exact .fptr vs hone hb (fun h=>hno (how _ h)) hcell fun j x hj=>ih j x hj (hB x (List.mem_of_getElem? hj))
 |fsl0=>intro _;exact .fsl0
 |fsl vs hone hn hb hno h0 hcap hm hlen hcell hv ih=>
  intro hB
  cases hB with
  |fsl hB=>exact .fsl vs hone hn hb (fun h=>hno (how _ h)) h0 hcap hm hlen hcell fun j e hj i x hx=>ih j e hj i x hx (hB e (List.mem_of_getElem? hj) x (List.mem_of_getElem? hx))
 |agg hl _ ih=>intro hB;cases hB with|agg hB=>exact .agg hl fun i x u hx hu=>ih i x u hx hu (hB x (List.mem_of_getElem? hx))
 |tup hl _ ih=>intro hB;cases hB with|tup hB=>exact .tup hl fun i x u hx hu=>ih i x u hx hu (hB x (List.mem_of_getElem? hx))
 |clo hl _ hl' _ ih ih'=>
  intro hB
  cases hB with
  |clo hB hB'=>exact .clo hl (fun i x u hx hu=>ih i x u hx hu (hB x (List.mem_of_getElem? hx))) hl' fun i x u hx hu=>ih' i x u hx hu (hB' x (List.mem_of_getElem? hx))

theorem reset0 {G C J w C' J' w'}(hR:R0 G C J w)(hR':R0 G C' J' w')(he:Ext0 (·<J.next) C J w C' J' w')(hobj:∀o,o<J.next->J'.objs o=J.objs o){x:AV}{v:Value}(hx:VRel C' (own0 C' J') w' x v)(hb:Below J.next x):
  ∃C'',R0 G C'' J w'/\Ext0 (·<J.next) C J w C'' J w'/\VRel C'' (own0 C'' J) w' x v:=by
 have hlt:∀o y,C o=some y->o<J.next:=by
  intro o y h
  rcases Nat.lt_or_ge o J.next with h1|h1
  .exact h1
  .rw[(hR.ids o h1).2] at h;cases h
 let C'':Phi0:=fun o=>if o<J.next then C' o else none
 have hC:∀o,o<J.next->C'' o=C' o:=fun o h=>by simp[C'',h]
 have hsome:∀o y,C'' o=some y->o<J.next/\C' o=some y:=by
  intro o y h
  by_cases h1:o<J.next
  .exact⟨h1,by simpa [C'',h1] using h⟩
  .simp[C'',h1] at h
 have hlive:∀o ob,J.objs o=some ob->o<J.next:=by
  intro o ob h
  rcases Nat.lt_or_ge o J.next with h1|h1
  .exact h1
  .rw[(hR.ids o h1).1] at h;cases h
 have how:∀b,own0 C'' J b->own0 C' J' b:=by
  rintro b ⟨o,ob,sz,h1,h2,h3⟩
  exact⟨o,ob,sz,by rw[hobj o (hlive o ob h1)];exact h1,(hsome _ _ h2).2,h3⟩
 have cutx:∀{y:AV} {u:Value},VRel C' (own0 C' J') w' y u->Below J.next y->VRel C'' (own0 C'' J) w' y u:=fun h1 h2=>h1.cut hC how h2
 have hExt:Ext0 (·<J.next) C J w C'' J w':=by
  refine⟨fun o ho=>⟨(hC o ho).trans (he.keep o ho).1,fun h=>h⟩,fun o y h=>?_,he.fr,fun b hb=>he.new b (how b hb),Nat.le_refl _⟩
  rw[hC o (hlt o y h)]
  exact he.sub o y h
 refine⟨C'',⟨fun o ho=>⟨(hR.ids o ho).1,by simp[C''];intro h;have:J.next<=o:=ho;omega⟩,fun o ob h=>?_,fun o o' b s s' ob ob' h1 h2 h3 h4 p1 p2=>?_,fun g cs hg=>?_⟩,hExt,cutx hx hb⟩
 .have h1:=hR'.obj o ob (by rw[hobj o (hlive o ob h)];exact h)
  obtain⟨b,sz,e1,e2,e3⟩:=h1
  refine⟨b,sz,by rw[hC o (hlive o ob h)];exact e1,e2,fun h0=>?_⟩
  obtain⟨c1,c2,arr,c3,c4,c5⟩:=e3 h0
  refine⟨c1,c2,arr,c3,c4,fun r e hr=>⟨(c5 r e hr).1,fun i y hy=>?_⟩⟩
  obtain⟨d1,u,d2,d3⟩:=(c5 r e hr).2 i y hy
  refine⟨d1,u,d2,cutx d3 ?_⟩
  have hold:=hR.obj o ob h
  obtain⟨b0,sz0,f1,f2,f3⟩:=hold
  have hsz0:0<sz0:=by
   rcases Nat.eq_zero_or_pos sz0 with e|e
   .rw[f2 e] at hr;simp at hr
   .exact e
  obtain⟨_,_,_,_,_,g5⟩:=f3 hsz0
  obtain⟨_,u0,_,g6⟩:=(g5 r e hr).2 i y hy
  exact g6.isBelow hlt
 .exact hR'.inj o o' b s s' ob ob' (by rw[hobj o (hlive o ob h1)];exact h1) (by rw[hobj o' (hlive o' ob' h2)];exact h2) (hsome _ _ h3).2 (hsome _ _ h4).2 p1 p2
 .exact(hR.glob g cs hg).mono hExt

theorem Below.le {x:AV}{N:Nat}(h:Below 0 x):Below N x:=by
 induction h with
 |int=>exact .int
 |bool=>exact .bool
 |str=>exact .str
 |nilp=>exact .nilp
 |nilsl=>exact .nilsl
 |esl=>exact .esl
 |nilf=>exact .nilf
 |any=>exact .any
 |any1=>exact .any1
 |ptr h=>omega
 |sl h=>omega
 |fptr _ ih=>exact .fptr ih
 |fsl _ ih=>exact .fsl ih
 |agg _ ih=>exact .agg ih
 |tup _ ih=>exact .tup ih
 |clo _ _ ih ih'=>exact .clo ih ih'

def AHeap.cut (J:AHeap)(D:Nat->Bool):AHeap:={J with objs:=fun o=>if D o then none else J.objs o}

theorem R0.cut {G C J w}(hR:R0 G C J w)(D:Nat->Bool)(N:Nat->Prop):R0 G C (J.cut D) w/\Ext0 N C J w C (J.cut D) w:=by
 have he:Ext0 N C J w C (J.cut D) w:=by
  refine⟨fun o _=>⟨rfl,fun h=>by simp only[AHeap.cut];split<;>simp_all⟩,fun o x hx=>hx,Fr.refl _ _,fun b hb=>?_,Nat.le_refl _⟩
  obtain⟨o,ob,s,h1,h2,h3⟩:=hb
  simp only[AHeap.cut] at h1
  split at h1
  .cases h1
  .exact .inl ⟨o,ob,s,h1,h2,h3⟩
 have hold:∀o ob,(J.cut D).objs o=some ob->J.objs o=some ob:=by
  intro o ob h
  simp only[AHeap.cut] at h
  split at h
  .cases h
  .exact h
 refine⟨hR.next he (fun o hle=>⟨?_,(hR.ids o hle).2⟩) (fun o o' b s s' ob ob' h1 h2 h3 h4 p1 p2=>hR.inj o o' b s s' ob ob' (hold _ _ h1) (hold _ _ h2) h3 h4 p1 p2) (fun o ob h=>.inr ⟨hold _ _ h,rfl,fun _ _ _ _=>rfl⟩),he⟩
 have:=(hR.ids o hle).1
 simp only[AHeap.cut]
 split<;>simp_all

theorem R0.recell {G C J w o ob r row i x y}(N:Nat->Prop)(hR:R0 G C J w)(ho:J.objs o=some ob)(hr:ob.rows[r]? =some row)(hi:row[i]? =some x)(hy:y.one=true)
  (hxy:∀v,VRel C (own0 C J) w x v->VRel C (own0 C J) w y v):R0 G C (J.put o ⟨ob.ty,ob.sz,ob.rows.set r (row.set i y)⟩) w/\Ext0 N C J w C (J.put o ⟨ob.ty,ob.sz,ob.rows.set r (row.set i y)⟩) w:=by
 have howns:∀k,own0 C (J.put o ⟨ob.ty,ob.sz,ob.rows.set r (row.set i y)⟩) k<->own0 C J k:=by
  intro k
  constructor
  .rintro⟨o',ob',s,h1,h2,h3⟩
   by_cases e:o'=o
   .subst e;exact⟨o',ob,s,ho,h2,h3⟩
   .exact⟨o',ob',s,by simpa [AHeap.put,e] using h1,h2,h3⟩
  .rintro⟨o',ob',s,h1,h2,h3⟩
   by_cases e:o'=o
   .subst e;exact⟨o',_,s,by simp[AHeap.put];rfl,h2,h3⟩
   .exact⟨o',ob',s,by simpa [AHeap.put,e] using h1,h2,h3⟩
 have he:Ext0 N C J w C (J.put o ⟨ob.ty,ob.sz,ob.rows.set r (row.set i y)⟩) w:=by
  refine⟨fun k _=>⟨rfl,fun h=>?_⟩,fun k x hx=>hx,Fr.refl _ _,fun k hk=>.inl ((howns k).1 hk),Nat.le_refl _⟩
  have:k≠o:=by rintro rfl;rw[ho] at h;cases h
  simp[AHeap.put,this,h]
 refine⟨hR.next he (fun k hle=>?_) (fun k k' b s s' ob1 ob2 h1 h2 h3 h4 p1 p2=>?_) (fun k ob' h=>?_),he⟩
 .have:k≠o:=by rintro rfl;rw[(hR.ids k hle).1] at ho;cases ho
  exact⟨by simp[AHeap.put,this,(hR.ids k hle).1],(hR.ids k hle).2⟩
 .have f:∀k ob1,(J.put o ⟨ob.ty,ob.sz,ob.rows.set r (row.set i y)⟩).objs k=some ob1->∃x,J.objs k=some x:=by
   intro k ob1 h
   by_cases e:k=o
   .subst e;exact⟨ob,ho⟩
   .exact⟨ob1,by simpa [AHeap.put,e] using h⟩
  obtain⟨x1,hx1⟩:=f k _ h1
  obtain⟨y1,hy1⟩:=f k' _ h2
  exact hR.inj k k' b s s' x1 y1 hx1 hy1 h3 h4 p1 p2
 .by_cases e:k=o
  .subst e
   left
   simp[AHeap.put] at h
   subst h
   obtain⟨b,sz,g1,g2,g3⟩:=hR.obj k ob ho
   refine⟨b,sz,g1,fun e=>by have:=g2 e;rw[this] at hr;simp at hr,fun h0=>?_⟩
   obtain⟨c1,c2,arr,c3,c4,c5⟩:=g3 h0
   refine⟨c1,c2,arr,c3,by simpa using c4,fun r' e' hr'=>?_⟩
   rw[List.getElem?_set] at hr'
   split at hr'
   .rename_i hrr
    subst hrr
    split at hr'
    .cases hr'
     obtain⟨d1,d2⟩:=c5 r row hr
     refine⟨by simpa using d1,fun i' z hz=>?_⟩
     rw[List.getElem?_set] at hz
     split at hz
     .rename_i hii
      subst hii
      split at hz
      .cases hz
       obtain⟨d3,v,d4,d5⟩:=d2 i x hi
       exact⟨hy,v,d4,(hxy v d5).mono he⟩
      .cases hz
     .obtain⟨d3,v,d4,d5⟩:=d2 i' z hz
      exact⟨d3,v,d4,d5.mono he⟩
    .cases hr'
   .obtain⟨d1,d2⟩:=c5 r' e' hr'
    refine⟨d1,fun i' z hz=>?_⟩
    obtain⟨d3,v,d4,d5⟩:=d2 i' z hz
    exact⟨d3,v,d4,d5.mono he⟩
  .right
   exact⟨by simpa [AHeap.put,e] using h,rfl,fun _ _ _ _=>rfl⟩

theorem vnil_sl {C ow w x g}(hx:x=.nilsl\/x=.esl)(hg:C g=some (0,0)){v:Value}(h:VRel C ow w x v):VRel C ow w (.sl g 0 0) v:=by
 rcases hx with rfl|rfl<;>cases h<;>exact .sl0 hg
theorem vsl_ren {C ow w d g n}(hg:C g=C d){v:Value}(h:VRel C ow w (.sl d 0 n) v):VRel C ow w (.sl g 0 n) v:=by
 cases h with
 |sl h1 h2 h3 h4 h5 h6=>exact .sl (hg.trans h1) h2 h3 h4 h5 h6
 |sl0 h1=>exact .sl0 (hg.trans h1)

end Go.Abs

/- The state that a walk speaks of: the upper heap; what stands below it goes with the names. -/
set_option linter.unusedSimpArgs false
set_option linter.unusedVariables false
namespace Go.Abs
open Go Go.RowKit

structure Phi where
 nm:Phi0
 fl:AHeap
 fr:Nat->Prop
instance:Coe Phi Phi0:=⟨Phi.nm⟩

def own (C:Phi)(_:AHeap):Nat->Prop:=own0 C.nm C.fl

structure R (G:Globs) (C:Phi) (J:AHeap) (w:World):Prop where
 base:R0 G C.nm C.fl w
 lift:Lift J C.fl C.fr

structure Ext (N:Nat->Prop) (C:Phi) (J:AHeap) (w:World) (C':Phi) (J':AHeap) (w':World):Prop where
 base:Ext0 N C.nm C.fl w C'.nm C'.fl w'
 frk:∀d,C.fr d->C'.fr d/\C'.fl.objs d=C.fl.objs d
 nx:J.next<=J'.next

theorem R.nxt {G C J w}(hR:R G C J w):C.fl.next=J.next:=hR.lift.1
theorem R.ids {G C J w}(hR:R G C J w):∀o,J.next<=o->J.objs o=none/\C.nm o=none:=fun o h=>by
 have:=hR.base.ids o (by rw[hR.nxt];exact h)
 exact⟨hR.lift.gone this.1,this.2⟩
theorem R.drew {G C J w}(hR:R G C J w)(N:Nat->Prop)(k:Nat):R G C J {w with drawn:=k}/\Ext N C J w C J {w with drawn:=k}:=by
 obtain⟨h1,h2⟩:=hR.base.drew N k
 exact⟨⟨h1,hR.lift⟩,⟨h2,fun d hd=>⟨hd,rfl⟩,Nat.le_refl _⟩⟩
theorem R.glob {G C J w}(hR:R G C J w):∀g cs,G g=some cs->VRel C (own C J) w (.fptr cs 0) (.pointer (some ⟨g,0,none⟩)):=hR.base.glob

theorem Ext.fr {N C J w C' J' w'}(h:Ext N C J w C' J' w'):Fr (own C J) w w':=h.base.fr
theorem Ext.refl (N:Nat->Prop)(C:Phi)(J:AHeap)(w:World):Ext N C J w C J w:=⟨Ext0.refl _ _ _ _,fun _ h=>⟨h,rfl⟩,Nat.le_refl _⟩
theorem Ext.le {N M C J w C1 J1 w1}(h:Ext N C J w C1 J1 w1)(hM:∀o,M o->N o):Ext M C J w C1 J1 w1:=⟨h.base.le hM,h.frk,h.nx⟩
theorem Ext.trans {N C J w C1 J1 w1 C2 J2 w2}(h:Ext N C J w C1 J1 w1)(k:Ext N C1 J1 w1 C2 J2 w2):Ext N C J w C2 J2 w2:=
 ⟨h.base.trans k.base,fun d hd=>⟨(k.frk d (h.frk d hd).1).1,(k.frk d (h.frk d hd).1).2.trans (h.frk d hd).2⟩,Nat.le_trans h.nx k.nx⟩
structure ARel (C:Phi) (J:AHeap) (w:World) (n:Nat) (a:AAct) (ca:Act):Prop where
 size:ca.tmps.size=n
 defers:ca.defers=[]
 rel:∀t,VRel C (own C J) w (a.get t) (ca.tmps.getD t undef)
theorem ARel.base {C J w n a ca}(h:ARel C J w n a ca):ARel0 C.nm C.fl w n a ca:=⟨h.size,h.defers,h.rel⟩
theorem ARel.of {C:Phi}{J w n a ca}(h:ARel0 C.nm C.fl w n a ca):ARel C J w n a ca:=⟨h.size,h.defers,h.rel⟩
theorem ARel.mono {C C':Phi}{N:Nat->Prop}{J J':AHeap}{w w':World}{n a ca}(he:Ext N C J w C' J' w')(h:ARel C J w n a ca):ARel C' J' w' n a ca:=.of (h.base.mono he.base)
theorem ARel.put {C:Phi}{J:AHeap}{w:World}{n a ca}(h:ARel C J w n a ca){d:Option Nat}(hd:∀x,d=some x->x<n){v:AV}{cv:Value}
  (hv:VRel C (own C J) w v cv):ARel C J w n (a.put d v) (ca.put d cv):=.of (h.base.put hd hv)
theorem ARel.keep {C:Phi}{J:AHeap}{w:World}{n a ca}(h:ARel C J w n a ca)(l:List Nat):ARel C J w n (a.keep l) ca:=.of (h.base.keep l)

theorem ev_rel {G C J w n a ca}(hR:R G C J w)(hA:ARel C J w n a ca)(x:Operand)(h:ev G a x≠.bad):VRel C (own C J) w (ev G a x) (ca.eval x):=ev_rel0 hR.base hA.base x h
theorem evs_rel {G C J w n a ca}(hR:R G C J w)(hA:ARel C J w n a ca)(xs:Array Operand)(h:(xs.toList.map (ev G a)).all AV.good=true):ArgsRel C (own C J) w (xs.toList.map (ev G a)) (xs.map ca.eval):=evs_rel0 hR.base hA.base xs h

def HPost (G:Globs)(id:Nat)(C:Phi)(J:AHeap)(w:World)(v:AV)(J':AHeap)(cv:Value)(w':World):Prop:=
 ∃C',R G C' J' w'/\Ext (·≠id) C J w C' J' w'/\VRel C' (own C' J') w' v cv

theorem stepO_next {T G alt id o a J v J'}(h:stepO T G alt id o a J=.val v J'):J'.next=J.next:=by
 have ofO:∀{x:Option (AV×AHeap)},St.ofO x=.val v J'->(∀v J',x=some (v,J')->J'.next=J.next)->J'.next=J.next:=by
  intro x h1 h2
  cases x with
  |none=>cases h1
  |some p=>obtain⟨v',J1⟩:=p;cases h1;exact h2 _ _ rfl
 have ofV:∀{x:Option AV},St.ofV x J=.val v J'->J'.next=J.next:=by
  intro x h1
  cases x with
  |none=>cases h1
  |some p=>cases h1;rfl
 have new:∀(ty:TypeId) (cs:List AV) (v:AV) (J':AHeap),newA ty alt id cs J=(v,J')->J'.next=J.next:=by
  intro ty cs v J' hq
  unfold newA at hq
  cases alt<;>(cases hq;rfl)
 unfold stepO at h
 split at h
 .refine ofO h fun v J' hq=>?_
  unfold mX at hq
  split at hq
  .split at hq
   .exact new _ _ _ _ (Option.some.inj hq)
   .cases hq
  .cases hq
 .refine ofO h fun v J' hq=>?_
  unfold boxA at hq
  split at hq
  .exact new _ _ _ _ (Option.some.inj hq)
  .cases hq
 .exact ofV h
 .refine ofO h fun v J' hq=>?_
  split at hq
  .unfold bsA at hq
   split at hq
   .rename_i e hk
    cases he:T e with
    |none=>simp[he] at hq
    |some ti=>
    simp only[he,Option.bind_some] at hq
    split at hq
    .cases alt
     .simp only[Bool.false_eq_true,if_false] at hq;cases hq;rfl
     .simp only[if_true] at hq;cases hq;rfl
    .cases hq
   .cases hq
  .cases hq
 .split at h
  .rename_i J1 hs
   cases h
   split at hs
   .unfold qO at hs
    split at hs
    .rename_i ti o' r i _ _
     cases ho:J.objs o' with
     |none=>simp[ho] at hs
     |some ob=>
     simp only[ho,Option.bind_some] at hs
     cases hr:ob.rows[r]? with
     |none=>simp[hr] at hs
     |some row=>
     simp only[hr,Option.bind_some] at hs
     split at hs
     .cases hs;rfl
     .cases hs
    .cases hs
   .cases hs
  .cases h
 .refine ofO h fun v J' hq=>?_
  unfold makeA at hq
  split at hq
  .rename_i e k n k' m hk _ _
   cases he:T e with
   |none=>simp[he] at hq
   |some ti=>
   simp only[he,Option.bind_some] at hq
   split at hq
   .cases alt
    .simp only[Bool.false_eq_true,if_false] at hq;cases hq;rfl
    .simp only[if_true] at hq;cases hq;rfl
   .cases hq
  .cases hq
 .exact ofV h
 .split at h
  .split at h
   .refine ofO h fun v J' hq=>?_
    cases alt
    .simp only[Bool.false_eq_true,if_false] at hq
     unfold kF at hq
     split at hq
     case h_2=>cases hq
     rename_i e hk
     cases he:T e with
     |none=>simp[he] at hq
     |some ti=>
     rename_i s x _ _ _ _ _ _
     simp only[he,Option.bind_some] at hq
     cases hE:srcA ti J (ev G a x) with
     |none=>simp[hE] at hq
     |some E=>
     simp only[hE,Option.bind_some] at hq
     split at hq
     .rename_i o n _
      cases ho:J.objs o with
      |none=>simp[ho] at hq
      |some ob=>
      simp only[ho,Option.bind_some] at hq
      split at hq
      .cases hq;rfl
      .cases hq
     .split at hq
      .cases hq;rfl
      .cases hq
     .split at hq
      .cases hq;rfl
      .cases hq
     .cases hq
    .simp only[if_true] at hq
     have:∀{s x v J'} {t:TypeId},jM T t s x J=some (v,J')->J'.next=J.next:=by
      intro s x v J' t hq
      unfold jM at hq
      split at hq
      case h_2=>cases hq
      rename_i e hk
      cases he:T e with
      |none=>simp[he] at hq
      |some ti=>
      simp only[he,Option.bind_some] at hq
      cases hE:srcA ti J x with
      |none=>simp[hE] at hq
      |some E=>
      simp only[hE,Option.bind_some] at hq
      split at hq
      .cases hq;rfl
      .cases hq
     exact this hq
   .split at h
    .cases h
    .refine ofO h fun v J' hq=>?_
     unfold wV at hq
     split at hq
     case h_2=>cases hq
     rename_i e ku kx m hk hku _
     cases he:T e with
     |none=>simp[he] at hq
     |some ti=>
     simp only[he,Option.bind_some] at hq
     split at hq
     case isFalse=>cases hq
     split at hq
     .rename_i o n _
      cases ho:J.objs o with
      |none=>simp[ho] at hq
      |some ob=>
      simp only[ho,Option.bind_some] at hq
      split at hq
      .cases hq;rfl
      .cases hq
     .split at hq
      .cases hq;rfl
      .cases hq
     .split at hq
      .cases hq;rfl
      .cases hq
     .cases hq
  .cases h
 .unfold callA at h
  split at h
  .split at h<;>cases h
  .cases h
 .cases alt
  .simp only[Bool.false_eq_true,if_false] at h;exact ofV h
  .simp only[if_true] at h
   refine ofO h fun v J' hq=>?_
   unfold nilA at hq
   split at hq
   .rename_i e _ _
    cases he:T e with
    |none=>simp[he] at hq
    |some ti=>
    simp only[he,Option.map_some] at hq
    cases hq;rfl
   .cases hq
 .exact ofV h

theorem stepO_val {P T G C J w n a ca alt id o v J'}(hT:TOk P T)(hR:R G C J w)(hA:ARel C J w n a ca)(hid:id<J.next)(ho:C.fl.objs id=none)(hC:C.nm id=none)
  (h:stepO T G alt id o a J=.val v J'):
  ∃cv w',((execOp ca.eval o).run P w=.ok (.value cv) w'\/((execOp ca.eval o).run P w=.ok .skip w'/\cv=undef))/\HPost G id C J w v J' cv w':=by
 obtain⟨J0',g1,g2,g3⟩:=stepO_lift hR.lift ho h
 obtain⟨cv,w',k1,C',k2,k3,k4⟩:=stepO_val0 (P:=P) hT hR.base hA.base (by rw[hR.nxt];exact hid) ho hC g1
 exact⟨cv,w',k1,⟨C',J0',C.fr⟩,⟨k2,g2⟩,⟨k3,fun d hd=>⟨hd,g3 d hd⟩,Nat.le_of_eq (stepO_next h).symm⟩,k4⟩

def mZ (P:Program)(f:FuncId):Prop:=∃fn,P.funcs[f]? =some fn/\(fn.name== "runtime.NumGoroutine")=false/\fn.body.isNone=false

def RetPost (G:Globs)(C:Phi)(J:AHeap)(w:World)(Q:AV->AHeap->Prop)(e:Ending)(w':World):Prop:=
 ∃v r C' J',e=.returned v/\Q r J'/\R G C' J' w'/\Ext (·<J.next) C J w C' J' w'/\VRel C' (own C' J') w' r v

def ACalls (P:Program)(G:Globs)(f:FuncId)(args:List AV)(J:AHeap)(Q:AV->AHeap->Prop):Prop:=
 mZ P f/\∀C w vs,R G C J w->ArgsRel C (own C J) w args vs->Calls P f vs w (RetPost G C J w Q)

theorem ACalls.mono {P G f args J Q Q'}(h:ACalls P G f args J Q)(hq:∀r J',Q r J'->Q' r J'):ACalls P G f args J Q':=
 ⟨h.1,fun C w vs h1 h2=>(h.2 C w vs h1 h2).mono fun e w' ⟨v,r,C',J',a1,a2,a3⟩=>⟨v,r,C',J',a1,hq _ _ a2,a3⟩⟩

def dstOk (n:Nat):Option Nat->Bool
 |some d=>decide (d<n)
 |none=>true

def AOps (P:Program)(T:Types)(G:Globs)(n:Nat)(alts:List Nat)(ds:List (Option Nat))(base:Nat)(Q:AAct->AHeap->Prop):Nat->List Oper->AAct->AHeap->Prop
 |_,[],a,J=>Q a J
 |i,o::l,a,J=>
  dstOk n o.dst=true/\
  match o.guard with
  |none=>
   (match stepO T G (alts.contains i) (base+i) o a J with
    |.val v J'=>AOps P T G n alts ds base Q (i+1) l (a.put o.dst v) J'
    |.call f args=>ACalls P G f args J fun r J'=>AOps P T G n alts ds base Q (i+1) l (a.put o.dst r) J'
    |.bad=>False)
  |some (j,want)=>
   match ds[j]? with
   |some (some t)=>(match a.get t with
    |.bool b=>
     (b=want->match stepO T G (alts.contains i) (base+i) o ((t,.bool want)::a) J with
      |.val v J'=>AOps P T G n alts ds base Q (i+1) l (AAct.put ((t,.bool want)::a) o.dst v) J'
      |.call f args=>ACalls P G f args J fun r J'=>AOps P T G n alts ds base Q (i+1) l (AAct.put ((t,.bool want)::a) o.dst r) J'
      |.bad=>False)/\
     (b= !want->AOps P T G n alts ds base Q (i+1) l (AAct.put ((t,.bool (!want))::a) o.dst (.tup [])) J)
    |.tup []=>AOps P T G n alts ds base Q (i+1) l (a.put o.dst (.tup [])) J
    |_=>False)
   |_=>False

def RegPost (G:Globs)(n:Nat)(K:Nat->Prop)(C:Phi)(J:AHeap)(w:World)(Q:AAct->AHeap->Prop)(e:Exit)(ca':Act)(w':World):Prop:=
 e=.normal/\∃C' a' J',Q a' J'/\R G C' J' w'/\ARel C' J' w' n a' ca'/\Ext K C J w C' J' w'

end Go.Abs
