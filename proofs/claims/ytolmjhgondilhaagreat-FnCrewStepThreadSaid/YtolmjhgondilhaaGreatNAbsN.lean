/- A list held against nil. -/
import Derived.Test.YtolmjhgondilhaaGreatNAbsX
import Derived.WalkSpells
import Derived.KernelRfl
set_option linter.unusedSimpArgs false
set_option linter.unusedVariables false
namespace Go.Abs
open Go Go.RowKit

theorem VRel.fsl_shape {C ow}{w:World}{es:List (List AV)}{v:Value}(h:VRel C ow w (.fsl es) v):∃a n cap,v=.slice a n cap/\(a=none->es=[]):=by
 cases h with
 |fsl0=>exact⟨_,_,_,rfl,fun _=>rfl⟩
 |fsl vs _ hn=>exact⟨_,_,_,rfl,fun h=>by cases h⟩

theorem encL_isnil {O:Type}{f:O->List AV}{l:List O}(h:eL f l=[]):l=[]:=by
 cases l with
 |nil=>rfl
 |cons x l=>simp[eL] at h

theorem AWP_isnil {P:Program}{T:Types}(hT:TOk P T){G:Globs}{n N:Nat}{Q:Ex->AAct->AHeap->Prop}{a:AAct}{J:AHeap}{t d1 d2 id:Nat}{ty e tb tm:TypeId}{p1 p2:String}{y:Code}{es:List (List AV)}{edges:Array Edge}
  (l:List Nat) (X:AAct) (hk:T.kind ty=some (.slice e)) (ht:a.get t=.fsl es) (h1:d1<n) (h2:d2<n) (h12:d2≠d1) (hX:∀b,AAct.keep ((d2,.bool b)::(d1,.any)::a) l=(d2,.bool b)::X)
  (k1:es=[]->AWP P G n N y Q ((d2,.bool true)::X) J) (k2:AWP P G n N y Q ((d2,.bool false)::X) J):
  AWP P G n N (.seq (.region id #[⟨some d1,.move (.tmp t),tm,p1, #[],none⟩,⟨some d2,.binOp .eql ty (.tmp d1) (.const (.slice none 0 0)) ty,tb,p2,edges,none⟩] false) y) Q a J:=by
 refine kP ?_
 intro hN C w ca hR hA
 obtain⟨d,hd,hdk⟩:=hT.under hk
 cases d<;>simp[tkOf] at hdk
 subst hdk
 have hv:=hA.rel t
 rw[ht] at hv
 generalize hcv:ca.tmps.getD t undef=cv at hv
 obtain⟨ad,m,cap,rfl,hnil⟩:=hv.fsl_shape
 have hA1:ARel C J w n ((d2,.bool ad.isNone)::(d1,.any)::a) ((ca.put (some d1) (.slice ad m cap)).put (some d2) (.bool ad.isNone)):=
  (hA.put (d:=some d1) (v:=.any) (by rintro x ⟨⟩;exact h1) .any).put (d:=some d2) (v:=.bool ad.isNone) (by rintro x ⟨⟩;exact h2) .bool
 have hA2:=hA1.keep l
 rw[hX] at hA2
 have hw:AWP P G n N y Q ((d2,.bool ad.isNone)::X) J:=by
  cases ad with
  |none=>exact k1 (hnil rfl)
  |some x=>exact k2
 refine wp_region ?_
 have e1:(execOp ca.eval ⟨some d1,.move (.tmp t),tm,p1, #[],none⟩).run P w=.ok (.value (.slice ad m cap)) w:=by
  simp[execOp,Act.eval,hcv]
 have hput:(ca.put (some d1) (.slice ad m cap)).tmps.getD d1 undef=.slice ad m cap:=by
  have hs:d1<ca.tmps.size:=by rw[hA.size];exact h1
  simp[Act.put,hs]
 have e2:(execOp (ca.put (some d1) (.slice ad m cap)).eval ⟨some d2,.binOp .eql ty (.tmp d1) (.const (.slice none 0 0)) ty,tb,p2,edges,none⟩).run P w=.ok (.value (.bool ad.isNone)) w:=by
  simp only[execOp,Act.eval,hput,Sem.run_bind]
  have:=Lib.run_eql_slice_nil (P:=P) w ty _ ad m cap 0 0 hd
  simp[eqGuard,this]
 have hr:List.range (#[(⟨some d1,.move (.tmp t),tm,p1, #[],none⟩:Oper),⟨some d2,.binOp .eql ty (.tmp d1) (.const (.slice none 0 0)) ty,tb,p2,edges,none⟩]:Array Oper).size=[0,1]:=rfl
 rw[hr]
 have fin:CPost G n (·<N) C J w (thenQ (fun a J=>AWP P G n N y Q a J) Q) .normal ((ca.put (some d1) (.slice ad m cap)).put (some d2) (.bool ad.isNone)) w:=
  ⟨.normal,C,_,J,rfl,hw,hR,hA2,Ext.refl _ _ _ _⟩
 simp only[wpOps,List.getElem?_toArray,List.getElem?_cons_zero,List.getElem?_cons_succ,Region.wanted,if_true]
 refine .inl ?_
 unfold Oper.wp
 rw[e1]
 refine .inl ?_
 rw[e2]
 exact fin

end Go.Abs

/- A call that only reads lists that the caller owns, and gives lists that are new and its own. -/
set_option linter.unusedSimpArgs false
set_option linter.unusedVariables false
namespace Go.Abs
open Go Go.RowKit

def AV.simp1:AV->Bool
 |.int _ _|.bool _|.str _|.nilp|.nilsl|.esl|.nilf|.ptr _ _ _|.sl _ _ _|.any1=>true
 |_=>false
def AV.nf:Nat->AV->Bool
 |0,_=>false
 |n+1,.osl _ _ es=>es.all fun e=>e.all (AV.nf n)
 |_+1,x=>x.simp1
def AV.rnf:AV->Bool
 |.tup l=>l.all fun x=>match x with|.agg cs=>cs.all AV.simp1|y=>y.simp1
 |.agg cs=>cs.all AV.simp1
 |x=>x.simp1

theorem VRel.simp1 {C:Phi0}{ow ow':Nat->Prop}{w:World}{x:AV}{v:Value}(h:VRel C ow w x v)(hx:x.simp1=true):VRel C ow' w x v:=by
 cases h with
 |int=>exact .int
 |bool=>exact .bool
 |str=>exact .str
 |nilp=>exact .nilp
 |nilsl=>exact .nilsl
 |esl=>exact .esl
 |nilf=>exact .nilf
 |any1 h=>exact .any1 h
 |ptr h=>exact .ptr h
 |sl h h0 hn hc hw he=>exact .sl h h0 hn hc hw he
 |sl0 h=>exact .sl0 h
 |sl1 h=>exact .sl1 h
 |_=>cases hx
theorem VRel.simpA {C:Phi0}{ow ow':Nat->Prop}{w:World}{cs:List AV}{v:Value}(h:VRel C ow w (.agg cs) v)(hx:cs.all AV.simp1=true):VRel C ow' w (.agg cs) v:=by
 cases h with
 |agg hl hv=>exact .agg hl fun i y u hy hu=>(hv i y u hy hu).simp1 (List.all_eq_true.1 hx y (List.mem_of_getElem? hy))
theorem VRel.rnf {C:Phi0}{ow ow':Nat->Prop}{w:World}{x:AV}{v:Value}(h:VRel C ow w x v)(hx:x.rnf=true):VRel C ow' w x v:=by
 cases x with
 |tup l=>
  cases h with
  |tup hl hv=>
   refine .tup hl fun i y u hy hu=>?_
   have h1:=hv i y u hy hu
   have h2:=List.all_eq_true.1 hx y (List.mem_of_getElem? hy)
   cases y with
   |agg cs=>exact h1.simpA h2
   |_=>exact h1.simp1 h2
 |agg cs=>exact h.simpA hx
 |_=>exact h.simp1 hx

def AV.clean (y:AV):AV:=if y.simp1 then y else .any1
def AObj.clean (ob:AObj):AObj:=⟨ob.ty,ob.sz,ob.rows.map fun e=>e.map AV.clean⟩
theorem AV.clean_eq {y:AV}(h:y.simp1=true):y.clean=y:=by simp[AV.clean,h]

theorem ORel.clean {C:Phi0}{ow ow':Nat->Prop}{w:World}{x:Option (Nat×Nat)}{ob:AObj}(h:ORel C ow w x ob):ORel C ow' w x ob.clean:=by
 obtain⟨b,sz,h1,h2,h3⟩:=h
 refine⟨b,sz,h1,fun h0=>by simp[AObj.clean,h2 h0],fun h0=>?_⟩
 obtain⟨h4,h5,arr,h6,h7,h8⟩:=h3 h0
 refine⟨h4,h5,arr,h6,by simpa [AObj.clean] using h7,fun r e hr=>?_⟩
 simp only[AObj.clean,List.getElem?_map] at hr
 cases hr0:ob.rows[r]? with
 |none=>rw[hr0] at hr;cases hr
 |some e0=>
  rw[hr0] at hr
  cases hr
  obtain⟨h9,h10⟩:=h8 r e0 hr0
  refine⟨by simpa using h9,fun i x hx=>?_⟩
  rw[List.getElem?_map] at hx
  cases hx0:e0[i]? with
  |none=>rw[hx0] at hx;cases hx
  |some y=>
   rw[hx0] at hx
   cases hx
   obtain⟨h11,u,h12,h13⟩:=h10 i y hx0
   cases hs:y.simp1 with
   |true=>rw[AV.clean_eq hs];exact⟨h11,u,h12,h13.simp1 hs⟩
   |false=>simp only[AV.clean,hs];exact⟨rfl,u,h12,.any1 (pN h13 h11)⟩

theorem CL.clean {H H':Nat->Option AObj}{par par':Par}(hm:∀d l,par d=some l->H' d=(H d).map AObj.clean/\par' d=some l)
  (hno:∀(o:Nat) (ob:AObj) (r:Nat) (e:List AV) (i:Nat) (y:AV),H o=some ob->ob.rows[r]? =some e->e[i]? =some y->y.lin1=true):
  ∀{l x y},CL H par l x y->∀n,y.lin1=true->x.nf n=true->CL H' par' l x y/\y.simp1=true:=by
 intro l x y h
 induction h with
 |same l x=>
  intro n hl hn
  refine⟨.same _ _,?_⟩
  cases n with
  |zero=>cases hn
  |succ n=>cases x<;>first|exact hn|cases hl
 |osl0 l ty sz y h=>intro n _ _;exact⟨.osl0 _ _ _ _ h,by rcases h with rfl|rfl<;>rfl⟩
 |osl l ty sz es d rows hd hp hl hlen hc ih=>
  intro n _ hn
  refine⟨?_,rfl⟩
  cases n with
  |zero=>cases hn
  |succ n=>
  obtain⟨h1,h2⟩:=hm d l hp
  have hn:(es.all fun e=>e.all (AV.nf n))=true:=hn
  refine .osl _ ty sz es d (rows.map fun e=>e.map AV.clean) (by rw[h1,hd];rfl) h2 (by simpa using hl) (fun r e e0 q1 q2=>?_) (fun r e e0 i x y q1 q2 q3 q4=>?_)
  .rw[List.getElem?_map] at q2
   cases hr:rows[r]? with
   |none=>rw[hr] at q2;cases q2
   |some e1=>rw[hr] at q2;cases q2;rw[hlen r e e1 q1 hr];simp
  .rw[List.getElem?_map] at q2
   cases hr:rows[r]? with
   |none=>rw[hr] at q2;cases q2
   |some e1=>
    rw[hr] at q2;cases q2
    rw[List.getElem?_map] at q4
    cases hi:e1[i]? with
    |none=>rw[hi] at q4;cases q4
    |some y0=>
     rw[hi] at q4;cases q4
     obtain⟨k1,k2⟩:=ih r e e1 i x y0 q1 hr q3 hi n (hno d _ r e1 i y0 hd hr hi) (List.all_eq_true.1 (List.all_eq_true.1 hn e (List.mem_of_getElem? q1)) x (List.mem_of_getElem? q3))
     rw[AV.clean_eq k2];exact k1

theorem VRel.lin1 {C:Phi0}{ow:Nat->Prop}{w:World}{x:AV}{v:Value}(h:VRel C ow w x v):x.lin1=true:=by
 cases h<;>rfl

theorem borrowO {P G f args ys J}{Q0:AV->AHeap->Prop}(d n:Nat)(h:ACalls P G f ys ⟨E0,J.next⟩ Q0)(hy:args.map (thawA (fun _=>true) J d)=ys)
  (hq:∀r J1,Q0 r J1->r.rnf=true/\∀o ob,J1.objs o=some ob->∀e∈ob.rows,∀x∈e,x.nf n=true):
  ACalls P G f args J fun r J'=>∃J1,Q0 r J1/\(∀o,J.next<=o->J.objs o=none)/\J.next<=J1.next/\J'=⟨fun o=>match J1.objs o with|some x=>some x|none=>J.objs o,J1.next⟩:=by
 classical
 refine⟨h.1,fun C w vs hR hA=>?_⟩
 obtain⟨k1,_⟩:=hR.base.cut (fun _=>true) (fun _=>False)
 obtain⟨C1,g1,g2,g3,g4⟩:=hR.cut (fun _=>true) (fun _=>False)
 have hcut:(J.cut fun _=>true)=⟨E0,J.next⟩:=by simp[AHeap.cut];rfl
 have hA0:ArgsRel C1 (own C1 (J.cut fun _=>true)) w ys vs:=by
  subst hy
  refine⟨by rw[List.length_map];exact hA.1,fun i x u hx hu=>?_⟩
  rw[List.getElem?_map] at hx
  cases h':args[i]? with
  |none=>simp[h'] at hx
  |some y=>simp[h'] at hx;subst hx;exact g4 d y u (hA.2 i y u h' hu)
 let C2:Phi:=⟨C.nm,C.fl.cut fun _=>true,fun _=>False⟩
 have hR2:R G C2 (J.cut fun _=>true) w:=by
  refine⟨k1,by simp[AHeap.cut,C2];exact hR.nxt,fun _=>none,fun o ob ho=>?_,fun d l hd=>?_,fun d hd=>?_⟩
  .simp[AHeap.cut] at ho
  .cases hd
  .exact hd.elim
 have hno:∀b,¬own C2 (J.cut fun _=>true) b:=by
  rintro b ⟨o,ob,s,h1,_⟩
  simp[AHeap.cut,C2] at h1
 have hA':ArgsRel C2 (own C2 (J.cut fun _=>true)) w ys vs:=by
  refine⟨hA0.1,fun i x u hx hu=>?_⟩
  exact(hA0.2 i x u hx hu).mono' (fun o y h=>by rw[g3] at h;exact h) (fun _ _ _=>rfl) (Nat.le_refl _) (fun b arr T h=>⟨arr,h,rfl⟩) fun b _ hb=>absurd hb (hno b)
 rw[hcut] at hR2 hA' hno
 refine(h.2 C2 w vs hR2 hA').mono ?_
 rintro e w' ⟨v,r',C',J1,rfl,hq0,h3,h4,h5⟩
 obtain⟨q1,q2⟩:=hq r' J1 hq0
 have hnm:∀o,o<J.next->C'.nm o=C.nm o:=fun o ho=>(h4.base.keep o ho).1
 have hfl:∀o,o<J.next->C'.fl.objs o=none:=fun o ho=>(h4.base.keep o ho).2 (by simp[C2,AHeap.cut])
 have hold:∀o ob,C.fl.objs o=some ob->o<J.next:=by
  intro o ob ho
  rcases Nat.lt_or_ge o J.next with h|h
  .exact h
  .have:=(hR.base.ids o (by rw[hR.nxt];exact h)).1
   rw[this] at ho;cases ho
 have hnx:J.next<=J1.next:=h4.nx
 have hblk:∀b,b<w.heap.size->w'.heap[b]? =w.heap[b]? :=fun b hb=>h4.fr.blk b hb (hno b)
 have hbig:∀b,own0 C'.nm C'.fl b->w.heap.size<=b:=fun b hb=>(h4.base.new b hb).elim (fun h=>absurd h (hno b)) id
 let fl2:AHeap:=⟨fun o=>match C.fl.objs o with|some x=>some x|none=>(C'.fl.objs o).map AObj.clean,J1.next⟩
 have e_old:∀o ob,C.fl.objs o=some ob->fl2.objs o=some ob:=fun o ob ho=>by simp[fl2,ho]
 have e_new:∀o,C.fl.objs o=none->fl2.objs o=(C'.fl.objs o).map AObj.clean:=fun o ho=>by simp[fl2,ho]
 have hown:∀b,own0 C'.nm fl2 b->own0 C.nm C.fl b\/w.heap.size<=b:=by
  rintro b ⟨o,ob,sz,a1,a2,a3⟩
  cases ho:C.fl.objs o with
  |some x=>exact .inl ⟨o,x,sz,ho,by rw[<- hnm o (hold o x ho)];exact a2,a3⟩
  |none=>
   rw[e_new o ho] at a1
   obtain⟨x,hx,_⟩:=Option.map_eq_some_iff.1 a1
   exact .inr (hbig b ⟨o,x,sz,hx,a2,a3⟩)
 have he:Ext0 (·<J.next) C.nm C.fl w C'.nm fl2 w':=
  ⟨fun o ho=>⟨hnm o ho,fun hn=>by rw[e_new o hn,hfl o ho];rfl⟩,h4.base.sub,⟨h4.fr.os,h4.fr.tape,h4.fr.output,h4.fr.size,fun b hb _=>hblk b hb,h4.fr.shp⟩,hown,by rw[hR.nxt];exact hnx⟩
 have hbk:∀o ob b s,C.fl.objs o=some ob->C.nm o=some (b,s)->0<s->b<w.heap.size:=by
  intro o ob b s ho hb hs
  have hob:=hR.base.obj o ob ho
  rw[hb] at hob
  obtain⟨_,_,arr,hw,_⟩:=hob.get hs
  exact yL hw
 have hids:∀o,fl2.next<=o->fl2.objs o=none/\C'.nm o=none:=by
  intro o ho
  have h6:=h3.ids o ho
  have h7:=h3.base.ids o (by rw[h3.nxt];exact ho)
  refine⟨?_,h6.2⟩
  cases hx:C.fl.objs o with
  |some x=>have:=hold o x hx;have ho:J1.next<=o:=ho;omega
  |none=>rw[e_new o hx,h7.1];rfl
 have hR0:R0 G C'.nm fl2 w':=by
  refine hR.base.next he hids ?_ ?_
  .intro o o' b s s' ob ob' a1 a2 a3 a4 a5 a6
   cases ho:C.fl.objs o with
   |some x=>
    have l1:=hold o x ho
    rw[hnm o l1] at a3
    cases ho':C.fl.objs o' with
    |some x'=>
     rw[hnm o' (hold o' x' ho')] at a4
     exact hR.base.inj o o' b s s' x x' ho ho' a3 a4 a5 a6
    |none=>
     rw[e_new o' ho'] at a2
     obtain⟨x',hx',_⟩:=Option.map_eq_some_iff.1 a2
     have:=hbig b ⟨o',x',s',hx',a4,a6⟩
     have:=hbk o x b s ho a3 a5
     omega
   |none=>
    rw[e_new o ho] at a1
    obtain⟨x,hx,_⟩:=Option.map_eq_some_iff.1 a1
    cases ho':C.fl.objs o' with
    |some x'=>
     rw[hnm o' (hold o' x' ho')] at a4
     have:=hbig b ⟨o,x,s,hx,a3,a5⟩
     have:=hbk o' x' b s' ho' a4 a6
     omega
    |none=>
     rw[e_new o' ho'] at a2
     obtain⟨x',hx',_⟩:=Option.map_eq_some_iff.1 a2
     exact h3.base.inj o o' b s s' x x' hx hx' a3 a4 a5 a6
  .intro o ob ho
   cases hx:C.fl.objs o with
   |some x=>
    rw[e_old o x hx] at ho
    cases ho
    exact .inr ⟨rfl,hnm o (hold o _ hx),fun b sz hb hs=>hblk b (hbk o _ b sz hx hb hs)⟩
   |none=>
    rw[e_new o hx] at ho
    obtain⟨x,hx',rfl⟩:=Option.map_eq_some_iff.1 ho
    exact .inl (h3.base.obj o x hx').clean
 obtain⟨hn0,par,hp⟩:=hR.lift
 obtain⟨hn1,par',hp'⟩:=h3.lift
 have hlin:∀(o:Nat) (ob:AObj) (r:Nat) (e:List AV) (i:Nat) (y:AV),C'.fl.objs o=some ob->ob.rows[r]? =some e->e[i]? =some y->y.lin1=true:=by
  intro o ob r e i y a1 a2 a3
  obtain⟨b,sz,_,b2,b3⟩:=h3.base.obj o ob a1
  rcases Nat.eq_zero_or_pos sz with h0|h0
  .rw[b2 h0] at a2;simp at a2
  .obtain⟨_,_,_,_,_,b4⟩:=b3 h0
   obtain⟨_,u,_,b5⟩:=(b4 r e a2).2 i y a3
   exact b5.lin1
 have hpar:∀dd l,par' dd=some l->J.next<=dd:=by
  intro dd l hd
  rcases Nat.lt_or_ge dd J.next with h|h
  .exact absurd (hfl dd h) (hp'.hid dd l hd).2.1
  .exact h
 have hold0:∀o,J.next<=o->C.fl.objs o=none:=fun o ho=>(hR.base.ids o (by rw[hR.nxt];exact ho)).1
 have hparo:∀dd,J.next<=dd->par dd=none:=by
  intro dd hd
  cases h:par dd with
  |none=>rfl
  |some l=>exact absurd (hold0 dd hd) (hp.hid dd l h).2.1
 have hs1:∀o,o<J.next->J1.objs o=none:=by
  intro o ho
  cases h:J1.objs o with
  |none=>rfl
  |some ob=>obtain⟨rows0,hr,_⟩:=hp'.vis o ob h;rw[hfl o ho] at hr;cases hr
 refine⟨v,r',⟨C'.nm,fl2,C.fr⟩,_,rfl,⟨J1,hq0,fun o ho=>(hR.ids o ho).1,hnx,rfl⟩,⟨hR0,rfl,fun dd=>match par dd with|some l=>some l|none=>par' dd,fun o ob ho=>?_,fun dd l hd=>?_,fun dd hd=>?_⟩,⟨he,fun dd hd=>⟨hd,?_⟩,hnx⟩,h5.rnf q1⟩
 .simp only at ho
  cases h:J1.objs o with
  |some x=>
   rw[h] at ho
   cases ho
   obtain⟨rows0,a1,a2,a3⟩:=hp'.vis o _ h
   have hno':J.next<=o:=by
    rcases Nat.lt_or_ge o J.next with h'|h'
    .rw[hs1 o h'] at h;cases h
    .exact h'
   refine⟨rows0.map fun e=>e.map AV.clean,by rw[e_new o (hold0 o hno'),a1];rfl,by simpa using a2,fun r e e0 b1 b2=>?_⟩
   rw[List.getElem?_map] at b2
   cases hr:rows0[r]? with
   |none=>rw[hr] at b2;cases b2
   |some e1=>
    rw[hr] at b2;cases b2
    refine⟨by rw[(a3 r e e1 b1 hr).1];simp,fun i x y b3 b4=>?_⟩
    rw[List.getElem?_map] at b4
    cases hi:e1[i]? with
    |none=>rw[hi] at b4;cases b4
    |some y0=>
     rw[hi] at b4;cases b4
     obtain⟨c1,c2⟩:=CL.clean (H':=fl2.objs) (par':=fun dd=>match par dd with|some l=>some l|none=>par' dd)
      (fun dd l hd=>⟨e_new dd (hold0 dd (hpar dd l hd)),by simp[hparo dd (hpar dd l hd),hd]⟩) hlin ((a3 r e e1 b1 hr).2 i x y0 b3 hi) n (hlin o _ r e1 i y0 a1 hr hi)
      (q2 o _ h e (List.mem_of_getElem? b1) x (List.mem_of_getElem? b3))
     rw[AV.clean_eq c2];exact c1
  |none=>
   rw[h] at ho
   obtain⟨rows0,a1,a2⟩:=hp.vis o ob ho
   refine⟨rows0,e_old o _ a1,a2.mono fun dd l hd=>⟨?_,by simp[hd]⟩⟩
   have:=(hp.hid dd l hd).2.1
   cases hx:C.fl.objs dd with
   |none=>exact absurd hx this
   |some x=>rw[e_old dd x hx]
 .try simp only at hd
  cases h:par dd with
  |some l'=>
   rw[h] at hd
   cases hd
   obtain⟨a1,a2,a3⟩:=hp.hid dd _ h
   cases hx:C.fl.objs dd with
   |none=>exact absurd hx a2
   |some x=>exact⟨by simp only[hs1 dd (hold dd x hx),a1],by rw[e_old dd x hx];simp,a3⟩
  |none=>
   rw[h] at hd
   obtain⟨a1,a2,a3⟩:=hp'.hid dd l hd
   have hg:=hpar dd l hd
   refine⟨by simp only[a1];exact(hR.ids dd hg).1,?_,fun hf=>absurd (hold0 dd hg) (hp.frs dd hf).2⟩
   rw[e_new dd (hold0 dd hg)]
   cases hx:C'.fl.objs dd with
   |none=>exact absurd hx a2
   |some x=>simp
 .obtain⟨a1,a2⟩:=hp.frs dd hd
  cases hx:C.fl.objs dd with
  |none=>exact absurd hx a2
  |some x=>exact⟨by simp only[hs1 dd (hold dd x hx),a1],by rw[e_old dd x hx];simp⟩
 .cases hx:C.fl.objs dd with
  |none=>exact absurd hx (hp.frs dd hd).2
  |some x=>rw[e_old dd x hx]
theorem hp_merge {B:Nat->Option AObj}{L:OL}{M:Nat}(h:∀p∈L,p.2≠none):(⟨fun o=>match(hp E0 L M).objs o with|some x=>some x|none=>B o,(hp E0 L M).next⟩:AHeap)=hp B L M:=by
 simp only[hp,AHeap.mk.injEq,and_true]
 funext o
 induction L with
 |nil=>rfl
 |cons p L ih=>
  obtain⟨i,x⟩:=p
  simp only[lk]
  by_cases e:o=i
  .rw[if_pos e,if_pos e]
   cases x with
   |none=>exact absurd rfl (h (i,none) (by simp))
   |some x=>rfl
  .rw[if_neg e,if_neg e]
   exact ih fun p hp=>h p (by simp[hp])
def OL.nf (n:Nat)(L:OL):Prop:=∀p∈L,∀ob,p.2=some ob->(ob.rows.all fun e=>e.all (AV.nf n))=true
theorem OL.nf_at {n:Nat}{L:OL}{M:Nat}(h:OL.nf n L):∀o ob,(hp E0 L M).objs o=some ob->∀e∈ob.rows,∀x∈e,x.nf n=true:=by
 intro o ob ho
 induction L with
 |nil=>cases ho
 |cons p L ih=>
  obtain⟨i,x⟩:=p
  simp only[hp_objs,lk] at ho
  by_cases e:o=i
  .rw[if_pos e] at ho
   subst ho
   have:=h (i,some ob) (by simp) ob rfl
   intro e' he x hx
   exact List.all_eq_true.1 (List.all_eq_true.1 this e' he) x hx
  .rw[if_neg e] at ho
   exact ih (fun p hp=>h p (by simp[hp])) ho
theorem encL_nf {O:Type}{f:O->List AV}{n:Nat}(h:∀x,((f x).all (AV.nf n))=true)(l:List O):((eL f l).all fun e=>e.all (AV.nf n))=true:=by
 rw[List.all_eq_true]
 intro e he
 obtain⟨x,_,rfl⟩:=List.mem_map.1 he
 exact h x
theorem borrowQ {P G f args ys J}{Q0 Q:AV->AHeap->Prop}(d n:Nat)(h:ACalls P G f ys ⟨E0,J.next⟩ Q0)(hy:args.map (thawA (fun _=>true) J d)=ys)
  (hq:∀r J1,Q0 r J1->∃L M,J1=hp E0 L M/\r.rnf=true/\OL.nf n L/\(∀p∈L,p.2≠none)/\Q r (hp J.objs L M)):ACalls P G f args J Q:=by
 refine(borrowO d n h hy fun r J1 h1=>?_).mono ?_
 .obtain⟨L,M,rfl,h2,h3,h4,h5⟩:=hq r J1 h1
  exact⟨h2,OL.nf_at h3⟩
 .rintro r J' ⟨J1,h1,_,_,rfl⟩
  obtain⟨L,M,rfl,h2,h3,h4,h5⟩:=hq r J1 h1
  rw[hp_merge h4];exact h5

end Go.Abs

/- Rows that own lists: put behind a list, made of zeros. -/
set_option linter.unusedSimpArgs false
set_option linter.unusedVariables false
namespace Go.Abs
open Go Go.RowKit

theorem aprA_sl {T:Types}{t e:TypeId}{ti:TI}(h:T.kind t=some (.slice e))(he:T e=some ti)(h0:0<ti.sz){O:Type}{f:O->List AV}{l r:List O}{v:O}(hv:appx ti.bytes l [v]=some r){J:AHeap}{o:Nat}{x:AV}{c:List AV}(id:Nat)
    (ho:J.objs o=some ⟨e,ti.sz,eL f l⟩) (hx:srcA ti J x=some [c]):kF T t id (.sl o 0 l.length) x J=some (.sl id 0 r.length,(J.kill o).put id ⟨e,ti.sz,eL f l++[c]⟩):=by
  obtain⟨⟨h1,h2⟩,rfl⟩:=appx_iff.1 hv
  simp only[List.length_cons,List.length_nil,Nat.zero_add] at h1 h2
  unfold kF
  rw[h]
  simp[he,hx,ho,h0,h1,h2]
theorem app_get {O:Type}(f:O->List AV)(l:List O)(c:List AV):(eL f l++[c])[l.length]? =some c:=by
  rw[List.getElem?_append_right (by simp)];simp
theorem fD {O:Type}(f:O->List AV)(l:List O)(c c':List AV):(eL f l++[c]).set l.length c'=eL f l++[c']:=by
  rw[List.set_append_right _ _ (by simp)];simp
theorem app_enc {O:Type}{f:O->List AV}{b:Nat}{l r:List O}{v:O}{c:List AV}(h:appx b l [v]=some r)(hc:f v=c):eL f l++[c]=eL f r:=by
  obtain⟨_,rfl⟩:=appx_iff.1 h
  subst hc;simp[eL]

inductive CWs:List AV->List AV->Prop
  |nil:CWs [] []
  |same {x:AV} {l l':List AV} (h:CWs l l'):CWs (x::l) (x::l')
  |frz {l l':List AV} (h:CWs l l'):CWs (.nilsl::l) (.fsl []::l')
  |own {ty sz:Nat} {l l':List AV} (h:CWs l l'):CWs (.nilsl::l) (.osl ty sz []::l')

section
variable {G:Globs} {n N0:Nat} {a:AAct} {B:Nat->Option AObj} {L:OL} {N:Nat} {X:AAct->AHeap->Prop}
end

def optp (o:Nat):Option Int->AV
  |none=>.nilp
  |some i=>.ptr o i.toNat 0
@[simp] theorem optp_none (o:Nat):optp o none=.nilp:=rfl
@[simp] theorem optp_some (o:Nat)(i:Int):optp o (some i)=.ptr o i.toNat 0:=rfl
/-! lists that are nil if they are empty -/
def nslO (o n:Nat):AV:=if n=0 then .nilsl else .sl o 0 n
def nslA (es:List (List AV)):AV:=if es.length=0 then .nilsl else .fsl es
theorem Ref.newv {G:Globs}{n N:Nat}{a:AAct}{J:AHeap}(ty sz:Nat):Ref G n N a J a ((J.bump 1).put J.next ⟨ty,sz,[]⟩):=by
  intro hN C w ca hR hA
  obtain⟨h1,h2,h3,h4,h5⟩:=fX hR
  obtain⟨C',g1,g2,g3⟩:=h1.newv (ty:=ty) (sz:=sz) h5 h3 h4
  have he:=h2.trans (g2.le fun o ho=>by have:o<J.next:=ho;show o≠J.next;omega)
  exact⟨_,g1,hA.mono he,he.le fun o ho=>Nat.lt_of_lt_of_le ho hN⟩
@[simp] theorem optp_ok (o:Nat)(x:Option Int):(optp o x).ok=some (optp o x):=by cases x<;>rfl
@[simp] theorem optp_good (o:Nat)(x:Option Int):(optp o x).good=true:=by cases x<;>rfl
@[simp] theorem optp_one (o:Nat)(x:Option Int):(optp o x).one=true:=by cases x<;>rfl
@[simp] theorem nslO_ok (o n:Nat):(nslO o n).ok=some (nslO o n):=by unfold nslO;split<;>rfl
@[simp] theorem nslO_good (o n:Nat):(nslO o n).good=true:=by unfold nslO;split<;>rfl
@[simp] theorem nslO_one (o n:Nat):(nslO o n).one=true:=by unfold nslO;split<;>rfl
@[simp] theorem nslA_ok (es:List (List AV)):(nslA es).ok=some (nslA es):=by unfold nslA;split<;>rfl
@[simp] theorem nslA_good (es:List (List AV)):(nslA es).good=true:=by unfold nslA;split<;>rfl
@[simp] theorem nslA_one (es:List (List AV)):(nslA es).one=true:=by unfold nslA;split<;>rfl
end Go.Abs

/- Rules by which a walk finds the state that it reaches by itself. No conditions. -/
set_option linter.unusedSimpArgs false
set_option linter.unusedVariables false
namespace Go.Abs
open Go

section
variable {P:Program} {T:Types} {G:Globs} {n N:Nat} {Q:Ex->AAct->AHeap->Prop} {a:AAct} {J:AHeap}

theorem Sx (hT:TOk P T)(alts l:List Nat){X:AAct}{Y:AHeap}{id:Nat}{ops:List Oper}{y:Code}
  (h:∀K:AAct->AHeap->Prop,K X Y->AOz P T G n alts (ops.map (·.dst)) J.next (fun a J=>K (a.keep l) J) 0 ops a (J.bump ops.length) .mk .mk)
  (k:AWP P G n N y Q X Y):AWP P G n N (.seq (.region id ops.toArray false) y) Q a J:=
 kP ((dE (Q:=Q) hT alts (h (fun a J=>AWP P G n N y Q a J) k)).mono fun x a J hx=>by
  cases x
  .exact kG l hx
  all_goals exact hx)
theorem Sm (hT:TOk P T)(alts l:List Nat)(B:Nat){X:Nat->AAct}{Y:Nat->AHeap}{id:Nat}{ops:List Oper}{y:Code}
  (h:∀K:AAct->AHeap->Prop,(∀M,B<=M->K (X M) (Y M))->AOz P T G n alts (ops.map (·.dst)) J.next (fun a J=>K (a.keep l) J) 0 ops a (J.bump ops.length) .mk .mk)
  (k:∀M,B<=M->AWP P G n N y Q (X M) (Y M)):AWP P G n N (.seq (.region id ops.toArray false) y) Q a J:=
 kP ((dE (Q:=Q) hT alts (h (fun a J=>AWP P G n N y Q a J) k)).mono fun x a J hx=>by
  cases x
  .exact kG l hx
  all_goals exact hx)
theorem S0 (hT:TOk P T)(alts l:List Nat){X:AAct}{Y:AHeap}{id:Nat}{ops:List Oper}{y:Code}
  (k:AWP P G n N y Q X Y)
  (h:∀K:AAct->AHeap->Prop,K X Y->AOz P T G n alts (ops.map (·.dst)) J.next (fun a J=>K (a.keep l) J) 0 ops a (J.bump ops.length) .mk .mk:=by intro K k;simp -dsimp -implicitDefEqProofs (maxDischargeDepth:=6);exact k):
  AWP P G n N (.seq (.region id ops.toArray false) y) Q a J:=Sx hT alts l h k
theorem Sd (hT:TOk P T)(hm:P.follows .mixedOrders=true)(alts hs ord l:List Nat){X:AAct}{Y:AHeap}{id:Nat}{ops:List Oper}{y:Code}
  (h:∀K:AAct->AHeap->Prop,K X Y->ADz P T G n alts (ops.map (·.dst)) J.next hs (fun a J=>K (a.keep l) J) (pickL ops ord) a (J.bump ops.length) .mk .mk)
  (k:AWP P G n N y Q X Y) (hc:gM alts ops.toArray hs (fun _=>[]) ord=true:=by decide):AWP P G n N (.seq (.region id ops.toArray true) y) Q a J:=
 kP ((AWP_drawl (Q:=Q) hT hm alts hs ord hc (h (fun a J=>AWP P G n N y Q a J) k)).mono fun x a J hx=>by
  cases x
  .exact kG l hx
  all_goals exact hx)
theorem Jn {K I:AAct->AHeap->Prop}{l:List Nat}{x:AAct}(hK:∀a J,Rc G n N I (a.keep l) J->K a J)(k:I x J)(h:∀K:AAct->Prop,K x->K (a.keep l):=by intro K k;simp;exact k):K a J:=
 hK a J (h (fun z=>Rc G n N I z J) (Rc.mk k))
theorem Rt (hT:TOk P T)(alts l:List Nat){X:AAct}{Y:AHeap}{id:Nat}{ops:List Oper}{K:AAct->AHeap->Prop}
  (h:∀K:AAct->AHeap->Prop,K X Y->AOz P T G n alts (ops.map (·.dst)) J.next (fun a J=>K (a.keep l) J) 0 ops a (J.bump ops.length) .mk .mk)
  (k:∀a,AAct.keep a l=X->K a Y):AWP P G n N (.region id ops.toArray false) (thenQ K Q) a J:=
 (dE (Q:=Q) hT alts (h (fun b U=>∀a',AAct.keep a' l=b->K a' U) k)).mono fun x a J hx=>by
  cases x
  .exact hx a rfl
  all_goals exact hx
theorem Rt0 (hT:TOk P T)(alts l:List Nat){X:AAct}{Y:AHeap}{id:Nat}{ops:List Oper}{K:AAct->AHeap->Prop}
  (k:∀a,AAct.keep a l=X->K a Y)
  (h:∀K:AAct->AHeap->Prop,K X Y->AOz P T G n alts (ops.map (·.dst)) J.next (fun a J=>K (a.keep l) J) 0 ops a (J.bump ops.length) .mk .mk:=by intro K k;simp -dsimp -implicitDefEqProofs (maxDischargeDepth:=6);exact k):AWP P G n N (.region id ops.toArray false) (thenQ K Q) a J:=Rt hT alts l h k
theorem Ci {c:Operand}{x y:Code}{b:Bool}{O:Type}{A B r:O}(H:(if b=true then A else B)=r)(ht:A=r->AWP P G n N x Q a J)(hf:B=r->AWP P G n N y Q a J)(hc:ev G a c=.bool b:=by rfl):AWP P G n N (.cond c x y) Q a J:=
 AWP_cond b hc (fun h=>ht (by rw[if_pos h] at H;exact H)) (fun h=>hf (by rw[if_neg (by rw[h];simp)] at H;exact H))
theorem Kp {c:Code}(l:List Nat){X:AAct}(k:AWP P G n N c Q X J)(hx:∀K:AAct->Prop,K X->K (a.keep l):=by intro K k;simp;exact k):AWP P G n N c Q a J:=
 kG l (hx (fun x=>AWP P G n N c Q x J) k)
theorem kE {K:AAct->AHeap->Prop}(l:List Nat){x:AAct}(k:∀a',AAct.keep a' l=x->K a' J)(h:∀K:AAct->Prop,K x->K (AAct.keep a l):=by intro K k;simp;exact k):K a J:=
 k a (h (fun z=>AAct.keep a l=z->AAct.keep a l=x) id rfl)
end
open Classical in
noncomputable def recF {O:Type}(f:Nat->Option O):Option O:=if h:∃n r,f n=some r then f h.choose else none
theorem tU {O:Type}{f:Nat->Option O}{r:O}(h:recF f=some r):∃n,f n=some r:=by
 unfold recF at h
 split at h
 .exact⟨_,h⟩
 .cases h
theorem oi {O:Type}{a b:O}(h:some a=some b):a=b:=Option.some.inj h
theorem fnK {P:Program}{G:Globs}{T:Types}(hT:TOk P T){f:FuncId}{fn:Func}{c:Code}{args:List AV}{R':AV->AHeap->Prop}{J:AHeap}{nt:Nat}{rs:Array ResultVar}(hf:P.funcs[f]? =some fn)
  (hn:fn.ntmps=nt) (hr:fn.results=rs) (h:AWP P G nt J.next c (retQ T R' rs.toList) (argsA 0 args) J)
  (hname:(fn.name== "runtime.NumGoroutine")=false:=by kernel_rfl) (hb:fn.body=some c:=by rfl) (hargs:Nat.ble args.length nt=true:=by rfl):ACalls P G f args J R':=ACalls_fn hT hf hname hb hn hr hargs h
theorem Rf {G:Globs}{n N:Nat}{a:AAct}{J:AHeap}{I:AAct->AHeap->Prop}(h:I a J):Rc G n N I a J:=Rc.fin (AHeap.Sub.refl _) h
theorem nQ (a b:Nat)(h:a≠b:=by omega):¬a=b/\¬b=a:=⟨h,fun e=>h e.symm⟩

section
variable {G:Globs} {n N0:Nat} {a:AAct} {B:Nat->Option AObj} {L L':OL} {N:Nat} {X:AAct->AHeap->Prop}
theorem gU (hX:∀{a J a1 J1},Ref G n N0 a J a1 J1->X a1 J1->X a J)(o r i:Nat){ty sz:Nat}{es:List (List AV)}{ob:AObj}{row:List AV}(h:X a (hp B L' (N+1)))
  (ho:∀K:Option AObj->Prop,K (some ob)->K (lk L (B o) o):=by intro K k;simp(disch:=omega);exact k)
  (hr:ob.rows[r]? =some row:=by rfl) (hi:row[i]? =some (.osl ty sz es):=by rfl)
  (hL:∀K:OL->Prop,K L'->K (st (st L N (some ⟨ty,sz,es⟩)) o (some ⟨ob.ty,ob.sz,ob.rows.set r (row.set i (.sl N 0 es.length))⟩)):=by intro K k;simp(disch:=omega) [List.set_set];exact k):X a (hp B L N):=
 gUnp hX L' (ho (fun z=>z=some ob) rfl) hr hi (hL (fun z=>z=L') rfl) h
theorem gP (hX:∀{a J a1 J1},Ref G n N0 a J a1 J1->X a1 J1->X a J)(o r i:Nat){d k:Nat}{ob obd:AObj}{row:List AV}(h:X a (hp E0 L' N))
  (ho:∀K:Option AObj->Prop,K (some ob)->K (lk L (E0 o) o):=by intro K k;simp(disch:=omega);exact k)
  (hr:ob.rows[r]? =some row:=by rfl) (hi:row[i]? =some (.sl d 0 k):=by rfl)
  (hd:∀K:Option AObj->Prop,K (some obd)->K (lk L (E0 d) d):=by intro K k;simp(disch:=omega);exact k)
  (hn:k<=obd.rows.length:=by simp(disch:=omega)) (hod:o≠d:=by first|omega|simp) (h1:∀p∈dl L d,¬p.1=d:=by simp(disch:=omega) [List.set_set,fD]<;>omega)
  (hL:∀K:OL->Prop,K L'->K (st (dl L d) o (some ⟨ob.ty,ob.sz,ob.rows.set r (row.set i (.osl obd.ty obd.sz (obd.rows.take k)))⟩)):=by intro K k;simp(disch:=omega) [List.set_set,fD];exact k):X a (hp E0 L N):=
 gPk hX L' (ho (fun z=>z=some ob) rfl) hr hi (hd (fun z=>z=some obd) rfl) hn hod h1 (hL (fun z=>z=L') rfl) h
theorem gP0 (hX:∀{a J a1 J1},Ref G n N0 a J a1 J1->X a1 J1->X a J)(o r i ty sz:Nat)(e:List (List AV)){ob:AObj}{row:List AV}{x:AV}(h:X a (hp B L' N))
  (ho:∀K:Option AObj->Prop,K (some ob)->K (lk L (B o) o):=by intro K k;simp(disch:=omega);exact k) (hr:ob.rows[r]? =some row:=by rfl) (hi:row[i]? =some x:=by rfl) (hx:x=.nilsl\/x=.esl:=by simp(disch:=omega)) (he:e=[]:=by rfl)
  (hL:∀K:OL->Prop,K L'->K (st L o (some ⟨ob.ty,ob.sz,ob.rows.set r (row.set i (.osl ty sz e))⟩)):=by intro K k;simp(disch:=omega) [List.set_set,fD];exact k):X a (hp B L N):=
 gPk0 hX ty sz L' (ho (fun z=>z=some ob) rfl) hr hi hx (he▸hL (fun z=>z=L') rfl) h
theorem gW (hX:∀{a J a1 J1},Ref G n N0 a J a1 J1->X a1 J1->X a J)(o r i:Nat){ob:AObj}{row:List AV}{x:AV}(h:X a (hp B L' N))
  (ho:∀K:Option AObj->Prop,K (some ob)->K (lk L (B o) o):=by intro K k;simp(disch:=omega);exact k) (hr:ob.rows[r]? =some row:=by rfl) (hi:row[i]? =some x:=by rfl) (hx:x=.nilsl\/x=.esl:=by simp(disch:=omega))
  (hL:∀K:OL->Prop,K L'->K (st L o (some ⟨ob.ty,ob.sz,ob.rows.set r (row.set i (.fsl []))⟩)):=by intro K k;simp(disch:=omega) [eN,List.set_set,fD];exact k):X a (hp B L N):=
 gWkC hX L' (ho (fun z=>z=some ob) rfl) hr hi hx (hL (fun z=>z=L') rfl) h
end
section
variable {P:Program} {G:Globs} {f:FuncId} {args:List AV} {J:AHeap}
theorem fr1 (L:OL){L':OL}{V:AV}(hL:∀p∈L,J.objs p.1=p.2)
  (h:(∀p∈L,p.2.isSome=true->p.1<J.next)->ACalls P G f args (hp E0 L J.next) (fun v J'=>∃M:Nat,J.next<=M/\v=V/\J'=hp E0 L' M)) (he:mZ P f)
  (h1:∀p∈L,∃q∈L',q.1=p.1:=by simp) (h2:∀p∈L',(∃q∈L,q.1=p.1)\/J.next<=p.1:=by simp):
  ACalls P G f args J (fun v J'=>∃M:Nat,J.next<=M/\v=V/\J'=hp J.objs L' M):=
 xG hL h (by rintro v J1 ⟨M,h0,rfl,rfl⟩;exact⟨_,M,rfl,h1,h2,M,h0,rfl,rfl⟩) he
theorem fr2 (L:OL){L':Nat->OL}{V:Nat->AV}(hL:∀p∈L,J.objs p.1=p.2)
  (h:(∀p∈L,p.2.isSome=true->p.1<J.next)->ACalls P G f args (hp E0 L J.next) (fun v J'=>∃M n0:Nat,J.next<=M/\J.next<=n0/\n0<M/\v=V n0/\J'=hp E0 (L' n0) M)) (he:mZ P f)
  (h1:∀n0,∀p∈L,∃q∈L' n0,q.1=p.1:=by intro n0;simp) (h2:∀n0,J.next<=n0->∀p∈L' n0,(∃q∈L,q.1=p.1)\/J.next<=p.1:=by intro n0 hn;simp;try omega):
  ACalls P G f args J (fun v J'=>∃M n0:Nat,J.next<=M/\J.next<=n0/\n0<M/\v=V n0/\J'=hp J.objs (L' n0) M):=
 xG hL h (by rintro v J1 ⟨M,n0,h0,h1',h2',rfl,rfl⟩;exact⟨_,M,rfl,h1 n0,h2 n0 h1',M,n0,h0,h1',h2',rfl,rfl⟩) he
end
end Go.Abs

/- Rules that print short. No conditions. -/
set_option linter.unusedSimpArgs false
set_option linter.unusedVariables false
namespace Go.Abs
open Go

theorem j {p q:Prop}(a:p)(b:q):p/\q:=⟨a,b⟩
theorem oj {O:Type}{a b:O}(h:some a=some b):b=a:=(Option.some.inj h).symm
theorem gSt {O:Type}{l:List O}{i:Int}{v:O}(h:idx l i=some v) ⦃f:O->List AV⦄ (row:List AV):((eL f l).set i.toNat row)[i.toNat]? =some row:=gset h row
theorem m0 {A B:Prop}(k:B)(h:B->A:=by intro k;(try simp -dsimp -implicitDefEqProofs);exact k):A:=h k
theorem m1 {p A B:Prop}(x:p)(k:B)(h:p->B->A:=by intro x k;(try simp -dsimp -implicitDefEqProofs [x]);exact k):A:=h x k
theorem m2 {p q A B:Prop}(x:p)(y:q)(k:B)(h:p->q->B->A:=by intro x y k;(try simp -dsimp -implicitDefEqProofs [x,y]);exact k):A:=h x y k
section
variable {P:Program} {T:Types} {G:Globs} {n N:Nat} {Q:Ex->AAct->AHeap->Prop} {a:AAct} {J:AHeap} {X:AAct} {Y:AHeap} {ops:List Oper} {y:Code} {id:Nat}

theorem Sy {p:Prop}(hT:TOk P T)(alts l:List Nat)(x:p)(k:AWP P G n N y Q X Y)
  (h:p->∀K:AAct->AHeap->Prop,K X Y->AOz P T G n alts (ops.map (·.dst)) J.next (fun a J=>K (a.keep l) J) 0 ops a (J.bump ops.length) .mk .mk:=by intro x K k;simp -dsimp -implicitDefEqProofs [x];exact k):
  AWP P G n N (.seq (.region id ops.toArray false) y) Q a J:=Sx hT alts l (h x) k
theorem Sz {p q:Prop}(hT:TOk P T)(alts l:List Nat)(x:p)(z:q)(k:AWP P G n N y Q X Y)
  (h:p->q->∀K:AAct->AHeap->Prop,K X Y->AOz P T G n alts (ops.map (·.dst)) J.next (fun a J=>K (a.keep l) J) 0 ops a (J.bump ops.length) .mk .mk:=by intro x z K k;simp -dsimp -implicitDefEqProofs [x,z];exact k):
  AWP P G n N (.seq (.region id ops.toArray false) y) Q a J:=Sx hT alts l (h x z) k
theorem Su (hT:TOk P T)(alts l:List Nat)(X:AAct)(Y:AHeap)
  (h:∀K:AAct->AHeap->Prop,K X Y->AOz P T G n alts (ops.map (·.dst)) J.next (fun a J=>K (a.keep l) J) 0 ops a (J.bump ops.length) .mk .mk)
  (k:AWP P G n N y Q X Y):AWP P G n N (.seq (.region id ops.toArray false) y) Q a J:=Sx hT alts l h k
theorem Ra {K I:AAct->AHeap->Prop}(hT:TOk P T)(alts:List Nat){m:List Nat}(hK:∀a J,Rc G n N I (a.keep m) J->K a J)(k:I X Y)
  (h:∀K:AAct->AHeap->Prop,K X Y->AOz P T G n alts (ops.map (·.dst)) J.next (fun a J=>K (a.keep m) J) 0 ops a (J.bump ops.length) .mk .mk:=by intro K k;simp -dsimp -implicitDefEqProofs;exact k):AWP P G n N (.region id ops.toArray false) (thenQ K Q) a J:=
 Rt hT alts m h fun a ha=>hK _ _ (by rw[ha];exact Rc.mk k)
theorem Rb {p:Prop}{K I:AAct->AHeap->Prop}(hT:TOk P T)(alts:List Nat){m:List Nat}(x:p)(hK:∀a J,Rc G n N I (a.keep m) J->K a J)(k:I X Y)
  (h:p->∀K:AAct->AHeap->Prop,K X Y->AOz P T G n alts (ops.map (·.dst)) J.next (fun a J=>K (a.keep m) J) 0 ops a (J.bump ops.length) .mk .mk:=by intro x K k;simp -dsimp -implicitDefEqProofs [x];exact k):AWP P G n N (.region id ops.toArray false) (thenQ K Q) a J:=
 Rt hT alts m (h x) fun a ha=>hK _ _ (by rw[ha];exact Rc.mk k)
theorem Rn {S E:Type}{fl:Flow S E}{I:S->AAct->AHeap->Prop}{s':S}{K:AAct->AHeap->Prop}(hT:TOk P T)(alts:List Nat){m:List Nat}(hK:∀s' a J,fl=.next s'->Rc G n N (I s') (a.keep m) J->K a J)(k:Rc G n N (I s') X Y)
  (e:fl=.next s':=by rfl) (h:∀K:AAct->AHeap->Prop,K X Y->AOz P T G n alts (ops.map (·.dst)) J.next (fun a J=>K (a.keep m) J) 0 ops a (J.bump ops.length) .mk .mk:=by intro K k;simp -dsimp -implicitDefEqProofs;exact k):AWP P G n N (.region id ops.toArray false) (thenQ K Q) a J:=
 Rt hT alts m h fun a ha=>hK _ _ _ e (by rw[ha];exact k)
theorem Rm {p:Prop}{S E:Type}{fl:Flow S E}{I:S->AAct->AHeap->Prop}{s':S}{K:AAct->AHeap->Prop}(hT:TOk P T)(alts:List Nat){m:List Nat}(x:p)(hK:∀s' a J,fl=.next s'->Rc G n N (I s') (a.keep m) J->K a J)(k:Rc G n N (I s') X Y)
  (e:fl=.next s':=by rfl) (h:p->∀K:AAct->AHeap->Prop,K X Y->AOz P T G n alts (ops.map (·.dst)) J.next (fun a J=>K (a.keep m) J) 0 ops a (J.bump ops.length) .mk .mk:=by intro x K k;simp -dsimp -implicitDefEqProofs [x];exact k):AWP P G n N (.region id ops.toArray false) (thenQ K Q) a J:=
 Rt hT alts m (h x) fun a ha=>hK _ _ _ e (by rw[ha];exact k)
theorem R1 (M:Nat){I:Nat->AAct->AHeap->Prop}(h:I M a J:=by(repeat' apply And.intro)<;>first|exact rfl|omega):Rc G n N (fun a J=>∃M,I M a J) a J:=Rf ⟨M,h⟩
theorem R2 (M o:Nat){I:Nat->Nat->AAct->AHeap->Prop}(h:I M o a J:=by(repeat' apply And.intro)<;>first|exact rfl|omega):Rc G n N (fun a J=>∃M o,I M o a J) a J:=Rf ⟨M,o,h⟩
theorem R3 (M o u:Nat){I:Nat->Nat->Nat->AAct->AHeap->Prop}(h:I M o u a J:=by(repeat' apply And.intro)<;>first|exact rfl|omega):Rc G n N (fun a J=>∃M o u,I M o u a J) a J:=Rf ⟨M,o,u,h⟩
theorem R4 (M o u w:Nat){I:Nat->Nat->Nat->Nat->AAct->AHeap->Prop}(h:I M o u w a J:=by(repeat' apply And.intro)<;>first|exact rfl|omega):Rc G n N (fun a J=>∃M o u w,I M o u w a J) a J:=Rf ⟨M,o,u,w,h⟩
theorem kp {I:AAct->AHeap->Prop}(l:List Nat)(h:Rc G n N I X J)(hx:∀K:AAct->Prop,K X->K (a.keep l):=by intro K k;simp;exact k):Rc G n N I a J:=zH (.keep l) (hx (fun x=>Rc G n N I x J) h)
theorem kr {I:AAct->AHeap->Prop}{l:List Nat}(h:Rc G n N I X J)(hx:∀K:AAct->Prop,K X->K (a.keep l):=by intro K k;simp;exact k):Rc G n N I (a.keep l) J:=hx (fun x=>Rc G n N I x J) h
theorem W4 (h:Q .ret a J:=by exact⟨_,rfl,4,by simp[eN]⟩):AWP P G n N .ret Q a J:=Wr h
theorem Js {K I:AAct->AHeap->Prop}{l:List Nat}{x:AAct}(hK:∀a J,Rc G n N I (a.keep l) J->K a J)(k:I x J)(h:∀z:AAct->Prop,z x->z (a.keep l):=by intro K k;simp;exact k):AWP P G n N .skip (thenQ K Q) a J:=Wsk (Jn hK k h)
theorem Wb {c:Code}(h:AWP P G n N c (thenQ (fun a J=>blockQ id Q .normal a J) (blockQ id Q)) a J):AWP P G n N (.block id c) Q a J:=Wbl (Wth h)
end
/-! heaps that grew by what nobody names -/
def SubL (L L':OL):Prop:=∀o,lk L none o=none\/lk L' none o=lk L none o
theorem subN (L':OL):SubL [] L':=fun _=>.inl rfl
theorem subC {L L':OL}{p:Nat×Option AObj}(h:SubL L L'):SubL (p::L) (p::L'):=fun o=>by
 obtain⟨i,x⟩:=p
 simp only[lk]
 split
 .exact .inr rfl
 .exact h o
theorem sW {L L':OL}{M:Nat}(h:SubL L L':=by repeat' first|exact subN _|refine subC ?_):AHeap.Sub (hp E0 L M) (hp E0 L' M):=⟨rfl,fun o=>by
 rcases h o with h|h
 .exact .inr h
 .exact .inl h.symm⟩
/-! results, calls -/
theorem j0:True:=trivial
section
variable {P:Program} {G:Globs} {n N:Nat} {a:AAct} {J:AHeap} {Q:Ex->AAct->AHeap->Prop}
theorem rz {O:Type}{o:Option O}{v:O}(h:∀K:Option O->Prop,K (some v)->K o):o=some v:=h (fun z=>z=some v) rfl
theorem V0 (h:Q .ret a J:=by exact⟨_,rz (by intro K k;simp;exact k),4,by simp[eN]⟩):AWP P G n N .ret Q a J:=Wr h
theorem V1 {p:Prop}(x:p)(M:Nat)(h:p->∀m,m=M->Q .ret a J:=by intro x m e;refine⟨_,rz (by intro K k;simp[x];exact k),m,?_⟩;subst e;(repeat' apply And.intro)<;>first|omega|rfl|(simp[eN];done)):AWP P G n N .ret Q a J:=
 Wr (h x M rfl)
theorem V2 {p:Prop}(x:p)(M o:Nat)(h:p->∀m u,m=M->u=o->Q .ret a J:=by intro x m u e f;refine⟨_,rz (by intro K k;simp[x];exact k),m,u,?_⟩;subst e f;(repeat' apply And.intro)<;>first|omega|rfl|(simp[eN];done)):AWP P G n N .ret Q a J:=
 Wr (h x M o rfl rfl)
end
section
variable {P:Program} {G:Globs} {f:FuncId} {args:List AV} {J:AHeap} {R:AV->AHeap->Prop}
theorem mc {p:Prop}{o:Option AObj}{ty sz N:Nat}{W:List (List AV)}{g:Option (List AV)}{row:List AV}{V:AV}{L:OL}(x:p)(c:o=some ⟨ty,sz,W⟩->g=some row->ACalls P G f args J (fun v J'=>∃M:Nat,J.next<=M/\v=V/\J'=hp J.objs L M))(k:∀M,N<=M->R V (hp J.objs L M))
  (hq:p->∀K:Option AObj->Prop,K (some ⟨ty,sz,W⟩)->K o:=by intro x K k;simp[x];exact k) (hg:p->g=some row:=by intro x;simp[x]) (hN:∀K:Nat->Prop,K N->K J.next:=by intro K k;simp only[hpN];exact k):ACalls P G f args J R:=
 (c (hq x (fun z=>z=some ⟨ty,sz,W⟩) rfl) (hg x)).mono (by rintro _ _ ⟨M,h,rfl,rfl⟩;exact k M (hN (fun x=>x<=M->N<=M) id h))
theorem mo {N:Nat}{V:Nat->AV}{L:Nat->OL}(c:ACalls P G f args J (fun v J'=>∃M n0:Nat,J.next<=M/\J.next<=n0/\n0<M/\v=V n0/\J'=hp J.objs (L n0) M))(k:∀M n0,N<=M->N<=n0->n0<M->R (V n0) (hp J.objs (L n0) M))(hN:∀K:Nat->Prop,K N->K J.next:=by intro K k;simp only[hpN];exact k):ACalls P G f args J R:=
 c.mono (by rintro _ _ ⟨M,o,h,h1,h2,rfl,rfl⟩;exact k M o (hN (fun x=>x<=M->N<=M) id h) (hN (fun x=>x<=o->N<=o) id h1) h2)
end
/-! the same, with no other choice of order, over the seat's types -/
section
variable {P:Program} {T:Types} {G:Globs} {n N:Nat} {Q:Ex->AAct->AHeap->Prop} {a:AAct} {J:AHeap} {X:AAct} {Y:AHeap} {ops:List Oper} {y:Code} {id:Nat}
theorem qA (l:List Nat)(k:AWP P G n N y Q X Y)(hT:TOk P T:=by exact tok)(h:∀K:AAct->AHeap->Prop,K X Y->AOz P T G n [] (ops.map (·.dst)) J.next (fun a J=>K (a.keep l) J) 0 ops a (J.bump ops.length) .mk .mk:=by intro K k;simp -dsimp -implicitDefEqProofs;exact k):AWP P G n N (.seq (.region id ops.toArray false) y) Q a J:=Sx hT [] l h k
theorem qB {p:Prop}(l:List Nat)(x:p)(k:AWP P G n N y Q X Y)(hT:TOk P T:=by exact tok)(h:p->∀K:AAct->AHeap->Prop,K X Y->AOz P T G n [] (ops.map (·.dst)) J.next (fun a J=>K (a.keep l) J) 0 ops a (J.bump ops.length) .mk .mk:=by intro x K k;simp -dsimp -implicitDefEqProofs [x];exact k):AWP P G n N (.seq (.region id ops.toArray false) y) Q a J:=Sx hT [] l (h x) k
theorem qC {p q:Prop}(l:List Nat)(x:p)(z:q)(k:AWP P G n N y Q X Y)(hT:TOk P T:=by exact tok)(h:p->q->∀K:AAct->AHeap->Prop,K X Y->AOz P T G n [] (ops.map (·.dst)) J.next (fun a J=>K (a.keep l) J) 0 ops a (J.bump ops.length) .mk .mk:=by intro x z K k;simp -dsimp -implicitDefEqProofs [x,z];exact k):AWP P G n N (.seq (.region id ops.toArray false) y) Q a J:=Sx hT [] l (h x z) k
theorem qD {p:Prop}(l:List Nat)(x:p)(k:AWP P G n N y Q X Y)(hT:TOk P T:=by exact tok)(h:p->∀K:AAct->AHeap->Prop,K X Y->AOz P T G n [] (ops.map (·.dst)) J.next (fun a J=>K (a.keep l) J) 0 ops a (J.bump ops.length) .mk .mk:=by intro x K k;(repeat first|simp -dsimp -implicitDefEqProofs|refine APure.app x ?_);exact k):AWP P G n N (.seq (.region id ops.toArray false) y) Q a J:=Sx hT [] l (h x) k
theorem qE {p q:Prop}(l:List Nat)(f:q)(x:p)(k:AWP P G n N y Q X Y)(hT:TOk P T:=by exact tok)(h:q->p->∀K:AAct->AHeap->Prop,K X Y->AOz P T G n [] (ops.map (·.dst)) J.next (fun a J=>K (a.keep l) J) 0 ops a (J.bump ops.length) .mk .mk:=by intro f x K k;(repeat first|simp -dsimp -implicitDefEqProofs [f]|refine APure.app x ?_);exact k):AWP P G n N (.seq (.region id ops.toArray false) y) Q a J:=Sx hT [] l (h f x) k
theorem qF (hT:TOk P T)(l:List Nat)(X:AAct)(Y:AHeap)(h:∀K:AAct->AHeap->Prop,K X Y->AOz P T G n [] (ops.map (·.dst)) J.next (fun a J=>K (a.keep l) J) 0 ops a (J.bump ops.length) .mk .mk)(k:AWP P G n N y Q X Y):AWP P G n N (.seq (.region id ops.toArray false) y) Q a J:=Sx hT [] l h k
theorem qG {K I:AAct->AHeap->Prop}{m:List Nat}(hK:∀a J,Rc G n N I (a.keep m) J->K a J)(k:I X Y)(hT:TOk P T:=by exact tok)(h:∀K:AAct->AHeap->Prop,K X Y->AOz P T G n [] (ops.map (·.dst)) J.next (fun a J=>K (a.keep m) J) 0 ops a (J.bump ops.length) .mk .mk:=by intro K k;simp -dsimp -implicitDefEqProofs;exact k):AWP P G n N (.region id ops.toArray false) (thenQ K Q) a J:=Ra hT [] hK k h
theorem qH {p:Prop}{K I:AAct->AHeap->Prop}{m:List Nat}(x:p)(hK:∀a J,Rc G n N I (a.keep m) J->K a J)(k:I X Y)(hT:TOk P T:=by exact tok)(h:p->∀K:AAct->AHeap->Prop,K X Y->AOz P T G n [] (ops.map (·.dst)) J.next (fun a J=>K (a.keep m) J) 0 ops a (J.bump ops.length) .mk .mk:=by intro x K k;simp -dsimp -implicitDefEqProofs [x];exact k):AWP P G n N (.region id ops.toArray false) (thenQ K Q) a J:=Rb hT [] x hK k h
theorem qI {S E:Type}{fl:Flow S E}{I:S->AAct->AHeap->Prop}{s':S}{K:AAct->AHeap->Prop}{m:List Nat}(hK:∀s' a J,fl=.next s'->Rc G n N (I s') (a.keep m) J->K a J)(k:Rc G n N (I s') X Y)(e:fl=.next s':=by rfl)(hT:TOk P T:=by exact tok)(h:∀K:AAct->AHeap->Prop,K X Y->AOz P T G n [] (ops.map (·.dst)) J.next (fun a J=>K (a.keep m) J) 0 ops a (J.bump ops.length) .mk .mk:=by intro K k;simp -dsimp -implicitDefEqProofs;exact k):AWP P G n N (.region id ops.toArray false) (thenQ K Q) a J:=Rn hT [] hK k e h
theorem qJ {p:Prop}{S E:Type}{fl:Flow S E}{I:S->AAct->AHeap->Prop}{s':S}{K:AAct->AHeap->Prop}{m:List Nat}(x:p)(hK:∀s' a J,fl=.next s'->Rc G n N (I s') (a.keep m) J->K a J)(k:Rc G n N (I s') X Y)(e:fl=.next s':=by rfl)(hT:TOk P T:=by exact tok)(h:p->∀K:AAct->AHeap->Prop,K X Y->AOz P T G n [] (ops.map (·.dst)) J.next (fun a J=>K (a.keep m) J) 0 ops a (J.bump ops.length) .mk .mk:=by intro x K k;simp -dsimp -implicitDefEqProofs [x];exact k):AWP P G n N (.region id ops.toArray false) (thenQ K Q) a J:=Rm hT [] x hK k e h
end
theorem qK {P:Program}{G:Globs}{T:Types}{f:FuncId}{fn:Func}{c:Code}{args:List AV}{r:AV}{nt:Nat}{rs:Array ResultVar}{X:AAct}(hf:P.funcs[f]? =some fn)
  (hn:fn.ntmps=nt) (hr:fn.results=rs) (h:∀N0,AWP P G nt N0 c (retQ T (fun r' J'=>∃d,thawA (fun _=>true) J' d r'=r) rs.toList) X (hp E0 [] N0))
  (hT:TOk P T:=by exact tok) (hx:∀K:AAct->Prop,K X->K (argsA 0 args):=by intro K k;simp only[argsA,Nat.reduceAdd];exact k) (hb0:Below 0 r:=by simp)
  (hname:(fn.name== "runtime.NumGoroutine")=false:=by kernel_rfl) (hb:fn.body=some c:=by rfl) (hargs:Nat.ble args.length nt=true:=by rfl):APure P G f args r:=
 APure_fn (fun N0=>fnK hT hf hn hr (hx (fun x=>AWP P G nt (hp E0 [] N0).next c _ x (hp E0 [] N0)) (h N0)) hname hb hargs) hb0
end Go.Abs
