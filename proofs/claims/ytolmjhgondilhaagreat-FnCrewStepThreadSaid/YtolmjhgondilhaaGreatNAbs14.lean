/- Values that are let go; parts of the heap that are set aside; contracts that leave the heap alone. -/
import Derived.Test.YtolmjhgondilhaaGreatNAbs13
set_option linter.unusedSimpArgs false
set_option linter.unusedVariables false
namespace Go.Abs
open Go Go.RowKit

inductive Rch (J:AHeap) (par:Par) (D:Nat->Bool):Nat->Prop
 |root (o:Nat) (ho:J.objs o≠none) (hD:D o=true):Rch J par D o
 |sub (d:Nat) (l:Loc) (hp:par d=some l) (h:Rch J par D l.1):Rch J par D d

theorem LiftP.rvis {J J0 fr par D o ob}(hp:LiftP J J0 fr par)(ho:J.objs o=some ob)(h:Rch J par D o):D o=true:=by
 cases h with
 |root _ _ hD=>exact hD
 |sub _ l hl _=>rw[(hp.hid _ _ hl).1] at ho;cases ho
theorem LiftP.rhid {J J0 fr par D d l}(hp:LiftP J J0 fr par)(hd:par d=some l)(h:Rch J par D d):Rch J par D l.1:=by
 cases h with
 |root _ ho _=>exact absurd (hp.hid _ _ hd).1 ho
 |sub _ l' hl h'=>rw[hd] at hl;cases hl;exact h'

open Classical in
theorem LiftP.cut {J J0 fr par}(hp:LiftP J J0 fr par)(D:Nat->Bool):
  LiftP (J.cut D) (J0.cut fun d=>decide (Rch J par D d)) fr (fun d=>if Rch J par D d then none else par d)/\∀d,fr d->¬Rch J par D d:=by
 have hfr:∀d,fr d->¬Rch J par D d:=by
  intro d hd h
  cases h with
  |root _ ho _=>exact ho (hp.frs _ hd).1
  |sub _ l hl _=>exact(hp.hid _ _ hl).2.2 hd
 refine⟨⟨fun o ob ho=>?_,fun d l hd=>?_,fun d hd=>?_⟩,hfr⟩
 .simp only[AHeap.cut] at ho
  split at ho
  .cases ho
  rename_i hD
  have hn:¬Rch J par D o:=fun h=>hD (hp.rvis ho h)
  obtain⟨rows0,h1,h2,h3⟩:=hp.vis o ob ho
  refine⟨rows0,by simpa [AHeap.cut,hn] using h1,h2,fun r e e0 q1 q2=>⟨(h3 r e e0 q1 q2).1,fun i x y q3 q4=>?_⟩⟩
  refine CL.ren id (fun l=>Rch J par D l.1) (fun d l hd hb=>?_) ((h3 r e e0 q1 q2).2 i x y q3 q4) hn
  have hnd:¬Rch J par D d:=fun h=>hb (hp.rhid hd h)
  exact⟨by simp[AHeap.cut,hnd],by simp[hnd,hd],rfl,fun _ _=>hnd⟩
 .split at hd
  .cases hd
  rename_i hn
  obtain⟨h1,h2,h3⟩:=hp.hid d l hd
  exact⟨by simp[AHeap.cut,h1],by simpa [AHeap.cut,hn] using h2,h3⟩
 .obtain⟨h1,h2⟩:=hp.frs d hd
  exact⟨by simp[AHeap.cut,h1],by simpa [AHeap.cut,hfr d hd] using h2⟩

def thawA (D:Nat->Bool)(J:AHeap):Nat->AV->AV
 |0,.osl _ _ _=>.any1
 |0,x=>x
 |d+1,.sl o r n=>match J.objs o with
  |some ob=>if D o=true/\r+n<=ob.rows.length then .fsl (((ob.rows.drop r).take n).map fun e=>e.map (thawA D J d)) else .sl o r n
  |none=>.sl o r n
 |d+1,.ptr o r i=>match J.objs o with
  |some ob=>if D o=true then(match ob.rows[r]? with
   |some row=>.fptr (row.map (thawA D J d)) i
   |none=>.ptr o r i) else .ptr o r i
  |none=>.ptr o r i
 |d+1,.osl _ _ es=>.fsl (es.map fun e=>e.map (thawA D J d))
 |d+1,.agg cs=>.agg (cs.map (thawA D J d))
 |d+1,.tup cs=>.tup (cs.map (thawA D J d))
 |_+1,.nilsl=>.fsl []
 |_+1,.esl=>.fsl []
 |_+1,x=>x

theorem thawA_one {D J}:∀(d:Nat) (x:AV),x.one=true->(thawA D J d x).one=true
 |0,x,h=>by cases x<;>first|rfl|exact h
 |d+1,x,h=>by
  cases x with
  |sl o r n=>
   simp only[thawA]
   split
   .split<;>rfl
   .rfl
  |ptr o r i=>
   simp only[thawA]
   split
   .split
    .split<;>rfl
    .rfl
   .rfl
  |agg=>cases h
  |tup=>cases h
  |nilsl=>rfl
  |esl=>rfl
  |_=>first|rfl|exact h

open Classical in
theorem thawA_key {G:Globs}{C:Phi0}{J J0:AHeap}{w:World}{fr par}(hR:R0 G C J0 w)(hp:LiftP J J0 fr par)(D:Nat->Bool):∀(d:Nat) (x y:AV) (l:Loc) (v:Value),CL J0.objs par l x y->(x.lin1=false->Rch J par D l.1)->
  VRel C (own0 C J0) w y v->VRel C (own0 C (J0.cut fun d=>decide (Rch J par D d))) w (thawA D J d x) v:=by
 obtain⟨_,he⟩:=hR.cut (fun d=>decide (Rch J par D d)) (fun _=>False)
 have hno:∀o ob b sz,J0.objs o=some ob->Rch J par D o->C o=some (b,sz)->0<sz->¬own0 C (J0.cut fun d=>decide (Rch J par D d)) b:=by
  rintro o ob b sz ho hD h1 h0 ⟨k,x,s,h2,h3,h4⟩
  simp only[AHeap.cut] at h2
  split at h2
  .cases h2
  .rename_i hne
   have:=hR.inj k o b s sz x ob h2 ho h3 h1 h4 h0
   subst this
   exact hne (by simpa using hD)
 intro d
 induction d with
 |zero=>
  intro x y l v hc hl hv
  by_cases hx:x.lin1=true
  .rw[hc.eq hx] at hv
   have:thawA D J 0 x=x:=by cases x<;>first|rfl|cases hx
   rw[this];exact hv.mono he
  .cases x<;>first|exact absurd rfl hx|skip
   refine .any1 (pN hv ?_)
   cases hc with
   |same=>rfl
   |osl0 _ _ _ _ h=>rcases h with rfl|rfl<;>rfl
   |osl=>rfl
 |succ d ih=>

  have lst:∀(o r n:Nat) (ob0:AObj) (rows:List (List AV)) (v:Value),J0.objs o=some ob0->Rch J par D o->rows.length=n->
    (∀(j:Nat) (e:List AV),rows[j]? =some e->∃e0,ob0.rows[r+j]? =some e0/\e.length=e0.length/\∀(i:Nat) (x y:AV),e[i]? =some x->e0[i]? =some y->CL J0.objs par (o,r+j,i) x y)->
    VRel C (own0 C J0) w (.sl o r n) v->VRel C (own0 C (J0.cut fun d=>decide (Rch J par D d))) w (.fsl (rows.map fun e=>e.map (thawA D J d))) v:=by
   intro o r n ob rows v ho hD hlen hrel hv
   cases hv with
   |sl0 _=>
    have:rows=[]:=List.length_eq_zero_iff.1 hlen
    subst this
    exact .fsl0
   |sl1 _=>
    have:rows=[]:=List.length_eq_zero_iff.1 hlen
    subst this
    exact .fsl0
   |sl hC hsz hn hcm hw hle=>
    rename_i b sz cap T arr
    have hob:=hR.obj o ob ho
    rw[hC] at hob
    obtain⟨e1,_,arr',hw',hl',hrows⟩:=hob.get hsz
    have get:∀(j:Nat) (row:List AV),(rows.map fun e=>e.map (thawA D J d))[j]? =some row->∃e e0,rows[j]? =some e/\row=e.map (thawA D J d)/\ob.rows[r+j]? =some e0/\e.length=e0.length/\∀(i:Nat) (x y:AV),e[i]? =some x->e0[i]? =some y->CL J0.objs par (o,r+j,i) x y:=by
     intro j row hj
     rw[List.getElem?_map] at hj
     cases h:rows[j]? with
     |none=>simp[h] at hj
     |some e=>
      simp[h] at hj
      obtain⟨e0,g1,g2,g3⟩:=hrel j e h
      exact⟨e,e0,rfl,hj.symm,g1,g2,g3⟩
    have cell:∀(j:Nat) (row:List AV),(rows.map fun e=>e.map (thawA D J d))[j]? =some row->∀(i:Nat) (x:AV),row[i]? =some x->x.one=true/\∃u,arr'[(r+j)*sz+i]? =some u/\VRel C (own0 C (J0.cut fun d=>decide (Rch J par D d))) w x u:=by
     intro j row hj i x hx
     obtain⟨e,e0,g0,rfl,g1,g2,g3⟩:=get j row hj
     rw[List.getElem?_map] at hx
     cases h:e[i]? with
     |none=>simp[h] at hx
     |some z=>
      simp[h] at hx
      subst hx
      have hi:i<e0.length:=by rw[<- g2];exact(List.getElem?_eq_some_iff.1 h).1
      have hy:e0[i]? =some e0[i]:=List.getElem?_eq_getElem hi
      obtain⟨k1,u,k2,k3⟩:=(hrows _ e0 g1).2 i _ hy
      have hcl:=g3 i z _ h hy
      refine⟨thawA_one _ _ ?_,u,k2,ih z _ _ u hcl (fun _=>hD) k3⟩
      by_cases hz:z.lin1=true
      .rw[<- hcl.eq hz];exact k1
      .cases z<;>first|exact absurd rfl hz|rfl
    refine VRel.fsl (sz:=sz) (fun j i=>arr'.getD ((r+j)*sz+i) undef) (fun row hrow x hx=>?_) (by simpa using hlen) (yL hw) (hno o ob b sz ho hD hC hsz) hsz hn hcm (fun j row hj=>?_) (fun j row hj i x hx=>?_) (fun j row hj i x hx=>?_)
    .obtain⟨j,hj,rfl⟩:=List.getElem_of_mem hrow
     obtain⟨i,hi,rfl⟩:=List.getElem_of_mem hx
     exact(cell j _ (List.getElem?_eq_getElem hj) i _ (List.getElem?_eq_getElem hi)).1
    .obtain⟨e,e0,g0,rfl,g1,g2,g3⟩:=get j row hj
     rw[List.length_map,g2]
     exact(hrows _ e0 g1).1
    .obtain⟨_,u,h3,_⟩:=cell j row hj i x hx
     rw[kY hw',show r*sz+(j*sz+i)=(r+j)*sz+i by rw[Nat.add_mul];omega,h3,Array.getD_eq_getD_getElem?,h3];rfl
    .obtain⟨_,u,h3,h4⟩:=cell j row hj i x hx
     rw[Array.getD_eq_getD_getElem?,h3]
     exact h4
  intro x y l v hc hl hv
  cases x with
  |osl ty sz es=>
   simp only[thawA]
   cases hc with
   |same=>cases hv
   |osl0 _ _ _ _ h=>rcases h with rfl|rfl<;>(cases hv;exact .fsl0)
   |osl _ _ _ _ d' rows hd hpd hle hlen hcc=>
    have hD:=hl rfl
    have hD':Rch J par D d':=.sub d' l hpd hD
    refine lst d' 0 es.length _ es v hd hD' rfl (fun j e hj=>?_) hv
    have hlt:j<es.length:=(List.getElem?_eq_some_iff.1 hj).1
    have h0:rows[j]? =some rows[j]:=List.getElem?_eq_getElem (by omega)
    exact⟨rows[j],by simp,hlen j e _ hj h0,fun i x y hx hy=>by simpa using hcc j e _ i x y hj h0 hx hy⟩
  |sl o r n=>
   have:=hc.eq rfl
   subst this
   simp only[thawA]
   split
   .rename_i ob ho
    split
    .rename_i hcd
     obtain⟨hD,hrn⟩:=hcd
     obtain⟨rows0,h1,h2,h3⟩:=hp.vis o ob ho
     refine lst o r n _ _ v h1 (.root o (by simp[ho]) hD) (by simp;omega) (fun j e hj=>?_) hv
     rw[List.getElem?_take] at hj
     split at hj
     .rw[List.getElem?_drop] at hj
      have hlt:r+j<ob.rows.length:=(List.getElem?_eq_some_iff.1 hj).1
      have h0:rows0[r+j]? =some rows0[r+j]:=List.getElem?_eq_getElem (by omega)
      exact⟨_,h0,(h3 _ e _ hj h0).1,(h3 _ e _ hj h0).2⟩
     .cases hj
    .exact hv.mono he
   .exact hv.mono he
  |ptr o r i=>
   have:=hc.eq rfl
   subst this
   simp only[thawA]
   split
   .rename_i ob ho
    split
    .rename_i hD
     split
     .rename_i row hr
      cases hv with
      |ptr hC=>
       rename_i b sz
       obtain⟨rows0,h1,h2,h3⟩:=hp.vis o ob ho
       have hlt:r<ob.rows.length:=(List.getElem?_eq_some_iff.1 hr).1
       have h0:rows0[r]? =some rows0[r]:=List.getElem?_eq_getElem (by omega)
       obtain⟨g1,g2⟩:=h3 r row _ hr h0
       have hob:=hR.obj o _ h1
       rw[hC] at hob
       have hsz:0<sz:=by
        rcases Nat.eq_zero_or_pos sz with e|e
        .obtain⟨b',sz',e1,h2',_⟩:=hob
         cases e1
         have:=congrArg List.length (h2' e)
         simp only[List.length_nil] at this
         omega
        .exact e
       obtain⟨e1,_,arr',hw',hl',hrows⟩:=hob.get hsz
       have hRch:Rch J par D o:=.root o (by simp[ho]) hD
       have cell:∀(i:Nat) (x:AV),(row.map (thawA D J d))[i]? =some x->x.one=true/\∃u,arr'[r*sz+i]? =some u/\VRel C (own0 C (J0.cut fun d=>decide (Rch J par D d))) w x u:=by
        intro i x hx
        rw[List.getElem?_map] at hx
        cases h:row[i]? with
        |none=>simp[h] at hx
        |some z=>
         simp[h] at hx
         subst hx
         have hi:i<rows0[r].length:=by rw[<- g1];exact(List.getElem?_eq_some_iff.1 h).1
         have hy:rows0[r][i]? =some rows0[r][i]:=List.getElem?_eq_getElem hi
         obtain⟨k1,u,k2,k3⟩:=(hrows r _ h0).2 i _ hy
         have hcl:=g2 i z _ h hy
         refine⟨thawA_one _ _ ?_,u,k2,ih z _ _ u hcl (fun _=>hRch) k3⟩
         by_cases hz:z.lin1=true
         .rw[<- hcl.eq hz];exact k1
         .cases z<;>first|exact absurd rfl hz|rfl
       refine VRel.fptr (off:=r*sz) (fun j=>arr'.getD (r*sz+j) undef) (fun x hx=>?_) (yL hw') (hno o _ b sz h1 hRch hC hsz) (fun j x hj=>?_) (fun j x hj=>?_)
       .obtain⟨j,hj,rfl⟩:=List.getElem_of_mem hx
        exact(cell j _ (List.getElem?_eq_getElem hj)).1
       .obtain⟨_,u,h3,_⟩:=cell j x hj
        rw[kY hw',h3,Array.getD_eq_getD_getElem?,h3];rfl
       .obtain⟨_,u,h3,h4⟩:=cell j x hj
        rw[Array.getD_eq_getD_getElem?,h3]
        exact h4
     .exact hv.mono he
    .exact hv.mono he
   .exact hv.mono he
  |agg cs=>
   have:=hc.eq rfl
   subst this
   cases hv with
   |agg hl h=>
    refine .agg (by rw[List.length_map];exact hl) fun i x u hx hu=>?_
    rw[List.getElem?_map] at hx
    cases h':cs[i]? with
    |none=>simp[h'] at hx
    |some y=>
     simp[h'] at hx;subst hx
     have hv:=h i y u h' hu
     refine ih _ _ l u (.same l y) (fun hy=>?_) hv
     cases y<;>first|cases hy;done|cases hv
  |tup cs=>
   have:=hc.eq rfl
   subst this
   cases hv with
   |tup hl h=>
    refine .tup (by rw[List.length_map];exact hl) fun i x u hx hu=>?_
    rw[List.getElem?_map] at hx
    cases h':cs[i]? with
    |none=>simp[h'] at hx
    |some y=>
     simp[h'] at hx;subst hx
     have hv:=h i y u h' hu
     refine ih _ _ l u (.same l y) (fun hy=>?_) hv
     cases y<;>first|cases hy;done|cases hv
  |nilsl=>have:=hc.eq rfl;subst this;cases hv;exact .fsl0
  |esl=>have:=hc.eq rfl;subst this;cases hv;exact .fsl0
  |_=>have:=hc.eq rfl;subst this;exact hv.mono he

theorem R.cut {G C J w}(hR:R G C J w)(D:Nat->Bool)(N:Nat->Prop):∃C',R G C' (J.cut D) w/\Ext N C J w C' (J.cut D) w/\C'.nm=C.nm/\∀d x v,VRel C (own C J) w x v->VRel C' (own C' (J.cut D)) w (thawA D J d x) v:=by
 classical
 obtain⟨hn,par,hp⟩:=hR.lift
 obtain⟨h1,h2⟩:=hp.cut D
 obtain⟨k1,k2⟩:=hR.base.cut _ N
 refine⟨⟨C.nm,C.fl.cut fun d=>decide (Rch J par D d),C.fr⟩,⟨k1,hn,_,h1⟩,⟨k2,fun d hd=>⟨hd,?_⟩,Nat.le_refl _⟩,rfl,fun d x v hv=>thawA_key hR.base hp D d x x (0,0,0) v (.same _ x) (fun hx=>?_) hv⟩
 .simp[AHeap.cut,h2 d hd]
 .cases x<;>first|cases hx;done|cases hv

def APure (P:Program)(G:Globs)(f:FuncId)(args:List AV)(r:AV):Prop:=∀J,ACalls P G f args J fun r' J'=>r'=r/\J'=J

theorem APure.app {P G f args r J Q}(h:APure P G f args r)(hq:Q r J):ACalls P G f args J Q:=
 (h J).mono fun r' J' ⟨h1,h2⟩=>by rw[h1,h2];exact hq

def E0:Nat->Option AObj:=fun _=>none

theorem R.part {G C J w}(hR:R G C J w)(S:Nat->Bool):∃C1,R G C1 (J.cut fun o=> !S o) w/\C1.nm=C.nm/\C1.fl=C.fl/\
  (∀C' J' w',R G C' J' w'->Ext (·<J.next) C1 (J.cut fun o=> !S o) w C' J' w'->
   (∀d,C.fl.objs d≠none->S d=false->J.objs d≠none->J'.objs d=none)/\
   ∃C'',C''.nm=C'.nm/\C''.fl=C'.fl/\R G C'' ⟨fun o=>match J'.objs o with|some x=>some x|none=>if S o=true then none else J.objs o,J'.next⟩ w'/\Ext (·<J.next) C J w C'' ⟨fun o=>match J'.objs o with|some x=>some x|none=>if S o=true then none else J.objs o,J'.next⟩ w')/\
  ((∀o,S o=false)->∀C' J' w',Ext (·<J.next) C1 (J.cut fun o=> !S o) w C' J' w'->∀d,d<J.next->C'.fl.objs d=C.fl.objs d):=by
 classical
 obtain⟨hn,par,hp⟩:=hR.lift
 have hcut:∀o ob,(J.cut fun o=> !S o).objs o=some ob->S o=true/\J.objs o=some ob:=by
  intro o ob h
  simp only[AHeap.cut] at h
  split at h
  .cases h
  .rename_i hs;exact⟨by simpa using hs,h⟩
 let fr1:Nat->Prop:=fun d=>C.fl.objs d≠none/\¬Rch J par S d
 refine⟨⟨C.nm,C.fl,fr1⟩,⟨hR.base,hn,fun d=>if Rch J par S d then par d else none,fun o ob ho=>?_,fun d l hd=>?_,fun d hd=>?_⟩,rfl,rfl,?_,?_⟩
 .obtain⟨hs,ho⟩:=hcut o ob ho
  obtain⟨rows0,h1,h2,h3⟩:=hp.vis o ob ho
  refine⟨rows0,h1,h2,fun r e e0 q1 q2=>⟨(h3 r e e0 q1 q2).1,fun i x y q3 q4=>?_⟩⟩
  refine CL.ren id (fun l=>¬Rch J par S l.1) (fun d l hd hb=>?_) ((h3 r e e0 q1 q2).2 i x y q3 q4) (fun h=>h (.root o (by simp[ho]) hs))
  have hb':Rch J par S l.1:=Classical.not_not.1 hb
  have hd':Rch J par S d:=.sub d l hd hb'
  exact⟨rfl,by simp[hd',hd],rfl,fun _ _ h=>h hd'⟩
 .split at hd
  .rename_i hr
   obtain⟨h1,h2,h3⟩:=hp.hid d l hd
   exact⟨by simp[AHeap.cut,h1],h2,fun h=>h.2 hr⟩
  .cases hd
 .refine⟨?_,hd.1⟩
  cases h:(J.cut fun o=> !S o).objs d with
  |none=>rfl
  |some ob=>
   obtain⟨hs,ho⟩:=hcut d ob h
   exact absurd (.root d (by simp[ho]) hs) hd.2
 .intro C' J' w' hR' he
  obtain⟨hn',par',hp'⟩:=hR'.lift
  have hvis:∀o ob,J.objs o=some ob->S o=false->fr1 o:=by
   intro o ob ho hs
   obtain⟨rows0,h1,_⟩:=hp.vis o ob ho
   exact⟨by simp[h1],fun h=>by have:=hp.rvis ho h;rw[hs] at this;cases this⟩
  have hhid:∀d l,par d=some l->¬Rch J par S l.1->fr1 d:=by
   intro d l hd hb
   exact⟨(hp.hid d l hd).2.1,fun h=>hb (hp.rhid hd h)⟩
  have hfr:∀d,C.fr d->fr1 d:=by
   intro d hd
   refine⟨(hp.frs d hd).2,fun h=>?_⟩
   cases h with
   |root _ ho _=>exact ho (hp.frs d hd).1
   |sub _ l hl _=>exact(hp.hid _ _ hl).2.2 hd
  have hpn:∀d,fr1 d->par' d=none:=by
   intro d hd
   cases h:par' d with
   |none=>rfl
   |some l=>exact absurd ((he.frk d hd).1) (hp'.hid d l h).2.2
  refine⟨fun d _ hs ho=>?_,⟨C'.nm,C'.fl,C.fr⟩,rfl,rfl,⟨hR'.base,hn',fun d=>match par' d with|some l=>some l|none=>if Rch J par S d then none else par d,fun o ob ho=>?_,fun d l hd=>?_,fun d hd=>?_⟩,he.base,fun d hd=>⟨hd,(he.frk d (hfr d hd)).2⟩,he.nx⟩
  .cases h:J.objs d with
   |none=>exact absurd h ho
   |some ob=>exact(hp'.frs d (he.frk d (hvis d ob h hs)).1).1
  .try simp only at ho
   split at ho
   .rename_i x hx
    cases ho
    obtain⟨rows0,h1,h2⟩:=hp'.vis o _ hx
    refine⟨rows0,h1,h2.mono fun d l hd=>⟨rfl,by simp[hd]⟩⟩
   .split at ho
    .cases ho
    rename_i hs
    have hs':S o=false:=by simpa using hs
    have hf:=hvis o ob ho hs'
    obtain⟨rows0,h1,h2,h3⟩:=hp.vis o ob ho
    refine⟨rows0,by rw[(he.frk o hf).2];exact h1,h2,fun r e e0 q1 q2=>⟨(h3 r e e0 q1 q2).1,fun i x y q3 q4=>?_⟩⟩
    refine CL.ren id (fun l=>Rch J par S l.1) (fun d l hd hb=>?_) ((h3 r e e0 q1 q2).2 i x y q3 q4) (fun h=>hs (hp.rvis ho h))
    have hfd:=hhid d l hd hb
    have hnd:¬Rch J par S d:=hfd.2
    exact⟨(he.frk d hfd).2,by simp[hpn d hfd,hnd,hd],rfl,fun _ _=>hnd⟩
  .try simp only at hd
   split at hd
   .rename_i l' hl
    cases hd
    obtain⟨h1,h2,h3⟩:=hp'.hid d _ hl
    refine⟨?_,h2,fun hf=>h3 (he.frk d (hfr d hf)).1⟩
    simp only[h1]
    split
    .rfl
    .rename_i hs
     cases ho:J.objs d with
     |none=>rfl
     |some ob=>exact absurd (he.frk d (hvis d ob ho (by simpa using hs))).1 h3
   .split at hd
    .cases hd
    rename_i hr
    obtain⟨h1,h2,h3⟩:=hp.hid d l hd
    have hfd:fr1 d:=⟨h2,hr⟩
    refine⟨?_,by rw[(he.frk d hfd).2];exact h2,h3⟩
    simp only[(hp'.frs d (he.frk d hfd).1).1,h1]
    split<;>rfl
  .have hfd:=hfr d hd
   obtain⟨h1,h2⟩:=hp.frs d hd
   refine⟨?_,by rw[(he.frk d hfd).2];exact h2⟩
   simp only[(hp'.frs d (he.frk d hfd).1).1,h1]
   split<;>rfl
 .intro hS C' J' w' he d hd
  by_cases h0:C.fl.objs d=none
  .rw[h0]
   exact(he.base.keep d hd).2 h0
  .refine(he.frk d ⟨h0,fun h=>?_⟩).2
   induction h with
   |root o _ hD=>rw[hS o] at hD;cases hD
   |sub _ l hl _ ih=>
    obtain⟨l1,l2⟩:=l
    have:∀d,¬Rch J par S d:=by
     intro d h
     induction h with
     |root o _ hD=>rw[hS o] at hD;cases hD
     |sub _ _ _ _ ih=>exact ih
    exact this l1 (by assumption)

theorem ACalls_frame {P G f args J Q}(S:Nat->Bool)(h:ACalls P G f args (J.cut fun o=> !S o) Q):
  ACalls P G f args J fun r J'=>∃J1,Q r J1/\(∀o,J.next<=o->J.objs o=none)/\J.next<=J1.next/\
   J'=⟨fun o=>match J1.objs o with|some x=>some x|none=>if S o=true then none else J.objs o,J1.next⟩:=by
 refine⟨h.1,fun C w vs hR hA=>?_⟩
 obtain⟨C1,h1,h2,h3,h4,_⟩:=hR.part S
 have hA':ArgsRel C1 (own C1 (J.cut fun o=> !S o)) w args vs:=by
  simp only[own,h2,h3] at hA ⊢;exact hA
 refine(h.2 C1 w vs h1 hA').mono ?_
 rintro e w' ⟨v,r,C',J',rfl,k1,k2,k3,k4⟩
 obtain⟨g0,C'',g1,g2,g3,g4⟩:=h4 C' J' w' k2 k3
 exact⟨v,r,C'',_,rfl,⟨J',k1,fun o ho=>(hR.ids o ho).1,k3.nx,rfl⟩,g3,g4,by simp only[own,g1,g2];exact k4⟩

theorem ACalls_frame2 {P G f args J Q}(S:Nat->Bool)(h:ACalls P G f args (J.cut fun o=> !S o) Q):
  ACalls P G f args J fun r J'=>∃J1,Q r J1/\(∀o,S o=false->J.objs o≠none->J1.objs o=none)/\
   J'=⟨fun o=>match J1.objs o with|some x=>some x|none=>if S o=true then none else J.objs o,J1.next⟩:=by
 refine⟨h.1,fun C w vs hR hA=>?_⟩
 obtain⟨C1,h1,h2,h3,h4,_⟩:=hR.part S
 have hA':ArgsRel C1 (own C1 (J.cut fun o=> !S o)) w args vs:=by
  simp only[own,h2,h3] at hA ⊢;exact hA
 refine(h.2 C1 w vs h1 hA').mono ?_
 rintro e w' ⟨v,r,C',J',rfl,k1,k2,k3,k4⟩
 obtain⟨g0,C'',g1,g2,g3,g4⟩:=h4 C' J' w' k2 k3
 refine⟨v,r,C'',_,rfl,⟨J',k1,fun o ho hne=>g0 o (fun hf=>hne (hR.lift.gone hf)) ho hne,rfl⟩,g3,g4,by simp only[own,g1,g2];exact k4⟩

theorem APure_of {P G f args r}(h:∀N,ACalls P G f args ⟨E0,N⟩ fun r' J'=>∃d,thawA (fun _=>true) J' d r'=r)(hb:Below 0 r):APure P G f args r:=by
 intro J
 refine⟨(h 0).1,fun C w vs hR hA=>?_⟩
 obtain⟨C1,h1,h2,h3,_,h5⟩:=hR.part fun _=>false
 have he:(J.cut fun o=> !(fun _=>false:Nat->Bool) o)=⟨E0,J.next⟩:=by simp[AHeap.cut];rfl
 rw[he] at h1 h5
 have hA':ArgsRel C1 (own C1 ⟨E0,J.next⟩) w args vs:=by
  simp only[own,h2,h3] at hA ⊢;exact hA
 refine((h J.next).2 C1 w vs h1 hA').mono ?_
 rintro e w' ⟨v,r',C',J',rfl,⟨d,k1⟩,k2,k3,k4⟩
 obtain⟨C2,g1,g2,g3,g4⟩:=k2.cut (fun _=>true) (·<J.next)
 have g5:=g4 d _ _ k4
 rw[k1] at g5
 have k5:=k3.trans g2
 have hob:=h5 (fun _=>rfl) C2 _ _ k5
 have hnx:=hR.nxt
 obtain⟨nm,q1,q2,q3⟩:=reset0 hR.base g1.base (by have:=k5.base;rw[h2,h3] at this;rw[hnx];exact this) (fun o ho=>hob o (by rw[<- hnx];exact ho)) g5 hb.le
 exact⟨v,r,⟨nm,C.fl,C.fr⟩,J,rfl,⟨rfl,rfl⟩,⟨q1,hR.lift⟩,⟨by rw[hnx] at q2;exact q2,fun d hd=>⟨hd,rfl⟩,Nat.le_refl _⟩,q3⟩

theorem yW {P G f args J}{Q:AV->AHeap->Prop}(d:Nat)(h:ACalls P G f args J fun r J'=>∃D,Q (thawA D J' d r) (J'.cut D)):ACalls P G f args J Q:=by
 refine⟨h.1,fun C w vs hR hA=>(h.2 C w vs hR hA).mono ?_⟩
 rintro e w' ⟨v,r,C',J',rfl,⟨D,h1⟩,h3,h4,h5⟩
 obtain⟨C2,k1,k2,_,k3⟩:=h3.cut D (·<J.next)
 exact⟨v,_,C2,J'.cut D,rfl,h1,k1,h4.trans k2,k3 d r v h5⟩

def AV.leaf:AV->Bool
 |.int _ _|.bool _|.str _=>true
 |_=>false
def AV.flat:AV->Bool
 |.tup l=>l.all AV.leaf
 |x=>x.leaf

theorem VRel.leaf {C C':Phi0}{ow ow':Nat->Prop}{w w':World}{x:AV}{v:Value}(h:VRel C ow w x v)(hx:x.leaf=true):VRel C' ow' w' x v:=by
 cases h with
 |int=>exact .int
 |bool=>exact .bool
 |str=>exact .str
 |_=>cases hx

theorem VRel.flat {C C':Phi0}{ow ow':Nat->Prop}{w w':World}{x:AV}{v:Value}(h:VRel C ow w x v)(hx:x.flat=true):VRel C' ow' w' x v:=by
 cases x with
 |tup l=>
  cases h with
  |tup hl hv=>exact .tup hl fun i y u hy hu=>(hv i y u hy hu).leaf (List.all_eq_true.1 hx y (List.mem_of_getElem? hy))
 |_=>exact h.leaf hx

theorem borrow {P G f args ys r J}(d:Nat)(h:APure P G f ys r)(hy:args.map (thawA (fun _=>true) J d)=ys)(hr:r.flat=true):ACalls P G f args J fun r' J'=>r'=r/\J'=J:=by
 refine⟨(h J).1,fun C w vs hR hA=>?_⟩
 obtain⟨k1,_⟩:=hR.base.cut (fun _=>true) (fun _=>False)
 obtain⟨C1,g1,g2,g3,g4⟩:=hR.cut (fun _=>true) (fun _=>False)
 have hA0:ArgsRel C1 (own C1 (J.cut fun _=>true)) w ys vs:=by
  subst hy
  refine⟨by rw[List.length_map];exact hA.1,fun i x u hx hu=>?_⟩
  rw[List.getElem?_map] at hx
  cases h':args[i]? with
  |none=>simp[h'] at hx
  |some y=>simp[h'] at hx;subst hx;exact g4 d y u (hA.2 i y u h' hu)
 let C2:Phi:=⟨C.nm,C.fl.cut fun _=>true,fun _=>False⟩
 have hR2:R G C2 (J.cut fun _=>true) w:=by
  refine⟨k1,by simp[AHeap.cut,C2];exact hR.nxt,fun _=>none,fun o ob ho=>?_,fun d l hd=>?_,fun d hd=>?_⟩
  .simp[AHeap.cut] at ho
  .cases hd
  .exact hd.elim
 have hno:∀b,¬own C2 (J.cut fun _=>true) b:=by
  rintro b ⟨o,ob,s,h1,_⟩
  simp[AHeap.cut,C2] at h1
 have hA':ArgsRel C2 (own C2 (J.cut fun _=>true)) w ys vs:=by
  refine⟨hA0.1,fun i x u hx hu=>?_⟩
  exact(hA0.2 i x u hx hu).mono' (fun o y h=>by rw[g3] at h;exact h) (fun _ _ _=>rfl) (Nat.le_refl _) (fun b arr T h=>⟨arr,h,rfl⟩) fun b _ hb=>absurd hb (hno b)
 refine((h (J.cut fun _=>true)).2 C2 w vs hR2 hA').mono ?_
 rintro e w' ⟨v,r',C',J',rfl,⟨rfl,rfl⟩,h3,h4,h5⟩
 have hC:C'.nm=C.nm:=by
  funext o
  rcases Nat.lt_or_ge o J.next with hlt|hge
  .exact(h4.base.keep o hlt).1
  .rw[(h3.ids o hge).2,(hR.ids o hge).2]
 have hblk:∀b,b<w.heap.size->w'.heap[b]? =w.heap[b]? :=fun b hb=>h4.fr.blk b hb (hno b)
 have he:Ext0 (·<J.next) C.nm C.fl w C.nm C.fl w':=⟨fun o _=>⟨rfl,fun h=>h⟩,fun o x h=>h,⟨h4.fr.os,h4.fr.tape,h4.fr.output,h4.fr.size,fun b hb _=>hblk b hb,h4.fr.shp⟩,fun b hb=>.inl hb,Nat.le_refl _⟩
 refine⟨v,r',C,J,rfl,⟨rfl,rfl⟩,⟨hR.base.next he hR.base.ids hR.base.inj (fun o ob ho=>.inr ⟨ho,rfl,fun b sz hC hsz=>hblk b ?_⟩),hR.lift⟩,⟨he,fun d hd=>⟨hd,rfl⟩,Nat.le_refl _⟩,h5.flat hr⟩
 have hob:=hR.base.obj o ob ho
 rw[hC] at hob
 obtain⟨_,_,arr,hw,_⟩:=hob.get hsz
 exact yL hw

end Go.Abs
