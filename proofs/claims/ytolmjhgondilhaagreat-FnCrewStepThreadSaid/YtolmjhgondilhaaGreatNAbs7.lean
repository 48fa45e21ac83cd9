/- append, cuts, slice literals, struct literals, make. -/
import Derived.Test.YtolmjhgondilhaaGreatNAbs5
set_option linter.unusedSimpArgs false
set_option linter.unusedVariables false
namespace Go.Abs
open Go Go.RowKit

def srcA (ti:TI)(J:AHeap)(x:AV):Option (List (List AV)):=
 match x with
 |.fsl es=>if es.all (fun e=>e.length==ti.sz) then some es else none
 |.sl o r m=>(J.objs o).bind fun ob=>if(ob.sz=ti.sz/\r+m<=ob.rows.length)/\(((ob.rows.drop r).take m).all fun e=>e.all AV.lin1)=true then some ((ob.rows.drop r).take m) else none
 |.nilsl=>some []
 |.esl=>some []
 |_=>none

def Src (C:Phi0)(ow:Nat->Prop)(w:World)(sz:Nat)(cx:Value)(E:List (List AV)):Prop:=
 ∃a c,cx=.slice a E.length c/\(E=[]\/∃ad,a=some ad/\∀(r:Nat) (e:List AV),E[r]? =some e->e.length=sz/\∀(i:Nat) (x:AV),e[i]? =some x->x.one=true/\∃v,w.cell? (ad.add (r*sz+i))=some v/\VRel C ow w x v)

theorem srcA_sound {G C J w ti x cx E}(hR:R0 G C J w)(hx:VRel C (own0 C J) w x cx)(h:srcA ti J x=some E):Src C (own0 C J) w ti.sz cx E:=by
 unfold srcA at h
 split at h
 .rename_i es
  split at h
  .rename_i hall
   cases h
   simp only[List.all_eq_true,beq_iff_eq] at hall
   cases hx with
   |fsl0=>exact⟨_,_,rfl,.inl rfl⟩
   |fsl vs hone hn hb hno hsz hcap hm hlen hcell hv=>
    rename_i n b off cap sz
    subst hn
    refine⟨_,_,rfl,.inr ⟨_,rfl,fun r e hr=>?_⟩⟩
    have hmem:=List.mem_of_getElem? hr
    have e1:=hlen r e hr
    have e2:=hall e hmem
    have e3:sz=ti.sz:=e1.symm.trans e2
    refine⟨e2,fun i y hy=>⟨hone e hmem y (List.mem_of_getElem? hy),vs r i,?_,hv r e hr i y hy⟩⟩
    rw[Addr.add_lit,<- e3]
    exact hcell r e hr i y hy
  .cases h
 .rename_i o r m
  cases ho:J.objs o with
  |none=>simp[ho] at h
  |some ob=>
  simp only[ho,Option.bind_some] at h
  split at h
  .rename_i hc
   obtain⟨hc,_⟩:=hc
   cases h
   have hlen:((ob.rows.drop r).take m).length=m:=by simp;omega
   cases hx with
   |sl hC hsz hn hcm hw he=>
    rename_i b sz cap T arr
    have hob:=hR.obj o ob ho
    rw[hC] at hob
    obtain⟨rfl,h0,arr',hw',hle,hrows⟩:=hob.get hsz
    refine⟨_,_,by rw[hlen],.inr ⟨_,rfl,fun k e hk=>?_⟩⟩
    rw[List.getElem?_take] at hk
    split at hk
    .rw[List.getElem?_drop] at hk
     obtain⟨h1,h2⟩:=hrows _ e hk
     refine⟨by rw[h1];exact hc.1,fun i y hy=>?_⟩
     obtain⟨h3,v,h4,h5⟩:=h2 i y hy
     refine⟨h3,v,?_,h5⟩
     rw[Addr.add_lit,kY hw',<- hc.1,<- h4]
     congr 1
     rw[Nat.add_mul];omega
    .cases hk
   |sl0 _=>exact⟨_,_,by rw[hlen],.inl (by simp)⟩
   |sl1 _=>exact⟨_,_,by rw[hlen],.inl (by simp)⟩
  .cases h
 .cases h;cases hx;exact⟨_,_,rfl,.inl rfl⟩
 .cases h;cases hx;exact⟨_,_,rfl,.inl rfl⟩
 .cases h

theorem Src.news {C ow w sz cx E}(h:Src C ow w sz cx E)(h0:0<sz)(hne:E≠[]):∃ad c,∃news:List Value,cx=.slice (some ad) E.length c/\news.length=E.length*sz/\(∀j u,news[j]? =some u->w.cell? (ad.add j)=some u)/\
  (∀u∈news,u.oneCell'=true)/\Rows C ow w sz E news.toArray:=by
 obtain⟨a,c,rfl,h1⟩:=h
 obtain⟨ad,rfl,hE⟩:=h1.resolve_left hne
 have hq:∀q,q<E.length*sz->∃v,w.cell? (ad.add q)=some v/\v.oneCell'=true:=by
  intro q hq
  have hr:q / sz<E.length:=Nat.div_lt_of_lt_mul (by rw[Nat.mul_comm];exact hq)
  have e1:E[q / sz]? =some E[q / sz]:=by simp[hr]
  obtain⟨h2,h3⟩:=hE _ _ e1
  have hi:q % sz<E[q / sz].length:=by rw[h2];exact Nat.mod_lt _ h0
  obtain⟨h4,v,h5,h6⟩:=h3 (q % sz) _ (List.getElem?_eq_getElem hi)
  refine⟨v,?_,pN h6 h4⟩
  rw[<- h5]
  congr 2
  rw[Nat.mul_comm]
  exact(Nat.div_add_mod q sz).symm
 refine⟨ad,c,(List.range (E.length*sz)).map fun q=>(w.cell? (ad.add q)).getD undef,rfl,by simp,fun j u hj=>?_,fun u hu=>?_,fun r e hr=>?_⟩
 .rw[List.getElem?_map] at hj
  by_cases hl:j<E.length*sz
  .obtain⟨v,h2,_⟩:=hq j hl
   simp[hl,h2] at hj
   rw[h2,hj]
  .simp[hl] at hj
 .rw[List.mem_map] at hu
  obtain⟨q,hq',rfl⟩:=hu
  obtain⟨v,h2,h3⟩:=hq q (List.mem_range.1 hq')
  simp[h2,h3]
 .obtain⟨h2,h3⟩:=hE r e hr
  refine⟨h2,fun i x hx=>?_⟩
  obtain⟨h4,v,h5,h6⟩:=h3 i x hx
  have hi:i<sz:=by rw[<- h2];exact(List.getElem?_eq_some_iff.1 hx).1
  have hrl:r<E.length:=(List.getElem?_eq_some_iff.1 hr).1
  have hlt:r*sz+i<E.length*sz:=idx_lt (j:=0) hrl hi
  exact⟨h4,v,by simp[hlt,h5],h6⟩

def kF (T:Types)(t:TypeId)(id:Nat)(s x:AV)(J:AHeap):Option (AV×AHeap):=
 match T.kind t with
 |some (.slice e)=>(T e).bind fun ti=>(srcA ti J x).bind fun E=>
  match s with
  |.sl o 0 n=>(J.objs o).bind fun ob=>
   if 0<ti.sz/\ob.ty=e/\ob.sz=ti.sz/\n<=ob.rows.length/\n+E.length<=maxLen/\(n+E.length)*ti.bytes<=140737488355328 then
    some (.sl id 0 (n+E.length),(J.kill o).put id ⟨e,ti.sz,ob.rows.take n++E⟩) else none
  |.nilsl=>if 0<ti.sz/\E.length<=maxLen/\E.length*ti.bytes<=140737488355328 then some (.sl id 0 E.length,J.put id ⟨e,ti.sz,E⟩) else none
  |.esl=>if 0<ti.sz/\E.length<=maxLen/\E.length*ti.bytes<=140737488355328 then some (.sl id 0 E.length,J.put id ⟨e,ti.sz,E⟩) else none
  |_=>none
 |_=>none

def AV.noRoom:AV->Bool
 |.nilsl=>true
 |.esl=>true
 |_=>false

def jM (T:Types)(t:TypeId)(s x:AV)(J:AHeap):Option (AV×AHeap):=
 match T.kind t with
 |some (.slice e)=>(T e).bind fun ti=>(srcA ti J x).bind fun E=>
  if s.noRoom=true/\0<ti.sz/\E.length<=maxLen/\E.length*ti.bytes<=140737488355328 then some (.fsl E,J) else none
 |_=>none

inductive Fz (o:Nat) (rows:List (List AV)):AV->AV->Prop where
 |refl (x:AV):Fz o rows x x
 |sl {r n:Nat} (h:r+n<=rows.length):Fz o rows (.sl o r n) (.fsl ((rows.drop r).take n))
 |ptr {r i:Nat} {row:List AV} (h:rows[r]? =some row):Fz o rows (.ptr o r i) (.fptr row i)
 |tup {xs ys:List AV} (hl:xs.length=ys.length) (h:∀(i:Nat) (x y:AV),xs[i]? =some x->ys[i]? =some y->Fz o rows x y):Fz o rows (.tup xs) (.tup ys)
 |agg {xs ys:List AV} (hl:xs.length=ys.length) (h:∀(i:Nat) (x y:AV),xs[i]? =some x->ys[i]? =some y->Fz o rows x y):Fz o rows (.agg xs) (.agg ys)

theorem Fz.sound {G C J w o ob x y}(hR:R0 G C J w)(ho:J.objs o=some ob)(h:Fz o ob.rows x y):∀{v:Value},VRel C (own0 C J) w x v->VRel C (own0 C (J.kill o)) w y v:=by
 obtain⟨_,he⟩:=hR.kill o (fun _=>False)
 have hno:∀b sz,C o=some (b,sz)->0<sz->¬own0 C (J.kill o) b:=by
  rintro b sz h1 h0 ⟨k,x,s,h2,h3,h4⟩
  simp only[AHeap.kill] at h2
  split at h2
  .cases h2
  .rename_i hne
   exact hne (hR.inj k o b s sz x ob h2 ho h3 h1 h4 h0)
 induction h with
 |refl x=>intro v hv;exact hv.mono he
 |sl hrn=>
  rename_i r n
  intro v hv
  have hlen:((ob.rows.drop r).take n).length=n:=by simp;omega
  cases hv with
  |sl0 _=>simp;exact .fsl0
  |sl1 _=>simp;exact .fsl0
  |sl hC hsz hn hcm hw hle=>
   rename_i b sz cap T arr
   have hob:=hR.obj o ob ho
   rw[hC] at hob
   obtain⟨e1,_,arr',hw',hl',hrows⟩:=hob.get hsz
   by_cases hz:n=0
   .subst hz;simp;exact .fsl0
   have get:∀(j:Nat) (row:List AV),((ob.rows.drop r).take n)[j]? =some row->ob.rows[r+j]? =some row:=by
    intro j row hj
    rw[List.getElem?_take] at hj
    split at hj
    .rwa [List.getElem?_drop] at hj
    .cases hj
   have mem:∀row∈(ob.rows.drop r).take n,∃j:Nat,ob.rows[r+j]? =some row:=by
    intro row hrow
    obtain⟨j,hj,rfl⟩:=List.getElem_of_mem hrow
    exact⟨j,get j _ (List.getElem?_eq_getElem hj)⟩
   refine VRel.fsl (sz:=sz) (fun j i=>arr'.getD ((r+j)*sz+i) undef) (fun row hrow x hx=>?_) hlen (yL hw) (hno b sz hC hsz) hsz hn hcm (fun j row hj=>(hrows _ row (get j row hj)).1) (fun j row hj i x hx=>?_) (fun j row hj i x hx=>?_)
   .obtain⟨j,hj⟩:=mem row hrow
    obtain⟨i,hi,rfl⟩:=List.getElem_of_mem hx
    exact((hrows _ row hj).2 i _ (List.getElem?_eq_getElem hi)).1
   .obtain⟨_,u,h3,_⟩:=(hrows _ row (get j row hj)).2 i x hx
    rw[kY hw',show r*sz+(j*sz+i)=(r+j)*sz+i by rw[Nat.add_mul];omega,h3,Array.getD_eq_getD_getElem?,h3];rfl
   .obtain⟨_,u,h3,h4⟩:=(hrows _ row (get j row hj)).2 i x hx
    rw[Array.getD_eq_getD_getElem?,h3]
    exact h4.mono he
 |ptr hr=>
  rename_i r i row
  intro v hv
  cases hv with
  |ptr hC=>
   rename_i b sz
   have hob:=hR.obj o ob ho
   rw[hC] at hob
   have hsz:0<sz:=by
    rcases Nat.eq_zero_or_pos sz with e|e
    .obtain⟨b',sz',e1,h2',_⟩:=hob
     cases e1
     rw[h2' e] at hr
     simp at hr
    .exact e
   obtain⟨e1,_,arr',hw',hl',hrows⟩:=hob.get hsz
   refine VRel.fptr (off:=r*sz) (fun j=>arr'.getD (r*sz+j) undef) (fun x hx=>?_) (yL hw') (hno b sz hC hsz) (fun j x hj=>?_) (fun j x hj=>?_)
   .obtain⟨j,hj,rfl⟩:=List.getElem_of_mem hx
    exact((hrows r row hr).2 j _ (List.getElem?_eq_getElem hj)).1
   .obtain⟨_,u,h3,_⟩:=(hrows r row hr).2 j x hj
    rw[kY hw',h3,Array.getD_eq_getD_getElem?,h3];rfl
   .obtain⟨_,u,h3,h4⟩:=(hrows r row hr).2 j x hj
    rw[Array.getD_eq_getD_getElem?,h3]
    exact h4.mono he
 |tup hl _ ih=>
  intro v hv
  cases hv with
  |tup hl' hv'=>
   refine .tup (hl.symm.trans hl') fun i y u hy hu=>?_
   have hi:=(List.getElem?_eq_some_iff.1 hy).1
   exact ih i _ y (List.getElem?_eq_getElem (by omega)) hy (hv' i _ u (List.getElem?_eq_getElem (by omega)) hu)
 |agg hl _ ih=>
  intro v hv
  cases hv with
  |agg hl' hv'=>
   refine .agg (hl.symm.trans hl') fun i y u hy hu=>?_
   have hi:=(List.getElem?_eq_some_iff.1 hy).1
   exact ih i _ y (List.getElem?_eq_getElem (by omega)) hy (hv' i _ u (List.getElem?_eq_getElem (by omega)) hu)


theorem Rows.append {C ow}{w:World}{sz:Nat}{A B:List (List AV)}{a b c:Array Value}(hA:Rows C ow w sz A a)(hB:Rows C ow w sz B b)(ha:a.size=A.length*sz)(hb:b.size=B.length*sz):
  Rows C ow w sz (A++B) (a++b++c):=by
 intro r e hr
 rw[List.getElem?_append] at hr
 split at hr
 .rename_i hlt
  obtain⟨h1,h2⟩:=hA r e hr
  refine⟨h1,fun i x hx=>?_⟩
  obtain⟨h3,v,h4,h5⟩:=h2 i x hx
  have hi:i<sz:=by rw[<- h1];exact(List.getElem?_eq_some_iff.1 hx).1
  have:r*sz+i<A.length*sz:=idx_lt (j:=0) hlt hi
  refine⟨h3,v,?_,h5⟩
  rw[Array.append_assoc,Array.getElem?_append_left (by omega)]
  exact h4
 .rename_i hge
  obtain⟨h1,h2⟩:=hB _ e hr
  refine⟨h1,fun i x hx=>?_⟩
  obtain⟨h3,v,h4,h5⟩:=h2 i x hx
  have hrl:r-A.length<B.length:=(List.getElem?_eq_some_iff.1 hr).1
  have hi:i<sz:=by rw[<- h1];exact(List.getElem?_eq_some_iff.1 hx).1
  have hlt:(r-A.length)*sz+i<B.length*sz:=idx_lt (j:=0) hrl hi
  have hmul:r*sz=(r-A.length)*sz+A.length*sz:=by rw[<- Nat.add_mul];congr 1;omega
  refine⟨h3,v,?_,h5⟩
  rw[Array.append_assoc,Array.getElem?_append_right (by omega),ha,show r*sz+i-A.length*sz=(r-A.length)*sz+i by omega,Array.getElem?_append_left (by omega)]
  exact h4

theorem Rows.take {C ow}{w:World}{sz:Nat}{A:List (List AV)}{a:Array Value}(h:Rows C ow w sz A a)(n:Nat):Rows C ow w sz (A.take n) a:=by
 intro r e hr
 rw[List.getElem?_take] at hr
 split at hr
 .exact h r e hr
 .cases hr

theorem Rows.first {C ow}{w:World}{sz:Nat}{A:List (List AV)}{a:Array Value}(h:Rows C ow w sz A a)(k:Nat)(hk:k=A.length*sz):Rows C ow w sz A (a.toList.take k).toArray:=by
 subst hk
 intro r e hr
 obtain⟨h1,h2⟩:=h r e hr
 refine⟨h1,fun i x hx=>?_⟩
 obtain⟨h3,v,h4,h5⟩:=h2 i x hx
 have hrl:r<A.length:=(List.getElem?_eq_some_iff.1 hr).1
 have hi:i<sz:=by rw[<- h1];exact(List.getElem?_eq_some_iff.1 hx).1
 have hlt:r*sz+i<A.length*sz:=idx_lt (j:=0) hrl hi
 refine⟨h3,v,?_,h5⟩
 simp[List.getElem?_take,hlt,h4]

end Go.Abs

/- append: the machine's side. -/
set_option linter.unusedSimpArgs false
set_option linter.unusedVariables false
namespace Go.Abs
open Go Go.RowKit

theorem HPost0.le {G id C J w v J' cv w' C0 J0 w0}(h:HPost0 G id C J w v J' cv w')(he:Ext0 (·≠id) C0 J0 w0 C J w):HPost0 G id C0 J0 w0 v J' cv w':=by
 obtain⟨C',h1,h2,h3⟩:=h
 exact⟨C',h1,he.trans h2,h3⟩

theorem mK {P:Program}(w:World)(t ty e:TypeId)(i:TypeInfo)(ht:P.underlying t=some (.slice e))(hi:P.info? e=some i)(b a:Option Addr)(n cap c:Nat)(hn:n<=cap):
  (Builtin.append_ #[t,t] ty #[.slice b n cap,.slice a 0 c]).run P w=.ok (.slice b n cap) w:=by
 cases a<;>cases b<;>simp[Builtin.append_,run_underlying ht,sizeOf,typeInfo,hi,Builtin.lenOf,hn,Builtin.firstCells,loadCells,loadCellsFrom,storeCells]

theorem gE {G C J w id e sz rows arr N cap}(hR:R0 G C J w)(hid:id<J.next)(ho:J.objs id=none)(hC:C id=none)(hsz:0<sz)(hN:rows.length=N)
  (hcap:N<=cap) (hcm:cap<=maxLen) (hsize:arr.size=cap*sz) (hrel:Rows C (own0 C J) w sz rows arr):
  HPost0 G id C J w (.sl id 0 N) (J.put id ⟨e,sz,rows⟩) (.slice (some ⟨w.heap.size,0,none⟩) N cap) (w.drew.alloc (.cells arr e)):=by
 have hnew:(w.drew.alloc (.cells arr e)).heap[w.heap.size]? =some (.cells arr e (0,0)):=heap_alloc_new w.drew _
 obtain⟨h1,h2⟩:=hR.new (w':=w.drew.alloc (.cells arr e)) (ty:=e) (sz:=sz) (rows:=rows) (arr:=arr) hid ho hC hsz rfl rfl rfl (by simp)
  (fun b hb=>heap_alloc_old w.drew _ b hb) hnew (by rw[hsize,hN];exact Nat.mul_le_mul_right _ hcap) hrel
 refine⟨_,h1,h2,?_⟩
 have:=VRel.sl (C:=setC C id (w.heap.size,sz)) (ow:=own0 (setC C id (w.heap.size,sz)) (J.put id ⟨e,sz,rows⟩)) (o:=id) (r:=0) (n:=N) (b:=w.heap.size) (sz:=sz) (by simp[setC]) hsz hcap hcm hnew (by rw[hsize,Nat.zero_add])
 simpa using this

theorem fU (J:AHeap)(o id:Nat)(h:J.objs id=none):(J.kill o).objs id=none:=by
 simp only[AHeap.kill];split<;>simp_all

theorem put_kill (J:AHeap)(o:Nat)(x:AObj):(J.put o x).kill o=J.kill o:=by
 simp only[AHeap.put,AHeap.kill]
 congr 1
 funext k
 split<;>simp_all

theorem dD {P T G C J w t ty id s x v J' cs cx}(hT:TOk P T)(hR:R0 G C J w)(hid:id<J.next)(ho:J.objs id=none)(hC:C id=none)
  (hs:VRel C (own0 C J) w s cs) (hx:VRel C (own0 C J) w x cx) (h:kF T t id s x J=some (v,J')):
  ∃cv w',(Builtin.append_ #[t,t] ty #[cs,cx]).run P w=.ok cv w'/\HPost0 G id C J w v J' cv w':=by
 unfold kF at h
 split at h
 case h_2=>cases h
 rename_i e hk
 obtain⟨d,hd,hdk⟩:=hT.under hk
 cases d<;>simp[tkOf] at hdk
 subst hdk
 rename_i e
 cases he:T e with
 |none=>simp[he] at h
 |some ti=>
 cases hE:srcA ti J x with
 |none=>simp[he,hE] at h
 |some E=>
 simp only[he,hE,Option.bind_some] at h
 have hsrc:=srcA_sound hR hx hE
 obtain⟨i,hi,hisz,hiby,z,hz,hzc⟩:=hT.info he
 have hzs:z.cells.size=ti.zero.length:=by have:=congrArg List.length hzc;simpa using this

 have nilcase:∀(a0:Option Addr) (J1:AHeap),R0 G C J1 w->Ext0 (·≠id) C J w C J1 w->J1.objs id=none->id<J1.next->Src C (own0 C J1) w ti.sz cx E->0<ti.sz->E.length<=maxLen->E.length*ti.bytes<=140737488355328->
   ∃cv w',(Builtin.append_ #[t,t] ty #[.slice a0 0 0,cx]).run P w=.ok cv w'/\HPost0 G id C J w (.sl id 0 E.length) (J1.put id ⟨e,ti.sz,E⟩) cv w':=by
  intro a0 J1 hR1 hext ho1 hid1 hsrc1 h0 hm hb
  by_cases hne:E=[]
  .subst hne
   obtain⟨a,c,rfl,_⟩:=hsrc1
   refine⟨_,_,mK w t ty e i hd hi a0 a 0 0 c (Nat.le_refl _),?_⟩
   obtain⟨h1,h2⟩:=hR1.newv (ty:=e) (sz:=ti.sz) hid1 ho1 hC
   exact⟨_,h1,hext.trans h2,.sl0 (b:=0) (sz:=0) (by simp[setC])⟩
  .obtain⟨ad,c,news,rfl,hl,hnews,h1,hrows⟩:=hsrc1.news h0 hne
   have hpos:0<E.length:=List.length_pos_iff.2 hne
   have hlen63:(E.length:Int)<=9223372036854775807:=by simp only[maxLen] at hm;omega
   have hr:(Builtin.append_ #[t,t] ty #[.slice a0 0 0,.slice (some ad) E.length c]).run P w=.ok (.slice (some ⟨w.heap.size,0,none⟩) E.length (grownCap w E.length 0 e)) (w.drew.alloc (.cells (#[]++news.toArray++Builtin.zeroCells z.cells (grownCap w E.length 0 e-E.length)) e)):=by
    cases a0 with
    |none=>simpa using run_append_nil (P:=P) w t ty e i z hd hi hz ad E.length c news (by rw[hisz];exact hl) hnews hpos hlen63 (by rw[hiby];omega)
    |some ad0=>
     have:=run_append_grow (P:=P) w t ty e i z hd hi hz ad0 0 0 [] (by simp) (fun j v hj=>by simp at hj) ad E.length c news (by rw[hisz];exact hl) hnews (by omega) (by omega) (growslice_fits (by omega) (by rw[hiby,Nat.zero_add];exact hb))
     simpa using this
   refine⟨_,_,hr,HPost0.le (gE hR1 hid1 ho1 hC h0 rfl ?_ ?_ ?_ ?_) hext⟩
   .have:=grownCap_ge w E.length 0 e;omega
   .exact grownCap_le_maxLen w E.length 0 e hm
   .have hge:=grownCap_ge w E.length 0 e
    have hzsz:z.cells.size=ti.sz:=hzs.trans (hT e ti he).2.2.2.1
    simp only[Array.size_append,List.size_toArray,size_zeroCells,hl,hzsz,List.length_nil,Nat.zero_add]
    rw[<- Nat.add_mul];congr 1;omega
   .have:=Rows.append (c:=Builtin.zeroCells z.cells (grownCap w E.length 0 e-E.length)) (A:=[]) (a:= #[]) (fun r e hr=>by simp at hr) hrows (by simp) (by simpa using hl)
    simpa using this
 split at h
 .rename_i o n
  cases hob:J.objs o with
  |none=>simp[hob] at h
  |some ob=>
  simp only[hob,Option.bind_some] at h
  split at h
  case isFalse=>cases h
  rename_i hc
  obtain⟨h0,hty,hosz,hnr,hm,hbytes⟩:=hc
  obtain⟨rfl,rfl⟩:v=.sl id 0 (n+E.length)/\J'=(J.kill o).put id ⟨e,ti.sz,ob.rows.take n++E⟩:=by
   have:=Option.some.inj h;exact⟨(congrArg Prod.fst this).symm,(congrArg Prod.snd this).symm⟩
  obtain⟨hRk,hek⟩:=hR.kill o (·≠id)
  cases hs with
  |@sl0 _ _ _ a0 _=>
   have:=nilcase a0 (J.kill o) hRk hek (fU J o id ho) hid (by
    obtain⟨a,c,h1,h2⟩:=hsrc
    refine⟨a,c,h1,h2.imp (fun h=>h) fun⟨ad,h3,h4⟩=>⟨ad,h3,fun r e hr=>⟨(h4 r e hr).1,fun i y hy=>?_⟩⟩⟩
    obtain⟨h5,v,h6,h7⟩:=(h4 r e hr).2 i y hy
    exact⟨h5,v,h6,h7.mono hek⟩) h0 (by omega) (by simpa using hbytes)
   simpa using this
  |sl hCo hsz hncap hcm hw hle=>
   rename_i b sz cap T' arr
   have hobr:=hR.obj o ob hob
   rw[hCo] at hobr
   obtain⟨rfl,_,arr',hw',hrle,hrows⟩:=hobr.get hsz
   rw[hw] at hw'
   cases hw'
   simp only[Nat.zero_mul,Nat.zero_add] at hle ⊢
   subst hty
   have hA:Rows C (own0 C J) w ob.sz (ob.rows.take n) (arr.toList.take (n*ob.sz)).toArray:=Rows.first (Rows.take hrows n) _ (by simp[Nat.min_eq_left hnr])
   have hnle:n*ob.sz<=arr.size:=by rw[<- hle];exact Nat.mul_le_mul_right _ hncap
   have hlenA:(arr.toList.take (n*ob.sz)).length=n*ob.sz:=by simp;omega

   have place:∀(w':World) (arr1:Array Value),w'.os=w.os->w'.tape=w.tape->w'.output=w.output->w'.heap.size=w.heap.size->(∀k,k≠b->w'.heap[k]? =w.heap[k]?)->w'.heap[b]? =some (.cells arr1 ob.ty (0,0))->arr1.size=arr.size->
     n+E.length<=cap->Rows C (own0 C J) w ob.sz (ob.rows.take n++E) arr1->
     HPost0 G id C J w (.sl id 0 (n+E.length)) ((J.kill o).put id ⟨ob.ty,ti.sz,ob.rows.take n++E⟩) (.slice (some ⟨b,0,none⟩) (n+E.length) cap) w':=by
    intro w' arr1 q1 q2 q3 q4 q5 q6 q7 q8 q9
    have hl1:(ob.rows.take n++E).length=n+E.length:=by simp;omega
    obtain⟨g1,g2⟩:=hR.write (w':=w') (rows:=ob.rows.take n++E) (arr:=arr1) (·≠id) hob hCo hsz q1 q2 q3 q4 q5 q6 (fun old T'' fz hold=>by rw[hw] at hold;cases hold;exact q7)
     (by rw[hl1,q7,<- hle];exact Nat.mul_le_mul_right _ q8) q9
    have ho1:(J.put o ⟨ob.ty,ob.sz,ob.rows.take n++E⟩).objs id=none:=by
     have:id≠o:=by rintro rfl;rw[ho] at hob;cases hob
     simp[AHeap.put,this,ho]
    obtain⟨g3,g4⟩:=g1.rename (o:=o) (id:=id) (ob:=⟨ob.ty,ob.sz,ob.rows.take n++E⟩) (by simp[AHeap.put]) hid ho1 hC
    rw[put_kill] at g3 g4
    rw[<- hosz]
    refine⟨_,g3,g2.trans g4,?_⟩
    have:=VRel.sl (C:=fun k=>if k=id then C o else C k) (ow:=own0 (fun k=>if k=id then C o else C k) ((J.kill o).put id ⟨ob.ty,ob.sz,ob.rows.take n++E⟩)) (w:=w') (o:=id) (r:=0) (n:=n+E.length) (b:=b) (sz:=ob.sz) (cap:=cap)
     (by simp[hCo]) hsz q8 hcm q6 (by rw[Nat.zero_add,hle,q7])
    simpa using this
   by_cases hne:E=[]
   .subst hne
    obtain⟨a,c,rfl,_⟩:=hsrc
    refine⟨_,_,mK w t ty ob.ty i hd hi _ a n cap c hncap,?_⟩
    have:=place w arr rfl rfl rfl rfl (fun _ _=>rfl) hw rfl (by simpa using hncap) (by simpa using Rows.take hrows n)
    simpa using this
   .obtain⟨ad,c,news,rfl,hl,hnews,h1,hrE⟩:=hsrc.news h0 hne
    rw[<- hosz] at hl hrE
    have hpos:0<E.length:=List.length_pos_iff.2 hne
    by_cases hroom:n+E.length<=cap
    .have hfit:n*ob.sz+news.length<=arr.size:=by rw[hl,<- Nat.add_mul,<- hle];exact Nat.mul_le_mul_right _ hroom
     have hr:=run_append_room (P:=P) w t ty ob.ty i hd hi b n cap arr hw ad E.length c news (by rw[hisz,<- hosz];exact hl) hnews h1 hroom (by rw[hisz,<- hosz];exact hfit)
     rw[hisz,<- hosz] at hr
     refine⟨_,_,hr,place _ _ rfl rfl rfl (by simp[World.setRow]) (fun k hk=>setRow_other w b k _ hk) (setRow_heap w b arr _ ob.ty _ hw) (by simp;omega) hroom ?_⟩
     have:=Rows.append (c:=(arr.toList.drop (n*ob.sz+news.length)).toArray) hA hrE (by simp[Nat.min_eq_left hnr];omega) (by simpa using hl)
     simpa using this
    .have holds:∀j v,(arr.toList.take (n*ob.sz))[j]? =some v->w.cell? ((⟨b,0,none⟩:Addr).add j)=some v:=by
      intro j v hj
      rw[Addr.add_lit,Nat.zero_add,kY hw]
      rw[List.getElem?_take] at hj
      split at hj
      .simpa using hj
      .cases hj
     have hr:=run_append_grow (P:=P) w t ty ob.ty i z hd hi hz ⟨b,0,none⟩ n cap (arr.toList.take (n*ob.sz)) (by rw[hisz,<- hosz];exact hlenA) holds ad E.length c news (by rw[hisz,<- hosz];exact hl) hnews
      (by omega) (by simp only[maxLen] at hm;omega) (growslice_fits (by omega) (by rw[hiby];exact hbytes))
     have hge:=grownCap_ge w (n+E.length) cap ob.ty
     have hzsz:z.cells.size=ob.sz:=(hzs.trans (hT ob.ty ti he).2.2.2.1).trans hosz.symm
     have hrows2:Rows C (own0 C (J.kill o)) w ti.sz (ob.rows.take n++E) ((arr.toList.take (n*ob.sz)).toArray++news.toArray++Builtin.zeroCells z.cells (grownCap w (n+E.length) cap ob.ty-(n+E.length))):=by
      rw[<- hosz]
      exact Rows.mono hek (Rows.append hA hrE (by simp[Nat.min_eq_left hnr];omega) (by simpa using hl))
     refine⟨_,_,hr,HPost0.le (gE hRk hid (fU J o id ho) hC h0 (by simp;omega) hge (grownCap_le_maxLen w _ cap ob.ty hm) ?_ hrows2) hek⟩
     simp only[Array.size_append,List.size_toArray,size_zeroCells,hlenA,hl,hzsz,<- Nat.add_mul,<- hosz]
     congr 1
     omega
 .split at h
  case isFalse=>cases h
  rename_i hc
  obtain⟨rfl,rfl⟩:v=.sl id 0 E.length/\J'=J.put id ⟨e,ti.sz,E⟩:=by
   have:=Option.some.inj h;exact⟨(congrArg Prod.fst this).symm,(congrArg Prod.snd this).symm⟩
  cases hs
  exact nilcase _ J hR (Ext0.refl (·≠id) C J w) ho hid hsrc hc.1 hc.2.1 hc.2.2
 .split at h
  case isFalse=>cases h
  rename_i hc
  obtain⟨rfl,rfl⟩:v=.sl id 0 E.length/\J'=J.put id ⟨e,ti.sz,E⟩:=by
   have:=Option.some.inj h;exact⟨(congrArg Prod.fst this).symm,(congrArg Prod.snd this).symm⟩
  cases hs
  exact nilcase _ J hR (Ext0.refl (·≠id) C J w) ho hid hsrc hc.1 hc.2.1 hc.2.2
 .cases h

theorem appendF_sound {P T G C J w t ty id s x v J' cs cx}(hT:TOk P T)(hR:R0 G C J w)(hid:id<J.next)(ho:J.objs id=none)(hC:C id=none)
  (hs:VRel C (own0 C J) w s cs) (hx:VRel C (own0 C J) w x cx) (h:jM T t s x J=some (v,J')):
  ∃cv w',(Builtin.append_ #[t,t] ty #[cs,cx]).run P w=.ok cv w'/\HPost0 G id C J w v J' cv w':=by
 unfold jM at h
 split at h
 case h_2=>cases h
 rename_i e hk
 cases he:T e with
 |none=>simp[he] at h
 |some ti=>
 cases hE:srcA ti J x with
 |none=>simp[he,hE] at h
 |some E=>
 simp only[he,hE,Option.bind_some] at h
 split at h
 case isFalse=>cases h
 rename_i hc
 obtain⟨hs0,hc⟩:=hc
 obtain⟨rfl,rfl⟩:v=.fsl E/\J'=J:=by have:=Option.some.inj h;exact⟨(congrArg Prod.fst this).symm,(congrArg Prod.snd this).symm⟩
 have ha:kF T t id s x J'=some (.sl id 0 E.length,J'.put id ⟨e,ti.sz,E⟩):=by
  unfold kF
  cases s<;>first|cases hs0;done|simp[hk,he,hE,hc]
 obtain⟨cv,w',h1,C',h2,h3,h4⟩:=dD (ty:=ty) hT hR hid ho hC hs hx ha
 obtain⟨k1,k2⟩:=h2.kill id (·≠id)
 have hk0:(J'.put id ⟨e,ti.sz,E⟩).kill id=J':=by
  rw[put_kill]
  simp only[AHeap.kill]
  congr 1
  funext k
  split
  .rename_i e;rw[e,ho]
  .rfl
 have hf:Fz id E (.sl id 0 E.length) (.fsl E):=by
  have:=Fz.sl (o:=id) (rows:=E) (r:=0) (n:=E.length) (by omega)
  simpa using this
 have h5:=Fz.sound (ob:=⟨e,ti.sz,E⟩) h2 (by simp[AHeap.put]) hf h4
 rw[hk0] at k1 k2 h5
 exact⟨cv,w',h1,C',k1,h3.trans k2,h5⟩

end Go.Abs
