/- States that may stand for one another: names, lists that a cell owns, values that are only read. -/
import Derived.Test.YtolmjhgondilhaaGreatNAbsM
set_option linter.unusedSimpArgs false
set_option linter.unusedVariables false
namespace Go.Abs
open Go

theorem Lift.ren {J J0 fr o id ob rows0}(h:Lift J J0 fr)(ho:J.objs o=some ob)(ho0:J0.objs o=some ⟨ob.ty,ob.sz,rows0⟩)(hid:J0.objs id=none):
  Lift ((J.kill o).put id ob) ((J0.kill o).put id ⟨ob.ty,ob.sz,rows0⟩) fr/\∀d,fr d->((J0.kill o).put id ⟨ob.ty,ob.sz,rows0⟩).objs d=J0.objs d:=by
 obtain⟨hnx,par,hp⟩:=h
 have hoid:o≠id:=by rintro rfl;rw[ho0] at hid;cases hid
 have hne:∀d,fr d->d≠id/\d≠o:=by
  rintro d hd
  exact⟨by rintro rfl;exact(hp.frs _ hd).2 hid,by rintro rfl;rw[(hp.frs _ hd).1] at ho;cases ho⟩
 have hhid:∀d l,par d=some l->d≠id/\d≠o:=fun d l hd=>⟨by rintro rfl;exact(hp.hid _ _ hd).2.1 hid,hp.ne ho hd⟩
 let f:Nat->Nat:=fun x=>if x=o then id else x
 let par':Par:=fun d=>(par d).map fun l=>(f l.1,l.2)
 have hm:∀d l,par d=some l->¬False->((J0.kill o).put id ⟨ob.ty,ob.sz,rows0⟩).objs d=J0.objs d/\par' d=some (f l.1,l.2)/\f d=d/\∀(r i:Nat),¬False:=by
  intro d l hd _
  obtain⟨g1,g2⟩:=hhid d l hd
  exact⟨by simp[AHeap.put,AHeap.kill,g1,g2],by simp[par',hd],by simp[f,g2],fun _ _ h=>h⟩
 refine⟨⟨hnx,par',fun o' ob' ho'=>?_,fun d l hd=>?_,fun d hd=>?_⟩,fun d hd=>by simp[AHeap.put,AHeap.kill,(hne d hd).1,(hne d hd).2]⟩
 .by_cases e:o'=id
  .subst e
   simp[AHeap.put] at ho'
   subst ho'
   refine⟨rows0,by simp[AHeap.put],?_⟩
   obtain⟨rows0',q1,q2,q3⟩:=hp.vis o ob ho
   rw[ho0] at q1;cases q1
   refine⟨q2,fun r e e0 h1 h2=>?_⟩
   obtain⟨g1,g2⟩:=q3 r e e0 h1 h2
   refine⟨g1,fun i x y hx hy=>?_⟩
   have:=CL.ren f (fun _=>False) hm (g2 i x y hx hy) (fun h=>h)
   simpa [f] using this
  .have e2:o'≠o:=by rintro rfl;simp[AHeap.put,AHeap.kill,e] at ho'
   obtain⟨rows0',h1,h2,h3⟩:=hp.vis o' ob' (by simpa [AHeap.put,AHeap.kill,e,e2] using ho')
   refine⟨rows0',by simpa [AHeap.put,AHeap.kill,e,e2] using h1,h2,fun r e e0 q1 q2=>⟨(h3 r e e0 q1 q2).1,fun i x y hx hy=>?_⟩⟩
   have:=CL.ren f (fun _=>False) hm ((h3 r e e0 q1 q2).2 i x y hx hy) (fun h=>h)
   simpa [f,e2] using this
 .simp only[par',Option.map_eq_some_iff] at hd
  obtain⟨l',hd',rfl⟩:=hd
  obtain⟨h1,h2,h3⟩:=hp.hid d l' hd'
  obtain⟨g1,g2⟩:=hhid d l' hd'
  exact⟨by simpa [AHeap.put,AHeap.kill,g1,g2] using h1,by simpa [AHeap.put,AHeap.kill,g1,g2] using h2,h3⟩
 .obtain⟨h1,h2⟩:=hp.frs d hd
  exact⟨by simpa [AHeap.put,AHeap.kill,(hne d hd).1,(hne d hd).2] using h1,by simpa [AHeap.put,AHeap.kill,(hne d hd).1,(hne d hd).2] using h2⟩

theorem RowsL.recell {H H':Nat->Option AObj}{par par':Par}{o rows rows0 r row row0}(h:RowsL H par o rows rows0)(hr:rows[r]? =some row)(hr0:rows0[r]? =some row0)(i:Nat){y y0:AV}
  (hc:CL H' par' (o,r,i) y y0) (hm:∀r' i' x x0,¬(r'=r/\i'=i)->CL H par (o,r',i') x x0->CL H' par' (o,r',i') x x0):RowsL H' par' o (rows.set r (row.set i y)) (rows0.set r (row0.set i y0)):=by
 obtain⟨q2,q3⟩:=h
 refine⟨by simpa using q2,fun r' e e0 h1 h2=>?_⟩
 rw[List.getElem?_set] at h1 h2
 split at h1
 .rename_i hrr
  subst hrr
  split at h1
  case isFalse=>cases h1
  rw[if_pos rfl] at h2
  split at h2
  case isFalse=>cases h2
  cases h1;cases h2
  obtain⟨g1,g2⟩:=q3 r row row0 hr hr0
  refine⟨by simpa using g1,fun i' x x0 hx hy=>?_⟩
  rw[List.getElem?_set] at hx hy
  split at hx
  .rename_i hii
   subst hii
   split at hx
   case isFalse=>cases hx
   rw[if_pos rfl] at hy
   split at hy
   case isFalse=>cases hy
   cases hx;cases hy
   exact hc
  .rename_i hii
   rw[if_neg hii] at hy
   exact hm _ _ _ _ (fun h=>hii h.2.symm) (g2 i' x x0 hx hy)
 .rename_i hrr
  rw[if_neg hrr] at h2
  obtain⟨g1,g2⟩:=q3 r' e e0 h1 h2
  exact⟨g1,fun i' x x0 hx hy=>hm _ _ _ _ (fun h=>hrr h.1.symm) (g2 i' x x0 hx hy)⟩

theorem kC {O:Type}{l:List O}{i:Nat}{x:O}(h:l[i]? =some x):l.set i x=l:=by
 refine List.ext_getElem? fun j=>?_
 rw[List.getElem?_set]
 split
 .rename_i e;subst e
  split
  .exact h.symm
  .rename_i hn;have:=(List.getElem?_eq_some_iff.1 h).1;omega
 .rfl

theorem R.pk {G C J w o r i d n ob obd row}(hR:R G C J w)(ho:J.objs o=some ob)(hr:ob.rows[r]? =some row)(hi:row[i]? =some (.sl d 0 n))(hd:J.objs d=some obd)(hn:n<=obd.rows.length)(hod:o≠d):
  R G C ((J.kill d).put o ⟨ob.ty,ob.sz,ob.rows.set r (row.set i (.osl obd.ty obd.sz (obd.rows.take n)))⟩) w:=by
 obtain⟨hnx,par,hp⟩:=hR.lift
 obtain⟨rows0,h1,h2,h3⟩:=hp.vis o ob ho
 obtain⟨rowsd,k1,k2,k3⟩:=hp.vis d obd hd
 have hlt:r<ob.rows.length:=(List.getElem?_eq_some_iff.1 hr).1
 have hr0:rows0[r]? =some rows0[r]:=List.getElem?_eq_getElem (by omega)
 have hilt:i<row.length:=(List.getElem?_eq_some_iff.1 hi).1
 have hi0:rows0[r][i]? =some (.sl d 0 n):=by
  have hl:=(h3 r row _ hr hr0).1
  have hy:rows0[r][i]? =some rows0[r][i]:=List.getElem?_eq_getElem (by omega)
  rw[hy,((h3 r row _ hr hr0).2 i _ _ hi hy).eq rfl]
 let par':Par:=fun x=>if x=d then some (o,r,i) else par x
 have hpd:∀x l,par x=some l->x≠d:=fun x l hx=>hp.ne hd hx
 have hm:∀x l,par x=some l->C.fl.objs x=C.fl.objs x/\par' x=some l:=fun x l hx=>⟨rfl,by simp[par',hpd x l hx,hx]⟩
 refine⟨hR.base,hnx,par',fun o' ob' ho'=>?_,fun x l hx=>?_,fun x hx=>?_⟩
 .by_cases e:o'=o
  .subst e
   simp[AHeap.put] at ho'
   subst ho'
   refine⟨rows0,h1,?_⟩
   have hlen:(obd.rows.take n).length=n:=by simp;omega
   have key:CL C.fl.objs par' (o',r,i) (.osl obd.ty obd.sz (obd.rows.take n)) (.sl d 0 n):=by
    have:=CL.osl (H:=C.fl.objs) (par:=par') (o',r,i) obd.ty obd.sz (obd.rows.take n) d rowsd k1 (by simp[par']) (by omega)
     (fun r' e e0 q1 q2=>by
      rw[List.getElem?_take] at q1
      split at q1
      .exact(k3 r' e e0 q1 q2).1
      .cases q1)
     (fun r' e e0 i' x y q1 q2 q3 q4=>by
      rw[List.getElem?_take] at q1
      split at q1
      .exact((k3 r' e e0 q1 q2).2 i' x y q3 q4).mono hm
      .cases q1)
    rw[hlen] at this
    exact this
   have:=RowsL.recell (par':=par') (H':=C.fl.objs) ⟨h2,h3⟩ hr hr0 i key (fun r' i' x x0 _ hc=>hc.mono hm)
   rw[kC (l:=rows0[r]) hi0,kC hr0] at this
   exact this
  .have e2:o'≠d:=by rintro rfl;simp[AHeap.put,AHeap.kill,e] at ho'
   obtain⟨rows0',g1,g2⟩:=hp.vis o' ob' (by simpa [AHeap.put,AHeap.kill,e,e2] using ho')
   exact⟨rows0',g1,g2.mono hm⟩
 .by_cases e:x=d
  .subst e
   exact⟨by simp[AHeap.put,AHeap.kill,Ne.symm hod],by simp[k1],fun hf=>by rw[(hp.frs x hf).1] at hd;cases hd⟩
  .have hx':par x=some l:=by simpa [par',e] using hx
   obtain⟨g1,g2,g3⟩:=hp.hid x l hx'
   have:x≠o:=hp.ne ho hx'
   exact⟨by simpa [AHeap.put,AHeap.kill,this,e] using g1,g2,g3⟩
 .obtain⟨g1,g2⟩:=hp.frs x hx
  have e1:x≠o:=by rintro rfl;rw[g1] at ho;cases ho
  refine⟨?_,g2⟩
  simp only[AHeap.put,AHeap.kill,if_neg e1]
  split
  .rfl
  .exact g1

theorem R.pk0 {G C J w o r i ob row x}(ty sz:Nat)(hR:R G C J w)(ho:J.objs o=some ob)(hr:ob.rows[r]? =some row)(hi:row[i]? =some x)(hx:x=.nilsl\/x=.esl):
  R G C (J.put o ⟨ob.ty,ob.sz,ob.rows.set r (row.set i (.osl ty sz []))⟩) w:=by
 obtain⟨hnx,par,hp⟩:=hR.lift
 obtain⟨rows0,h1,h2,h3⟩:=hp.vis o ob ho
 have hlt:r<ob.rows.length:=(List.getElem?_eq_some_iff.1 hr).1
 have hr0:rows0[r]? =some rows0[r]:=List.getElem?_eq_getElem (by omega)
 have hilt:i<row.length:=(List.getElem?_eq_some_iff.1 hi).1
 have hi0:rows0[r][i]? =some x:=by
  have hl:=(h3 r row _ hr hr0).1
  have hy:rows0[r][i]? =some rows0[r][i]:=List.getElem?_eq_getElem (by omega)
  rw[hy,((h3 r row _ hr hr0).2 i _ _ hi hy).eq (by rcases hx with rfl|rfl<;>rfl)]
 refine⟨hR.base,hnx,par,fun o' ob' ho'=>?_,fun d l hd=>?_,fun d hd=>?_⟩
 .by_cases e:o'=o
  .subst e
   simp[AHeap.put] at ho'
   subst ho'
   refine⟨rows0,h1,?_⟩
   have:=RowsL.recell (par':=par) (H':=C.fl.objs) ⟨h2,h3⟩ hr hr0 i (.osl0 (o',r,i) ty sz x hx) (fun r' i' x x0 _ hc=>hc)
   rw[kC (l:=rows0[r]) hi0,kC hr0] at this
   exact this
  .exact hp.vis o' ob' (by simpa [AHeap.put,e] using ho')
 .obtain⟨g1,g2,g3⟩:=hp.hid d l hd
  have:d≠o:=hp.ne ho hd
  exact⟨by simpa [AHeap.put,this] using g1,g2,g3⟩
 .obtain⟨g1,g2⟩:=hp.frs d hd
  have e1:d≠o:=by rintro rfl;rw[g1] at ho;cases ho
  exact⟨by simpa [AHeap.put,e1] using g1,g2⟩

theorem fX {G C J w}(hR:R G C J w):R G (C.bump 1) (J.bump 1) w/\Ext (·<J.next) C J w (C.bump 1) (J.bump 1) w/\(C.bump 1).fl.objs J.next=none/\(C.bump 1).nm J.next=none/\J.next<(J.bump 1).next:=by
 obtain⟨h1,h2,h3⟩:=hR.bump 1 (·<J.next)
 have:=h3 0 (Nat.le_refl _) (by omega)
 exact⟨h1,h2,by simpa using this.1,by simpa using this.2,by simp[AHeap.bump]⟩

theorem R.newv {G C J w id ty sz}(hR:R G C J w)(hid:id<J.next)(ho:C.fl.objs id=none)(hC:C.nm id=none):
  ∃C',R G C' (J.put id ⟨ty,sz,[]⟩) w/\Ext (·≠id) C J w C' (J.put id ⟨ty,sz,[]⟩) w/\C'.nm id=some (0,0):=by
 obtain⟨h1,h2⟩:=hR.base.newv (ty:=ty) (sz:=sz) (by rw[hR.nxt];exact hid) ho hC
 obtain⟨h3,h4⟩:=hR.lift.put ⟨ty,sz,[]⟩ ho
 exact⟨⟨_,_,C.fr⟩,⟨h1,h3⟩,⟨h2,fun d hd=>⟨hd,h4 d hd⟩,Nat.le_refl _⟩,by show setC C.nm id (0,0) id=_;simp[setC]⟩

theorem R.rename {G C J w o id ob}(hR:R G C J w)(ho:J.objs o=some ob)(hid:id<J.next)(hn:C.fl.objs id=none)(hC:C.nm id=none):
  ∃C',R G C' ((J.kill o).put id ob) w/\Ext (·≠id) C J w C' ((J.kill o).put id ob) w/\C'.nm id=C'.nm o:=by
 obtain⟨rows0,g1,_⟩:=hR.lift.vis ho
 have hne:o≠id:=by rintro rfl;rw[g1] at hn;cases hn
 obtain⟨h1,h2⟩:=hR.base.rename g1 (by rw[hR.nxt];exact hid) hn hC
 obtain⟨h3,h4⟩:=hR.lift.ren ho g1 hn
 exact⟨⟨_,_,C.fr⟩,⟨h1,h3⟩,⟨h2,fun d hd=>⟨hd,h4 d hd⟩,Nat.le_refl _⟩,by show(if id=id then C.nm o else C.nm id)=if o=id then C.nm o else C.nm o;simp⟩

theorem R.recell {G C J w o ob r row i x y}(N:Nat->Prop)(hR:R G C J w)(ho:J.objs o=some ob)(hr:ob.rows[r]? =some row)(hi:row[i]? =some x)(hx1:x.lin1=true)(hy:y.one=true)
  (hxy:∀v,VRel C (own C J) w x v->VRel C (own C J) w y v):∃C',R G C' (J.put o ⟨ob.ty,ob.sz,ob.rows.set r (row.set i y)⟩) w/\Ext N C J w C' (J.put o ⟨ob.ty,ob.sz,ob.rows.set r (row.set i y)⟩) w/\C'.nm=C.nm:=by
 obtain⟨hnx,par,hp⟩:=hR.lift
 obtain⟨rows0,h1,h2,h3⟩:=hp.vis o ob ho
 have hlt:r<ob.rows.length:=(List.getElem?_eq_some_iff.1 hr).1
 have hr0:rows0[r]? =some rows0[r]:=List.getElem?_eq_getElem (by omega)
 have hilt:i<row.length:=(List.getElem?_eq_some_iff.1 hi).1
 have hi0:rows0[r][i]? =some x:=by
  have hl:=(h3 r row _ hr hr0).1
  have hy:rows0[r][i]? =some rows0[r][i]:=List.getElem?_eq_getElem (by omega)
  rw[hy,((h3 r row _ hr hr0).2 i _ _ hi hy).eq hx1]
 obtain⟨k1,k2⟩:=hR.base.recell N h1 hr0 hi0 hy hxy
 have hfo:∀d,C.fr d->d≠o:=by rintro d hd rfl;rw[(hp.frs _ hd).1] at ho;cases ho
 have hm:∀d l,par d=some l->(C.fl.put o ⟨ob.ty,ob.sz,rows0.set r (rows0[r].set i y)⟩).objs d=C.fl.objs d/\par d=some l:=fun d l hd=>⟨by simp[AHeap.put,hp.ne ho hd],hd⟩
 refine⟨⟨C.nm,C.fl.put o ⟨ob.ty,ob.sz,rows0.set r (rows0[r].set i y)⟩,C.fr⟩,⟨k1,hnx,par,fun o' ob' ho'=>?_,fun d l hd=>?_,fun d hd=>?_⟩,⟨k2,fun d hd=>⟨hd,by simp[AHeap.put,hfo d hd]⟩,Nat.le_refl _⟩,rfl⟩
 .by_cases e:o'=o
  .subst e
   simp[AHeap.put] at ho'
   subst ho'
   exact⟨_,by simp[AHeap.put],RowsL.recell ⟨h2,h3⟩ hr hr0 i (.same _ y) (fun r' i' x x0 _ hc=>hc.mono hm)⟩
  .obtain⟨rows0',g1,g2⟩:=hp.vis o' ob' (by simpa [AHeap.put,e] using ho')
   exact⟨rows0',by simpa [AHeap.put,e] using g1,g2.mono hm⟩
 .obtain⟨g1,g2,g3⟩:=hp.hid d l hd
  have:d≠o:=hp.ne ho hd
  exact⟨by simpa [AHeap.put,this] using g1,by simpa [AHeap.put,this] using g2,g3⟩
 .obtain⟨g1,g2⟩:=hp.frs d hd
  exact⟨by simpa [AHeap.put,hfo d hd] using g1,by simpa [AHeap.put,hfo d hd] using g2⟩

theorem R.unp {G C J w o r i ty sz es ob row}(hR:R G C J w)(ho:J.objs o=some ob)(hr:ob.rows[r]? =some row)(hi:row[i]? =some (.osl ty sz es)):
  ∃C',R G C' (((J.bump 1).put J.next ⟨ty,sz,es⟩).put o ⟨ob.ty,ob.sz,ob.rows.set r (row.set i (.sl J.next 0 es.length))⟩) w/\
   Ext (·<J.next) C J w C' (((J.bump 1).put J.next ⟨ty,sz,es⟩).put o ⟨ob.ty,ob.sz,ob.rows.set r (row.set i (.sl J.next 0 es.length))⟩) w:=by
 obtain⟨f1,f2,f3,f4,f5⟩:=fX hR
 have hno:o≠J.next:=by rintro rfl;rw[(hR.ids _ (Nat.le_refl _)).1] at ho;cases ho
 generalize hC1:C.bump 1=C1 at f1 f2 f3 f4
 generalize hN:J.next=N at f2 f3 f4 f5 hno
 generalize hJ1:J.bump 1=J1 at f1 f2 f5
 have ho1:J1.objs o=some ob:=by rw[<- hJ1];exact ho
 obtain⟨hnx,par,hp⟩:=f1.lift
 obtain⟨rows0,h1,h2,h3⟩:=hp.vis o ob ho1
 have hlt:r<ob.rows.length:=(List.getElem?_eq_some_iff.1 hr).1
 have hr0:rows0[r]? =some rows0[r]:=List.getElem?_eq_getElem (by omega)
 have hilt:i<row.length:=(List.getElem?_eq_some_iff.1 hi).1
 have hl:=(h3 r row _ hr hr0).1
 have hy0:rows0[r][i]? =some rows0[r][i]:=List.getElem?_eq_getElem (by omega)
 have hcl:=(h3 r row _ hr hr0).2 i _ _ hi hy0
 have hnext1:N<C1.fl.next:=by rw[f1.nxt];exact f5
 have hfo:∀d,C1.fr d->d≠o/\d≠N:=by
  intro d hd
  exact⟨(by rintro rfl;rw[(hp.frs _ hd).1] at ho1;cases ho1),(by rintro rfl;exact(hp.frs _ hd).2 f3)⟩
 have hho:∀d l,par d=some l->d≠o/\d≠N:=by
  intro d l hd
  exact⟨hp.ne ho1 hd,by rintro rfl;exact(hp.hid _ _ hd).2.1 f3⟩
 generalize hyy:rows0[r][i]=y0 at hcl hy0
 cases hcl with
 |same=>
  have:=f1.base.obj o _ h1
  obtain⟨b,s,_,e2,e3⟩:=this
  have hs:0<s:=by
   rcases Nat.eq_zero_or_pos s with e|e
   .have:=congrArg List.length (e2 e);simp only[List.length_nil] at this;omega
   .exact e
  obtain⟨_,_,arr,_,_,e4⟩:=e3 hs
  obtain⟨_,v,_,hv⟩:=(e4 r _ hr0).2 i _ hy0
  cases hv
 |osl0 _ _ _ _ hx=>
  obtain⟨g1,g2⟩:=f1.base.newv (ty:=ty) (sz:=sz) hnext1 f3 f4
  have h1':(C1.fl.put N ⟨ty,sz,[]⟩).objs o=some ⟨ob.ty,ob.sz,rows0⟩:=by simp[AHeap.put,hno,h1]
  obtain⟨k1,k2⟩:=g1.recell (·<N) h1' hr0 hy0 (y:=.sl N 0 0) rfl (fun v hv=>vnil_sl hx (by simp[setC]) hv)
  have hm:∀d l,par d=some l->((C1.fl.put N ⟨ty,sz,[]⟩).put o ⟨ob.ty,ob.sz,rows0.set r (rows0[r].set i (.sl N 0 0))⟩).objs d=C1.fl.objs d/\par d=some l:=
   fun d l hd=>⟨by simp[AHeap.put,(hho d l hd).1,(hho d l hd).2],hd⟩
  refine⟨⟨_,_,C1.fr⟩,⟨k1,by rw[<- hJ1] at hnx ⊢;exact hnx,par,fun o' ob' ho'=>?_,fun d l hd=>?_,fun d hd=>?_⟩,f2.trans ⟨(g2.le fun o ho=>by have:o<N:=ho;show o≠N;omega).trans k2,fun d hd=>⟨hd,by simp[AHeap.put,(hfo d hd).1,(hfo d hd).2]⟩,Nat.le_refl _⟩⟩
  .by_cases e:o'=o
   .subst e
    simp[AHeap.put] at ho'
    subst ho'
    exact⟨_,by simp[AHeap.put],RowsL.recell ⟨h2,h3⟩ hr hr0 i (.same _ _) (fun r' i' x x0 _ hc=>hc.mono hm)⟩
   .by_cases e2:o'=N
    .subst e2
     simp[AHeap.put,e] at ho'
     subst ho'
     exact⟨[],by simp[AHeap.put,e],RowsL.same⟩
    .obtain⟨rows0',q1,q2⟩:=hp.vis o' ob' (by simpa [AHeap.put,e,e2] using ho')
     exact⟨rows0',by simpa [AHeap.put,e,e2] using q1,q2.mono hm⟩
  .obtain⟨q1,q2,q3⟩:=hp.hid d l hd
   exact⟨by simpa [AHeap.put,(hho d l hd).1,(hho d l hd).2] using q1,by simpa [AHeap.put,(hho d l hd).1,(hho d l hd).2] using q2,q3⟩
  .obtain⟨q1,q2⟩:=hp.frs d hd
   exact⟨by simpa [AHeap.put,(hfo d hd).1,(hfo d hd).2] using q1,by simpa [AHeap.put,(hfo d hd).1,(hfo d hd).2] using q2⟩
 |osl _ _ _ _ d rows hd hpd hle hlen hcc=>
  obtain⟨hdo,hdN⟩:=hho d _ hpd
  obtain⟨g1,g2⟩:=f1.base.rename hd hnext1 f3 f4
  have h1':((C1.fl.kill d).put N ⟨ty,sz,rows⟩).objs o=some ⟨ob.ty,ob.sz,rows0⟩:=by simp[AHeap.put,AHeap.kill,hno,Ne.symm hdo,h1]
  obtain⟨k1,k2⟩:=g1.recell (·<N) h1' hr0 hy0 (y:=.sl N 0 es.length) rfl (fun v hv=>vsl_ren (d:=d) (g:=N) (by simp[hdN]) hv)
  let f:Nat->Nat:=fun x=>if x=d then N else x
  let par':Par:=fun x=>if x=d then none else(par x).map fun l=>(f l.1,l.2)
  have hfl:∀x,x≠d->x≠o->x≠N->(((C1.fl.kill d).put N ⟨ty,sz,rows⟩).put o ⟨ob.ty,ob.sz,rows0.set r (rows0[r].set i (.sl N 0 es.length))⟩).objs x=C1.fl.objs x:=
   fun x e1 e2 e3=>by simp[AHeap.put,AHeap.kill,e1,e2,e3]
  have hm:∀x l,par x=some l->¬l=(o,r,i)->(((C1.fl.kill d).put N ⟨ty,sz,rows⟩).put o ⟨ob.ty,ob.sz,rows0.set r (rows0[r].set i (.sl N 0 es.length))⟩).objs x=C1.fl.objs x/\par' x=some (f l.1,l.2)/\f x=x/\∀r' i',¬(x,r',i')=(o,r,i):=by
   intro x l hx hb
   have e1:x≠d:=by rintro rfl;rw[hpd] at hx;exact hb (Option.some.inj hx).symm
   obtain⟨e2,e3⟩:=hho x l hx
   exact⟨hfl x e1 e2 e3,by simp[par',e1,hx],by simp[f,e1],fun r' i' e=>e2 (congrArg Prod.fst e)⟩
  have ren:∀{l x y},CL C1.fl.objs par l x y->¬l=(o,r,i)->CL _ par' (f l.1,l.2) x y:=fun hc hb=>CL.ren f (fun l=>l=(o,r,i)) hm hc hb
  refine⟨⟨_,_,C1.fr⟩,⟨k1,by rw[<- hJ1] at hnx ⊢;exact hnx,par',fun o' ob' ho'=>?_,fun x l hx=>?_,fun x hx=>?_⟩,f2.trans ⟨(g2.le fun o ho=>by have:o<N:=ho;show o≠N;omega).trans k2,fun x hx=>⟨hx,?_⟩,Nat.le_refl _⟩⟩
  .by_cases e:o'=o
   .subst e
    simp[AHeap.put] at ho'
    subst ho'
    refine⟨_,by simp[AHeap.put],RowsL.recell ⟨h2,h3⟩ hr hr0 i (.same _ _) (fun r' i' x x0 hb hc=>?_)⟩
    have:=ren hc (fun e=>hb ⟨congrArg (·.2.1) e,congrArg (·.2.2) e⟩)
    rw[show f o'=o' by simp[f,Ne.symm hdo]] at this
    exact this
   .by_cases e2:o'=N
    .subst e2
     simp[AHeap.put,e] at ho'
     subst ho'
     refine⟨rows,by simp[AHeap.put,e],hle,fun r' e' e0 q1 q2=>⟨hlen r' e' e0 q1 q2,fun i' x y q3 q4=>?_⟩⟩
     have:=ren (hcc r' e' e0 i' x y q1 q2 q3 q4) (fun e=>hdo (congrArg Prod.fst e))
     rw[show f d=o' by simp[f]] at this
     exact this
    .have e3:o'≠d:=by
      rintro rfl
      have:J1.objs o'=some ob':=by simpa [AHeap.put,e,e2] using ho'
      rw[(hp.hid _ _ hpd).1] at this;cases this
     obtain⟨rows0',q1,q2,q3⟩:=hp.vis o' ob' (by simpa [AHeap.put,e,e2] using ho')
     refine⟨rows0',by simpa [AHeap.put,AHeap.kill,e,e2,e3] using q1,q2,fun r' e' e0 p1 p2=>⟨(q3 r' e' e0 p1 p2).1,fun i' x y p3 p4=>?_⟩⟩
     have:=ren ((q3 r' e' e0 p1 p2).2 i' x y p3 p4) (fun e'=>e (congrArg Prod.fst e'))
     rw[show f o'=o' by simp[f,e3]] at this
     exact this
  .by_cases e:x=d
   .simp[par',e] at hx
   .simp only[par',if_neg e,Option.map_eq_some_iff] at hx
    obtain⟨l',hx',rfl⟩:=hx
    obtain⟨q1,q2,q3⟩:=hp.hid x l' hx'
    obtain⟨e2,e3⟩:=hho x l' hx'
    exact⟨by simpa [AHeap.put,e2,e3] using q1,fun h=>q2 ((hfl x e e2 e3).symm.trans h),q3⟩
  .obtain⟨q1,q2⟩:=hp.frs x hx
   obtain⟨e2,e3⟩:=hfo x hx
   have e:x≠d:=by rintro rfl;exact(hp.hid _ _ hpd).2.2 hx
   exact⟨by simpa [AHeap.put,e2,e3] using q1,fun h=>q2 ((hfl x e e2 e3).symm.trans h)⟩
  .obtain⟨e2,e3⟩:=hfo x hx
   have e:x≠d:=by rintro rfl;exact(hp.hid _ _ hpd).2.2 hx
   exact hfl x e e2 e3

end Go.Abs
