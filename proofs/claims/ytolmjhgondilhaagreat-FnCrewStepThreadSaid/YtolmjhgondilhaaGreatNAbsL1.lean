/- The heap in which a cell may own what it leads to, over the heap in which each list has a name. -/
import Derived.Test.YtolmjhgondilhaaGreatNAbs11
set_option linter.unusedSimpArgs false
set_option linter.unusedVariables false
namespace Go.Abs
open Go Go.RowKit

abbrev Loc:=Nat×Nat×Nat
abbrev Par:=Nat->Option Loc

inductive CL (H:Nat->Option AObj) (par:Par):Loc->AV->AV->Prop
 |same (l:Loc) (x:AV):CL H par l x x
 |osl0 (l:Loc) (ty sz:Nat) (y:AV) (h:y=.nilsl\/y=.esl):CL H par l (.osl ty sz []) y
 | osl (l:Loc) (ty sz:Nat) (es:List (List AV)) (d:Nat) (rows:List (List AV)) (hd:H d=some ⟨ty,sz,rows⟩) (hp:par d=some l) (hl:es.length<=rows.length)
   (hlen:∀(r:Nat) (e e0:List AV),es[r]? =some e->rows[r]? =some e0->e.length=e0.length)
   (hc:∀(r:Nat) (e e0:List AV) (i:Nat) (x y:AV),es[r]? =some e->rows[r]? =some e0->e[i]? =some x->e0[i]? =some y->CL H par (d,r,i) x y):CL H par l (.osl ty sz es) (.sl d 0 es.length)

theorem CL.eq {H par l x y}(h:CL H par l x y)(hx:x.lin1=true):y=x:=by
 cases h with
 |same=>rfl
 |osl0=>cases hx
 |osl=>cases hx

theorem CL.ren {H H':Nat->Option AObj}{par par':Par}(f:Nat->Nat)(bad:Loc->Prop)
  (hm:∀d l,par d=some l->¬bad l->H' d=H d/\par' d=some (f l.1,l.2)/\f d=d/\∀r i,¬bad (d,r,i)):
  ∀{l x y},CL H par l x y->¬bad l->CL H' par' (f l.1,l.2) x y:=by
 intro l x y h
 induction h with
 |same=>intro _;exact .same _ _
 |osl0 _ _ _ _ h=>intro _;exact .osl0 _ _ _ _ h
 |osl l ty sz es d rows hd hp hl hlen hc ih=>
  intro hb
  obtain⟨h1,h2,h3,h4⟩:=hm d l hp hb
  refine .osl _ ty sz es d rows (h1.trans hd) h2 hl hlen fun r e e0 i x y q1 q2 q3 q4=>?_
  have:=ih r e e0 i x y q1 q2 q3 q4 (h4 r i)
  rw[h3] at this
  exact this

theorem CL.mono {H H':Nat->Option AObj}{par par':Par}(hm:∀d l,par d=some l->H' d=H d/\par' d=some l){l x y}(h:CL H par l x y):CL H' par' l x y:=
 CL.ren id (fun _=>False) (fun d l h1 _=>⟨(hm d l h1).1,(hm d l h1).2,rfl,fun _ _ h=>h⟩) h (fun h=>h)

def RowsL (H:Nat->Option AObj)(par:Par)(o:Nat)(rows rows0:List (List AV)):Prop:=
 rows.length<=rows0.length/\∀(r:Nat) (e e0:List AV),rows[r]? =some e->rows0[r]? =some e0->e.length=e0.length/\∀(i:Nat) (x y:AV),e[i]? =some x->e0[i]? =some y->CL H par (o,r,i) x y

theorem RowsL.same {H par o rows}:RowsL H par o rows rows:=
 ⟨Nat.le_refl _,fun r e e0 h1 h2=>by rw[h1] at h2;cases h2;exact⟨rfl,fun i x y h3 h4=>by rw[h3] at h4;cases h4;exact .same _ _⟩⟩
theorem RowsL.mono {H H':Nat->Option AObj}{par par':Par}{o rows rows0}(hm:∀d l,par d=some l->H' d=H d/\par' d=some l)(h:RowsL H par o rows rows0):RowsL H' par' o rows rows0:=
 ⟨h.1,fun r e e0 h1 h2=>⟨(h.2 r e e0 h1 h2).1,fun i x y h3 h4=>((h.2 r e e0 h1 h2).2 i x y h3 h4).mono hm⟩⟩

structure LiftP (J J0:AHeap) (fr:Nat->Prop) (par:Par):Prop where
 vis:∀o ob,J.objs o=some ob->∃rows0,J0.objs o=some ⟨ob.ty,ob.sz,rows0⟩/\RowsL J0.objs par o ob.rows rows0
 hid:∀d l,par d=some l->J.objs d=none/\J0.objs d≠none/\¬fr d
 frs:∀d,fr d->J.objs d=none/\J0.objs d≠none
def Lift (J J0:AHeap)(fr:Nat->Prop):Prop:=J0.next=J.next/\∃par,LiftP J J0 fr par

theorem LiftP.ne {J J0 fr par o ob d l}(h:LiftP J J0 fr par)(ho:J.objs o=some ob)(hd:par d=some l):d≠o:=by
 rintro rfl;rw[(h.hid _ _ hd).1] at ho;cases ho

theorem Lift.vis {J J0 fr o ob}(h:Lift J J0 fr)(ho:J.objs o=some ob):∃rows0,J0.objs o=some ⟨ob.ty,ob.sz,rows0⟩/\ob.rows.length<=rows0.length/\
  ∀(r:Nat) (e e0:List AV),ob.rows[r]? =some e->rows0[r]? =some e0->e.length=e0.length/\∀(i:Nat) (x y:AV),e[i]? =some x->e0[i]? =some y->x.lin1=true->y=x:=by
 obtain⟨_,par,hp⟩:=h
 obtain⟨rows0,h1,h2,h3⟩:=hp.vis o ob ho
 exact⟨rows0,h1,h2,fun r e e0 q1 q2=>⟨(h3 r e e0 q1 q2).1,fun i x y q3 q4 q5=>((h3 r e e0 q1 q2).2 i x y q3 q4).eq q5⟩⟩

theorem Lift.gone {J J0 fr o}(h:Lift J J0 fr)(ho:J0.objs o=none):J.objs o=none:=by
 cases hs:J.objs o with
 |none=>rfl
 |some ob=>obtain⟨_,h1,_⟩:=h.vis hs;rw[ho] at h1;cases h1

theorem Lift.put {J J0 fr id}(h:Lift J J0 fr)(ob:AObj)(hid:J0.objs id=none):Lift (J.put id ob) (J0.put id ob) fr/\∀d,fr d->(J0.put id ob).objs d=J0.objs d:=by
 obtain⟨hn,par,hp⟩:=h
 have hne:∀d,fr d->d≠id:=by rintro d hd rfl;exact(hp.frs _ hd).2 hid
 have hm:∀d l,par d=some l->(J0.put id ob).objs d=J0.objs d/\par d=some l:=by
  intro d l hd
  have:d≠id:=by rintro rfl;exact(hp.hid _ _ hd).2.1 hid
  exact⟨by simp[AHeap.put,this],hd⟩
 refine⟨⟨hn,par,fun o ob' ho=>?_,fun d l hd=>?_,fun d hd=>?_⟩,fun d hd=>by simp[AHeap.put,hne d hd]⟩
 .by_cases e:o=id
  .subst e
   simp[AHeap.put] at ho
   subst ho
   exact⟨_,by simp[AHeap.put],RowsL.same⟩
  .obtain⟨rows0,h1,h2⟩:=hp.vis o ob' (by simpa [AHeap.put,e] using ho)
   exact⟨rows0,by simpa [AHeap.put,e] using h1,h2.mono hm⟩
 .obtain⟨h1,h2,h3⟩:=hp.hid d l hd
  have:d≠id:=by rintro rfl;exact h2 hid
  exact⟨by simpa [AHeap.put,this] using h1,by simpa [AHeap.put,this] using h2,h3⟩
 .obtain⟨h1,h2⟩:=hp.frs d hd
  exact⟨by simpa [AHeap.put,hne d hd] using h1,by simpa [AHeap.put,hne d hd] using h2⟩

theorem Lift.write {J J0 fr o ob rows0 r row row0}(h:Lift J J0 fr)(ho:J.objs o=some ob)(ho0:J0.objs o=some ⟨ob.ty,ob.sz,rows0⟩)(hr:ob.rows[r]? =some row)(hr0:rows0[r]? =some row0)
  (k:Nat) (cs:List AV) (hk:k+cs.length<=row.length):
  Lift (J.put o ⟨ob.ty,ob.sz,ob.rows.set r (xU row k cs)⟩) (J0.put o ⟨ob.ty,ob.sz,rows0.set r (xU row0 k cs)⟩) fr/\∀d,fr d->(J0.put o ⟨ob.ty,ob.sz,rows0.set r (xU row0 k cs)⟩).objs d=J0.objs d:=by
 obtain⟨hn,par,hp⟩:=h
 have hne:∀d,fr d->d≠o:=by rintro d hd rfl;rw[(hp.frs _ hd).1] at ho;cases ho
 have hm:∀d l,par d=some l->(J0.put o ⟨ob.ty,ob.sz,rows0.set r (xU row0 k cs)⟩).objs d=J0.objs d/\par d=some l:=by
  intro d l hd
  exact⟨by simp[AHeap.put,hp.ne ho hd],hd⟩
 refine⟨⟨hn,par,fun o' ob' ho'=>?_,fun d l hd=>?_,fun d hd=>?_⟩,fun d hd=>by simp[AHeap.put,hne d hd]⟩
 .by_cases e:o'=o
  .subst e
   simp[AHeap.put] at ho'
   subst ho'
   refine⟨_,by simp[AHeap.put];rfl,?_⟩
   obtain⟨rows0',q1,q2,q3⟩:=hp.vis o' ob ho
   rw[ho0] at q1;cases q1
   refine⟨by simpa using q2,fun r' e e0 h1 h2=>?_⟩
   rw[List.getElem?_set] at h1 h2
   split at h1
   .rename_i hrr
    subst hrr
    split at h1
    case isFalse=>cases h1
    rw[if_pos rfl] at h2
    split at h2
    case isFalse=>cases h2
    cases h1;cases h2
    obtain⟨g1,g2⟩:=q3 r row row0 hr hr0
    refine⟨by rw[hH _ _ _ hk,hH _ _ _ (by omega)];exact g1,fun i x y hx hy=>?_⟩
    rw[xU,xP row cs k hk] at hx
    rw[xU,xP row0 cs k (by omega)] at hy
    split at hx
    .rename_i hj
     rw[if_pos hj] at hy
     rw[hx] at hy;cases hy
     exact .same _ _
    .rename_i hj
     rw[if_neg hj] at hy
     exact(g2 i x y hx hy).mono hm
   .rename_i hrr
    rw[if_neg hrr] at h2
    obtain⟨g1,g2⟩:=q3 r' e e0 h1 h2
    exact⟨g1,fun i x y hx hy=>(g2 i x y hx hy).mono hm⟩
  .obtain⟨rows0',h1,h2⟩:=hp.vis o' ob' (by simpa [AHeap.put,e] using ho')
   exact⟨rows0',by simpa [AHeap.put,e] using h1,h2.mono hm⟩
 .obtain⟨h1,h2,h3⟩:=hp.hid d l hd
  have:=hp.ne ho hd
  exact⟨by simpa [AHeap.put,this] using h1,by simpa [AHeap.put,this] using h2,h3⟩
 .obtain⟨h1,h2⟩:=hp.frs d hd
  exact⟨by simpa [AHeap.put,hne d hd] using h1,by simpa [AHeap.put,hne d hd] using h2⟩

theorem Lift.grow {J J0 fr o id ob rows0}(h:Lift J J0 fr)(ho:J.objs o=some ob)(ho0:J0.objs o=some ⟨ob.ty,ob.sz,rows0⟩)(hid:J0.objs id=none)(ty sz n:Nat)(E:List (List AV))(hn:n<=ob.rows.length)(hl:ob.rows.length<=rows0.length):
  Lift ((J.kill o).put id ⟨ty,sz,ob.rows.take n++E⟩) ((J0.kill o).put id ⟨ty,sz,rows0.take n++E⟩) fr/\∀d,fr d->((J0.kill o).put id ⟨ty,sz,rows0.take n++E⟩).objs d=J0.objs d:=by
 obtain⟨hnx,par,hp⟩:=h
 have hoid:o≠id:=by rintro rfl;rw[ho0] at hid;cases hid
 have hne:∀d,fr d->d≠id/\d≠o:=by
  rintro d hd
  exact⟨by rintro rfl;exact(hp.frs _ hd).2 hid,by rintro rfl;rw[(hp.frs _ hd).1] at ho;cases ho⟩
 have hhid:∀d l,par d=some l->d≠id/\d≠o:=fun d l hd=>⟨by rintro rfl;exact(hp.hid _ _ hd).2.1 hid,hp.ne ho hd⟩
 let f:Nat->Nat:=fun x=>if x=o then id else x
 let par':Par:=fun d=>(par d).map fun l=>(f l.1,l.2)
 have hm:∀d l,par d=some l->¬False->((J0.kill o).put id ⟨ty,sz,rows0.take n++E⟩).objs d=J0.objs d/\par' d=some (f l.1,l.2)/\f d=d/\∀(r i:Nat),¬False:=by
  intro d l hd _
  obtain⟨g1,g2⟩:=hhid d l hd
  exact⟨by simp[AHeap.put,AHeap.kill,g1,g2],by simp[par',hd],by simp[f,g2],fun _ _ h=>h⟩
 refine⟨⟨hnx,par',fun o' ob' ho'=>?_,fun d l hd=>?_,fun d hd=>?_⟩,fun d hd=>by simp[AHeap.put,AHeap.kill,(hne d hd).1,(hne d hd).2]⟩
 .by_cases e:o'=id
  .subst e
   simp[AHeap.put] at ho'
   subst ho'
   refine⟨_,by simp[AHeap.put];rfl,?_⟩
   obtain⟨rows0',q1,q2,q3⟩:=hp.vis o ob ho
   rw[ho0] at q1;cases q1
   refine⟨by simp;omega,fun r e e0 h1 h2=>?_⟩
   have hl1:(ob.rows.take n).length=n:=by simp;omega
   have hl2:(rows0.take n).length=n:=by simp;omega
   rw[List.getElem?_append,hl1] at h1
   rw[List.getElem?_append,hl2] at h2
   split at h1
   .rename_i hlt
    rw[if_pos hlt] at h2
    rw[List.getElem?_take,if_pos hlt] at h1 h2
    obtain⟨g1,g2⟩:=q3 r e e0 h1 h2
    refine⟨g1,fun i x y hx hy=>?_⟩
    have:=CL.ren f (fun _=>False) hm (g2 i x y hx hy) (fun h=>h)
    simpa [f] using this
   .rename_i hlt
    rw[if_neg hlt] at h2
    rw[h1] at h2;cases h2
    exact⟨rfl,fun i x y hx hy=>by rw[hx] at hy;cases hy;exact .same _ _⟩
  .have e2:o'≠o:=by rintro rfl;simp[AHeap.put,AHeap.kill,e] at ho'
   obtain⟨rows0',h1,h2,h3⟩:=hp.vis o' ob' (by simpa [AHeap.put,AHeap.kill,e,e2] using ho')
   refine⟨rows0',by simpa [AHeap.put,AHeap.kill,e,e2] using h1,h2,fun r e e0 q1 q2=>⟨(h3 r e e0 q1 q2).1,fun i x y hx hy=>?_⟩⟩
   have:=CL.ren f (fun _=>False) hm ((h3 r e e0 q1 q2).2 i x y hx hy) (fun h=>h)
   simpa [f,e2] using this
 .simp only[par',Option.map_eq_some_iff] at hd
  obtain⟨l',hd',rfl⟩:=hd
  obtain⟨h1,h2,h3⟩:=hp.hid d l' hd'
  obtain⟨g1,g2⟩:=hhid d l' hd'
  exact⟨by simpa [AHeap.put,AHeap.kill,g1,g2] using h1,by simpa [AHeap.put,AHeap.kill,g1,g2] using h2,h3⟩
 .obtain⟨h1,h2⟩:=hp.frs d hd
  exact⟨by simpa [AHeap.put,AHeap.kill,(hne d hd).1,(hne d hd).2] using h1,by simpa [AHeap.put,AHeap.kill,(hne d hd).1,(hne d hd).2] using h2⟩

/-! the operations -/
variable {T:Types} {J J0:AHeap} {fr:Nat->Prop}

theorem loadA_lift (h:Lift J J0 fr){t:TypeId}{x v:AV}(hv:loadA T J t x=some v):loadA T J0 t x=some v:=by
 unfold loadA at hv ⊢
 split at hv
 .rename_i ti o r i ht
  try simp only[ht]
  cases ho:J.objs o with
  |none=>simp[ho] at hv
  |some ob=>
  obtain⟨rows0,h1,h2,h3⟩:=h.vis ho
  simp only[ho,Option.bind_some] at hv
  simp only[h1,Option.bind_some]
  cases hr:ob.rows[r]? with
  |none=>simp[hr] at hv
  |some row=>
  have hlt:r<ob.rows.length:=(List.getElem?_eq_some_iff.1 hr).1
  have hr0:rows0[r]? =some rows0[r]:=List.getElem?_eq_getElem (by omega)
  obtain⟨g1,g2⟩:=h3 r row _ hr hr0
  simp only[hr,Option.bind_some] at hv
  simp only[hr0,Option.bind_some]
  cases hp:part ti row i with
  |none=>simp[hp] at hv
  |some v'=>
  simp only[hp,Option.bind_some] at hv
  split at hv
  case isFalse=>cases hv
  rename_i hlin
  cases hv
  have:part ti rows0[r] i=some v:=by
   unfold part at hp ⊢
   split at hp
   .rename_i hk
    rw[if_pos hk]
    split at hp
    .rename_i hle
     rw[if_pos (by omega)]
     cases hp
     simp only[AV.lin,List.all_eq_true] at hlin
     congr 2
     refine List.ext_getElem? fun j=>?_
     rw[List.getElem?_take,List.getElem?_take]
     split
     .rename_i hj
      rw[List.getElem?_drop,List.getElem?_drop]
      have e1:row[i+j]? =some row[i+j]:=List.getElem?_eq_getElem (by omega)
      have e2:rows0[r][i+j]? =some rows0[r][i+j]:=List.getElem?_eq_getElem (by omega)
      rw[e1,e2,g2 _ _ _ e1 e2 (hlin _ ?_)]
      refine List.mem_iff_getElem?.2 ⟨j,?_⟩
      rw[List.getElem?_take,if_pos hj,List.getElem?_drop,e1]
     .rfl
    .cases hp
   .rename_i hk
    rw[if_neg hk]
    have hi:i<row.length:=(List.getElem?_eq_some_iff.1 hp).1
    have e2:rows0[r][i]? =some rows0[r][i]:=List.getElem?_eq_getElem (by omega)
    by_cases hag:∃cs,v=.agg cs
    .obtain⟨cs,rfl⟩:=hag
     rw[e2,g2 _ _ _ hp e2 rfl]
    .rw[e2,g2 _ _ _ hp e2 (by cases v<;>first|exact hlin|exact absurd ⟨_,rfl⟩ hag)]
  simp only[this,Option.bind_some]
  rw[if_pos hlin]
 .rename_i ti cs i ht
  (try simp only[ht]);exact hv
 .cases hv

theorem indexAddrA_lift (h:Lift J J0 fr){t:TypeId}{x y v:AV}(hv:zQ T J t x y=some v):zQ T J0 t x y=some v:=by
 unfold zQ at hv ⊢
 split at hv
 .rename_i e o r n k i hk
  try simp only[hk]
  cases ho:J.objs o with
  |none=>simp[ho] at hv
  |some ob=>
  obtain⟨rows0,h1,h2,h3⟩:=h.vis ho
  simpa [ho,h1] using hv
 all_goals first|exact hv|cases hv

theorem cutA_lift (h:Lift J J0 fr){t:TypeId}{x v:AV}{lo hi:Option AV}(hv:cutA T J t x lo hi=some v):cutA T J0 t x lo hi=some v:=by
 unfold cutA at hv ⊢
 split at hv
 .rename_i e o r n hk
  try simp only[hk]
  cases ho:J.objs o with
  |none=>simp[ho] at hv
  |some ob=>
  obtain⟨rows0,h1,h2,h3⟩:=h.vis ho
  simpa [ho,h1] using hv
 .rename_i e es hk
  (try simp only[hk]);exact hv
 .cases hv

theorem srcA_lift (h:Lift J J0 fr){ti:TI}{x:AV}{E:List (List AV)}(hv:srcA ti J x=some E):srcA ti J0 x=some E:=by
 unfold srcA at hv ⊢
 split at hv
 .exact hv
 .rename_i o r m
  cases ho:J.objs o with
  |none=>simp[ho] at hv
  |some ob=>
  obtain⟨rows0,h1,h2,h3⟩:=h.vis ho
  simp only[ho,Option.bind_some] at hv
  simp only[h1,Option.bind_some]
  split at hv
  case isFalse=>cases hv
  rename_i hc
  obtain⟨⟨c1,c2⟩,c3⟩:=hc
  cases hv
  have he:(rows0.drop r).take m=(ob.rows.drop r).take m:=by
   refine List.ext_getElem? fun j=>?_
   rw[List.getElem?_take,List.getElem?_take]
   split
   .rename_i hj
    rw[List.getElem?_drop,List.getElem?_drop]
    have e1:ob.rows[r+j]? =some ob.rows[r+j]:=List.getElem?_eq_getElem (by omega)
    have e2:rows0[r+j]? =some rows0[r+j]:=List.getElem?_eq_getElem (by omega)
    obtain⟨g1,g2⟩:=h3 _ _ _ e1 e2
    rw[e1,e2]
    congr 1
    have hmem:ob.rows[r+j]∈(ob.rows.drop r).take m:=by
     refine List.mem_iff_getElem?.2 ⟨j,?_⟩
     rw[List.getElem?_take,if_pos hj,List.getElem?_drop,e1]
    have hall:=List.all_eq_true.1 (List.all_eq_true.1 c3 _ hmem)
    refine List.ext_getElem? fun i=>?_
    by_cases hi:i<ob.rows[r+j].length
    .have f1:ob.rows[r+j][i]? =some ob.rows[r+j][i]:=List.getElem?_eq_getElem hi
     have f2:rows0[r+j][i]? =some rows0[r+j][i]:=List.getElem?_eq_getElem (by omega)
     rw[f1,f2,g2 _ _ _ f1 f2 (hall _ (List.getElem_mem hi))]
    .rw[List.getElem?_eq_none (by omega),List.getElem?_eq_none (by omega)]
   .rfl
  rw[he,if_pos ⟨⟨c1,by omega⟩,c3⟩]
 .exact hv
 .exact hv
 .cases hv

theorem storeA_lift (h:Lift J J0 fr){t:TypeId}{x v:AV}{J':AHeap}(hv:qO T t x v J=some J'):∃J0',qO T t x v J0=some J0'/\Lift J' J0' fr/\∀d,fr d->J0'.objs d=J0.objs d:=by
 unfold qO at hv ⊢
 split at hv
 .rename_i ti o r i ht
  try simp only[ht]
  cases ho:J.objs o with
  |none=>simp[ho] at hv
  |some ob=>
  obtain⟨rows0,h1,h2,h3⟩:=h.vis ho
  simp only[ho,Option.bind_some] at hv
  simp only[h1,Option.bind_some]
  cases hr:ob.rows[r]? with
  |none=>simp[hr] at hv
  |some row=>
  have hlt:r<ob.rows.length:=(List.getElem?_eq_some_iff.1 hr).1
  have hr0:rows0[r]? =some rows0[r]:=List.getElem?_eq_getElem (by omega)
  obtain⟨g1,g2⟩:=h3 r row _ hr hr0
  simp only[hr,Option.bind_some] at hv
  simp only[hr0,Option.bind_some]
  split at hv
  case isFalse=>cases hv
  rename_i hc
  cases hv
  rw[if_pos ⟨hc.1,hc.2.1,by omega⟩]
  exact⟨_,rfl,h.write ho h1 hr hr0 i v.cells hc.2.2⟩
 .cases hv

theorem appendA_lift (h:Lift J J0 fr){t:TypeId}{id:Nat}{s x v:AV}{J':AHeap}(hid:J0.objs id=none)(hv:kF T t id s x J=some (v,J')):∃J0',kF T t id s x J0=some (v,J0')/\Lift J' J0' fr/\∀d,fr d->J0'.objs d=J0.objs d:=by
 unfold kF at hv ⊢
 split at hv
 case h_2=>cases hv
 rename_i e hk
 try simp only[hk]
 cases he:T e with
 |none=>simp[he] at hv
 |some ti=>
 simp only[he,Option.bind_some] at hv ⊢
 cases hE:srcA ti J x with
 |none=>simp[hE] at hv
 |some E=>
 rw[srcA_lift h hE]
 simp only[hE,Option.bind_some] at hv ⊢
 split at hv
 .rename_i o n
  cases ho:J.objs o with
  |none=>simp[ho] at hv
  |some ob=>
  obtain⟨rows0,h1,h2,h3⟩:=h.vis ho
  simp only[ho,Option.bind_some] at hv
  simp only[h1,Option.bind_some]
  split at hv
  case isFalse=>cases hv
  rename_i hc
  cases hv
  rw[if_pos ⟨hc.1,hc.2.1,hc.2.2.1,by omega,hc.2.2.2.2⟩]
  exact⟨_,rfl,h.grow ho h1 hid e ti.sz n E hc.2.2.2.1 h2⟩
 .split at hv
  case isFalse=>cases hv
  rename_i hc
  cases hv
  rw[if_pos hc]
  exact⟨_,rfl,h.put _ hid⟩
 .split at hv
  case isFalse=>cases hv
  rename_i hc
  cases hv
  rw[if_pos hc]
  exact⟨_,rfl,h.put _ hid⟩
 .cases hv
theorem appendZ_lift (h:Lift J J0 fr){t u:TypeId}{id:Nat}{s x v:AV}{J':AHeap}(hid:J0.objs id=none)(hv:wV T t u id s x J=some (v,J')):∃J0',wV T t u id s x J0=some (v,J0')/\Lift J' J0' fr/\∀d,fr d->J0'.objs d=J0.objs d:=by
 unfold wV at hv ⊢
 split at hv
 case h_2=>cases hv
 rename_i e ku kx m hk hku
 try simp only[hk,hku]
 cases he:T e with
 |none=>simp[he] at hv
 |some ti=>
 simp only[he,Option.bind_some] at hv ⊢
 split at hv
 case isFalse=>cases hv
 rename_i hm
 rw[if_pos hm]
 split at hv
 .rename_i o n
  cases ho:J.objs o with
  |none=>simp[ho] at hv
  |some ob=>
  obtain⟨rows0,h1,h2,h3⟩:=h.vis ho
  simp only[ho,Option.bind_some] at hv
  simp only[h1,Option.bind_some]
  split at hv
  case isFalse=>cases hv
  rename_i hc
  cases hv
  rw[if_pos ⟨hc.1,hc.2.1,hc.2.2.1,by omega,hc.2.2.2.2⟩]
  exact⟨_,rfl,h.grow ho h1 hid e ti.sz n _ hc.2.2.2.1 h2⟩
 .split at hv
  case isFalse=>cases hv
  rename_i hc
  cases hv
  rw[if_pos hc]
  exact⟨_,rfl,h.put _ hid⟩
 .split at hv
  case isFalse=>cases hv
  rename_i hc
  cases hv
  rw[if_pos hc]
  exact⟨_,rfl,h.put _ hid⟩
 .cases hv

theorem appendF_lift (h:Lift J J0 fr){t:TypeId}{s x v:AV}{J':AHeap}(hv:jM T t s x J=some (v,J')):jM T t s x J0=some (v,J0)/\J'=J:=by
 unfold jM at hv ⊢
 split at hv
 case h_2=>cases hv
 rename_i e hk
 try simp only[hk]
 cases he:T e with
 |none=>simp[he] at hv
 |some ti=>
 simp only[he,Option.bind_some] at hv ⊢
 cases hE:srcA ti J x with
 |none=>simp[hE] at hv
 |some E=>
 rw[srcA_lift h hE]
 simp only[hE,Option.bind_some] at hv ⊢
 split at hv
 .rename_i hc
  cases hv
  rw[if_pos hc]
  exact⟨rfl,rfl⟩
 .cases hv

theorem stepP_lift (h:Lift J J0 fr){G:Globs}{op:Op}{a:AAct}{v:AV}(hv:stepP T G op a J=some v):stepP T G op a J0=some v:=by
 unfold stepP at hv ⊢
 split at hv
 all_goals first
  |exact loadA_lift h hv
  |exact indexAddrA_lift h hv
  |exact hv

theorem stepO_lift (h:Lift J J0 fr){G:Globs}{alt:Bool}{id:Nat}{o:Oper}{a:AAct}{v:AV}{J':AHeap}(hid:J0.objs id=none)(hv:stepO T G alt id o a J=.val v J'):
  ∃J0',stepO T G alt id o a J0=.val v J0'/\Lift J' J0' fr/\∀d,fr d->J0'.objs d=J0.objs d:=by
 have ofO:∀{x x0:Option (AV×AHeap)},St.ofO x=.val v J'->(∀v J',x=some (v,J')->∃J0',x0=some (v,J0')/\Lift J' J0' fr/\∀d,fr d->J0'.objs d=J0.objs d)->
   ∃J0',St.ofO x0=.val v J0'/\Lift J' J0' fr/\∀d,fr d->J0'.objs d=J0.objs d:=by
  intro x x0 h1 h2
  cases x with
  |none=>cases h1
  |some p=>
   obtain⟨v',J1⟩:=p
   cases h1
   obtain⟨J0',g1,g2⟩:=h2 _ _ rfl
   exact⟨J0',by rw[g1];rfl,g2⟩
 have ofV:∀{x x0:Option AV},St.ofV x J=.val v J'->(∀v,x=some v->x0=some v)->
   ∃J0',St.ofV x0 J0=.val v J0'/\Lift J' J0' fr/\∀d,fr d->J0'.objs d=J0.objs d:=by
  intro x x0 h1 h2
  cases x with
  |none=>cases h1
  |some p=>
   cases h1
   exact⟨J0,by rw[h2 _ rfl];rfl,h,fun _ _=>rfl⟩
 have new:∀(ty:TypeId) (cs:List AV) (v:AV) (J':AHeap),newA ty alt id cs J=(v,J')->∃J0',newA ty alt id cs J0=(v,J0')/\Lift J' J0' fr/\∀d,fr d->J0'.objs d=J0.objs d:=by
  intro ty cs v J' hq
  unfold newA at hq ⊢
  cases alt
  .cases hq;exact⟨_,rfl,h.put _ hid⟩
  .cases hq;exact⟨_,rfl,h,fun _ _=>rfl⟩
 unfold stepO at hv ⊢
 split at hv
 .rename_i e hop
  try simp only[hop]
  refine ofO hv fun v J' hq=>?_
  unfold mX at hq ⊢
  split at hq
  .rename_i ti ht
   try simp only[ht]
   split at hq
   .rename_i hz
    obtain⟨J0',g1,g2⟩:=new _ _ _ _ (Option.some.inj hq)
    exact⟨J0',by rw[if_pos hz,g1],g2⟩
   .cases hq
  .cases hq
 .rename_i e x hop
  try simp only[hop]
  refine ofO hv fun v J' hq=>?_
  unfold boxA at hq ⊢
  split at hq
  .rename_i hz
   obtain⟨J0',g1,g2⟩:=new _ _ _ _ (Option.some.inj hq)
   exact⟨J0',by rw[if_pos hz,g1],g2⟩
  .cases hq
 .rename_i t ps hop
  try simp only[hop]
  exact ofV hv fun v hq=>hq
 .rename_i t len ps hop
  try simp only[hop]
  refine ofO hv fun v J' hq=>?_
  split at hq
  .rename_i hg
   rw[if_pos hg]
   unfold bsA at hq ⊢
   split at hq
   .rename_i e hk
    try simp only[hk]
    cases he:T e with
    |none=>simp[he] at hq
    |some ti=>
    simp only[he,Option.bind_some] at hq ⊢
    split at hq
    .rename_i hc
     rw[if_pos hc]
     cases alt
     .simp only[Bool.false_eq_true,if_false] at hq ⊢
      cases hq;exact⟨_,rfl,h.put _ hid⟩
     .simp only[if_true] at hq ⊢
      cases hq;exact⟨_,rfl,h,fun _ _=>rfl⟩
    .cases hq
   .cases hq
  .cases hq
 .rename_i t x y hop
  try simp only[hop]
  split at hv
  .rename_i J1 hs
   cases hv
   split at hs
   .rename_i hg
    obtain⟨J0',g1,g2⟩:=storeA_lift h hs
    exact⟨J0',by rw[if_pos hg,g1],g2⟩
   .cases hs
  .cases hv
 .rename_i t l c hop
  try simp only[hop]
  refine ofO hv fun v J' hq=>?_
  unfold makeA at hq ⊢
  split at hq
  .rename_i e k n k' m hk h1 h2
   try simp only[hk,h1,h2]
   cases he:T e with
   |none=>simp[he] at hq
   |some ti=>
   simp only[he,Option.bind_some] at hq ⊢
   split at hq
   .rename_i hc
    rw[if_pos hc]
    cases alt
    .simp only[Bool.false_eq_true,if_false] at hq ⊢
     cases hq;exact⟨_,rfl,h.put _ hid⟩
    .simp only[if_true] at hq ⊢
     cases hq;exact⟨_,rfl,h,fun _ _=>rfl⟩
   .cases hq
  .cases hq
 .rename_i t x lo hi hop
  try simp only[hop]
  exact ofV hv fun v hq=>cutA_lift h hq
 .rename_i args ats hop
  try simp only[hop]
  split at hv
  .rename_i s x t t' ha hat
   try simp only[ha,hat]
   split at hv
   .rename_i htt
    rw[if_pos htt]
    refine ofO hv fun v J' hq=>?_
    cases alt
    .simp only[Bool.false_eq_true,if_false] at hq ⊢
     exact appendA_lift h hid hq
    .simp only[if_true] at hq ⊢
     obtain⟨g1,rfl⟩:=appendF_lift h hq
     exact⟨J0,g1,h,fun _ _=>rfl⟩
   .rename_i htt
    rw[if_neg htt]
    cases alt
    .simp only[Bool.false_eq_true,if_false] at hv ⊢
     exact ofO hv fun v J' hq=>appendZ_lift h hid hq
    .simp only[if_true] at hv;cases hv
  .cases hv
 .rename_i f args _ hop
  unfold callA at hv
  split at hv
  .split at hv<;>cases hv
  .cases hv
 .rename_i x hop
  try simp only[hop]
  cases alt
  .simp only[Bool.false_eq_true,if_false] at hv ⊢
   exact ofV hv fun v hq=>stepP_lift h hq
  .simp only[if_true] at hv ⊢
   refine ofO hv fun v J' hq=>?_
   unfold nilA at hq ⊢
   split at hq
   .rename_i e h1 h2
    try simp only[h1,h2]
    cases he:T e with
    |none=>simp[he] at hq
    |some ti=>
    simp only[he,Option.map_some] at hq ⊢
    cases hq;exact⟨_,rfl,h.put _ hid⟩
   .cases hq
 .rename_i op g1 g2 g3 g4 g5 g6 g7 g8 g9 g10
  exact ofV hv fun v hq=>stepP_lift h hq

end Go.Abs
