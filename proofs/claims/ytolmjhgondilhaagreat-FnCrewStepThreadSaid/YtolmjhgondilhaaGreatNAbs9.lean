/- Slice literals, struct literals, make, cuts: the machine's side. -/
import Derived.Test.YtolmjhgondilhaaGreatNAbs7
import Derived.Laws.MakeOwn
import Derived.Laws.Slices
set_option linter.unusedSimpArgs false
set_option linter.unusedVariables false
namespace Go.Abs
open Go Go.RowKit

def jN (z:Array Value)(n:Nat):Array Value:=(Array.range n).map (z[· % z.size]!)

theorem Rows.zeros {C ow}{w:World}{zs:List AV}{z:Array Value}(hl:zs.length=z.size)(h0:0<z.size)(hv:∀(i:Nat) (x:AV) (u:Value),zs[i]? =some x->z[i]? =some u->VRel C ow w x u)(h1:∀x∈zs,x.one=true)(n:Nat):
  Rows C ow w z.size (List.replicate n zs) (jN z (n*z.size)):=by
 intro r e hr
 have hrl:r<n:=by have:=(List.getElem?_eq_some_iff.1 hr).1;simpa using this
 have he:e=zs:=by have:=List.mem_of_getElem? hr;exact(List.mem_replicate.1 this).2
 subst he
 refine⟨hl,fun i x hx=>⟨h1 x (List.mem_of_getElem? hx),?_⟩⟩
 have hi:i<z.size:=by rw[<- hl];exact(List.getElem?_eq_some_iff.1 hx).1
 have hlt:r*z.size+i<n*z.size:=idx_lt (j:=0) hrl hi
 have hmod:(r*z.size+i) % z.size=i:=by rw[Nat.add_comm,Nat.add_mul_mod_self_right,Nat.mod_eq_of_lt hi]
 have e1:z[i]? =some z[i]:=by simp[hi]
 refine⟨z[i],?_,hv i x _ hx e1⟩
 simp[jN,hlt,hmod,hi]

theorem setAll_get (vs:List Value):∀(k off:Nat) (arr:Array Value),off+k+vs.length<=arr.size->
  ((vs.zipIdx k).foldl (fun(cs:Array Value) p=>cs.setIfInBounds (off+p.2) p.1) arr).toList=arr.toList.take (off+k)++vs++arr.toList.drop (off+k+vs.length):=by
 induction vs with
 |nil=>intro k off arr h;simp
 |cons v vs ih=>
  intro k off arr h
  simp only[List.length_cons] at h
  simp only[List.zipIdx_cons,List.foldl_cons]
  rw[ih (k+1) off _ (by simp;omega)]
  apply List.ext_getElem?
  intro j
  have h2:off+(k+1)+vs.length<=(arr.setIfInBounds (off+k) v).toList.length:=by simp;omega
  rw[xP _ vs (off+(k+1)) h2 j]
  have h3:off+k+(v::vs).length<=arr.toList.length:=by simp;omega
  rw[xP arr.toList (v::vs) (off+k) h3 j]
  simp only[List.length_cons,Array.toList_setIfInBounds]
  by_cases h4:off+(k+1)<=j/\j<off+(k+1)+vs.length
  .rw[if_pos h4,if_pos (by omega),show j-(off+k)=(j-(off+(k+1)))+1 by omega,List.getElem?_cons_succ]
  .rw[if_neg h4]
   by_cases h5:j=off+k
   .subst h5
    rw[if_pos (by omega),List.getElem?_set_self (by simp;omega)]
    simp
   .rw[if_neg (by omega),List.getElem?_set_ne (by omega)]

def setAll (off:Nat)(vs:Array Value)(arr:Array Value):Array Value:=vs.zipIdx.foldl (fun cs (p:Value×Nat)=>cs.setIfInBounds (off+p.2) p.1) arr

theorem fI (off:Nat)(vs arr:Array Value)(h:off+vs.size<=arr.size):setAll off vs arr=(arr.toList.take off++vs.toList++arr.toList.drop (off+vs.size)).toArray:=by
 have:=setAll_get vs.toList 0 off arr (by simpa using h)
 simp only[Nat.add_zero,Array.length_toList] at this
 apply Array.ext'
 rw[<- this]
 unfold setAll
 rw[<- Array.foldl_toList,Array.toList_zipIdx]

theorem fill_cons (place:Nat->Option (Nat×Nat))(cells:Array Value)(i:Nat)(v:Value)(rest:List (Nat×Value))(off:Nat)(hp:place i=some (off,v.cells.size))(h:off+v.cells.size<=cells.size):
  Instr.fill place cells ((i,v)::rest)=Instr.fill place (setAll off v.cells cells) rest:=by
 simp only[Instr.fill,hp]
 rw[if_neg]
 .rfl
 .simp;omega

def uG (rows:List (List AV))(parts:List (Nat×List AV)):List (List AV):=parts.foldl (fun rows p=>rows.set p.1 p.2) rows

theorem fill_rows {C ow}{w:World}{sz:Nat}:∀(parts:List (Nat×AV)) (cparts:List (Nat×Value)),parts.length=cparts.length->
  (∀(k:Nat) (p:Nat×AV) (q:Nat×Value),parts[k]? =some p->cparts[k]? =some q->p.1=q.1/\VRel C ow w p.2 q.2)->
  ∀(rows:List (List AV)) (arr:Array Value),Rows C ow w sz rows arr->rows.length*sz=arr.size->(∀p∈parts,p.1<rows.length/\p.2.cells.length=sz/\sH p.2.cells=true)->
  ∃arr',Instr.fill (fun i=>some (i*sz,sz)) arr cparts=some arr'/\arr'.size=arr.size/\Rows C ow w sz (uG rows (parts.map fun p=>(p.1,p.2.cells))) arr':=by
 intro parts
 induction parts with
 |nil=>
  intro cparts hl _ rows arr h hs _
  have:cparts=[]:=List.eq_nil_of_length_eq_zero (by simpa using hl.symm)
  subst this
  exact⟨arr,rfl,rfl,h⟩
 |cons p parts ih=>
  intro cparts hl hrel rows arr h hs hok
  cases cparts with
  |nil=>simp at hl
  |cons q cparts=>
   obtain⟨i,v⟩:=q
   obtain⟨i',x⟩:=p
   obtain⟨h1,h2⟩:=hrel 0 (i',x) (i,v) rfl rfl
   simp only at h1 h2
   subst h1
   obtain⟨h3,h4,h5⟩:=hok (i',x) (by simp)
   simp only at h3 h4 h5
   obtain⟨h6,h7⟩:=dB h2 h5
   have hrow:rows[i']? =some rows[i']:=by simp[h3]
   have hrl:=(h i' _ hrow).1
   obtain⟨g1,g2⟩:=Rows.store (vs:=v.cells.toList) (i:=0) h (by omega) hrow (by simpa using h6) (fun j y u hy hu=>h7 j y u hy (by simpa using hu)) (by simpa [sH] using h5) (by omega)
   have hsp:xU rows[i'] 0 x.cells=x.cells:=by
    simp only[xU,List.take_zero,List.nil_append,Nat.zero_add]
    rw[List.drop_eq_nil_of_le (by omega),List.append_nil]
   rw[hsp] at g1
   simp only[Nat.add_zero,Array.length_toList] at g1 g2
   have hsz:v.cells.size=sz:=by omega
   rw[<- fI (i'*sz) v.cells arr g2] at g1
   have hss:(setAll (i'*sz) v.cells arr).size=arr.size:=by rw[fI _ _ _ g2];simp;omega
   obtain⟨arr',g3,g4,g5⟩:=ih cparts (by simpa using hl) (fun k p q hp hq=>hrel (k+1) p q (by simpa using hp) (by simpa using hq)) _ _ g1 (by simp;omega) (fun p hp=>by simpa using hok p (by simp[hp]))
   exact⟨arr',by rw[fill_cons _ _ _ _ _ (i'*sz) (by rw[hsz]) g2];exact g3,by omega,g5⟩

def bsA (T:Types)(t:TypeId)(alt:Bool)(id len:Nat)(parts:List (Nat×AV))(J:AHeap):Option (AV×AHeap):=
 match T.kind t with
 |some (.slice e)=>(T e).bind fun ti=>
  if 0<ti.sz/\len*ti.sz<=16777216/\parts.all (fun p=>decide (p.1<len)&&(p.2.cells.length==ti.sz)&&sH p.2.cells)=true then
   (if alt then some (if len=0 then .esl else .fsl (uG (List.replicate len ti.wz) (parts.map fun p=>(p.1,p.2.cells))),J)
   else some (.sl id 0 len,J.put id ⟨e,ti.sz,uG (List.replicate len ti.wz) (parts.map fun p=>(p.1,p.2.cells))⟩)) else none
 |_=>none

theorem buildRows_len (rows:List (List AV))(parts:List (Nat×List AV)):(uG rows parts).length=rows.length:=by
 unfold uG
 induction parts generalizing rows with
 |nil=>rfl
 |cons p parts ih=>simp only[List.foldl_cons];rw[ih];simp

theorem cF {G C J w alt id e sz n arr rows}(hR:R0 G C J w)(hid:id<J.next)(ho:J.objs id=none)(hC:C id=none)(h0:0<sz)(hn:rows.length=n)(hm:n<=maxLen)(hs:arr.size=n*sz)
  (hrows:Rows C (own0 C J) w sz rows arr):
  HPost0 G id C J w (if alt=true then AV.fsl rows else .sl id 0 n) (if alt=true then J else J.put id ⟨e,sz,rows⟩) (.slice (some ⟨w.heap.size,0,none⟩) n n) (w.alloc (.cells arr e)):=by
 have hold:∀b,b<w.heap.size->(w.alloc (.cells arr e)).heap[b]? =w.heap[b]? :=fun b hb=>heap_alloc_old w _ b hb
 have hnew:(w.alloc (.cells arr e)).heap[w.heap.size]? =some (.cells arr e (0,0)):=heap_alloc_new w _
 cases alt with
 |true=>
  simp only[if_true]
  obtain⟨h1,h2⟩:=hR.frozen (w':=w.alloc (.cells arr e)) (·≠id) rfl rfl rfl (by simp) hold
  refine⟨C,h1,h2,?_⟩
  have hr':=Rows.mono h2 hrows
  refine VRel.fsl (off:=0) (sz:=sz) (fun j i=>arr.getD (j*sz+i) undef) (fun row hrow x hx=>?_) hn (by simp) (fun h=>by have:=hR.fresh h;omega) h0 (Nat.le_refl _) hm (fun j row hj=>(hr' j row hj).1) (fun j row hj i x hx=>?_) (fun j row hj i x hx=>?_)
  .obtain⟨j,hj,rfl⟩:=List.getElem_of_mem hrow
   obtain⟨i,hi,rfl⟩:=List.getElem_of_mem hx
   exact((hr' j rows[j] (List.getElem?_eq_getElem hj)).2 i rows[j][i] (List.getElem?_eq_getElem hi)).1
  .obtain⟨_,v,h3,_⟩:=(hr' j row hj).2 i x hx
   rw[kY hnew,Nat.zero_add,h3,Array.getD_eq_getD_getElem?,h3];rfl
  .obtain⟨_,v,h3,h4⟩:=(hr' j row hj).2 i x hx
   rw[Array.getD_eq_getD_getElem?,h3];exact h4
 |false=>
  simp only[Bool.false_eq_true,if_false]
  obtain⟨h1,h2⟩:=hR.new (w':=w.alloc (.cells arr e)) (ty:=e) (sz:=sz) (rows:=rows) (arr:=arr) hid ho hC h0 rfl rfl rfl (by simp) hold hnew (by rw[hn,hs];exact Nat.le_refl _) hrows
  refine⟨_,h1,h2,?_⟩
  have:=VRel.sl (C:=setC C id (w.heap.size,sz)) (ow:=own0 (setC C id (w.heap.size,sz)) (J.put id ⟨e,sz,rows⟩)) (o:=id) (r:=0) (n:=n) (b:=w.heap.size) (sz:=sz) (by simp[setC]) h0 (Nat.le_refl _) hm hnew (by rw[hs,Nat.zero_add])
  simpa using this

theorem dZ {P T G C J w t alt id len parts cparts v J'}(hT:TOk P T)(hR:R0 G C J w)(hid:id<J.next)(ho:J.objs id=none)(hC:C id=none)(hl:parts.length=cparts.size)
  (hp:∀(k:Nat) (p:Nat×AV) (q:Nat×Value),parts[k]? =some p->cparts[k]? =some q->p.1=q.1/\VRel C (own0 C J) w p.2 q.2)
  (h:bsA T t alt id len parts J=some (v,J')):∃cv w',(Instr.buildSlice t len cparts).run P w=.ok cv w'/\HPost0 G id C J w v J' cv w':=by
 unfold bsA at h
 split at h
 case h_2=>cases h
 rename_i e hk
 obtain⟨d,hd,hdk⟩:=hT.under hk
 cases d<;>simp[tkOf] at hdk
 subst hdk
 rename_i e
 cases he:T e with
 |none=>simp[he] at h
 |some ti=>
 simp only[he,Option.bind_some] at h
 split at h
 case isFalse=>cases h
 rename_i hc
 obtain⟨h0,hbig,hall⟩:=hc
 obtain⟨z,hz1,hz2,hz3,hz4⟩:=fE (P:=P) (C:=C) (ow:=own0 C J) (w:=w) hT he
 have hzl:ti.wz.length=ti.sz:=ti.wz_len.trans (hT e ti he).2.2.2.1
 have hzs:z.cells.size=ti.sz:=hz2.symm.trans hzl
 simp only[List.all_eq_true,Bool.and_eq_true,decide_eq_true_eq,beq_iff_eq] at hall
 have hrows0:Rows C (own0 C J) w ti.sz (List.replicate len ti.wz) (jN z.cells (len*ti.sz)):=by
  have:=Rows.zeros hz2 (by omega) hz3 hz4 len
  rwa [hzs] at this
 obtain⟨arr',g1,g2,g3⟩:=fill_rows parts cparts.toList (by simpa using hl) (fun k p q hp' hq=>hp k p q hp' (by simpa using hq)) _ _ hrows0 (by simp[jN]) (fun p hp'=>by
  obtain⟨⟨h1,h2⟩,h3⟩:=hall p hp'
  exact⟨by simpa using h1,h2,h3⟩)
 have hsize:arr'.size=len*ti.sz:=by rw[g2];simp[jN]
 have hrun:(Instr.buildSlice t len cparts).run P w=.ok (.slice (some ⟨w.heap.size,0,none⟩) len len) (w.alloc (.cells arr' e)):=by
  by_cases hlen:len*ti.sz=0
  .have hz0:(Array.range (len*ti.sz)).map (fun x=>(#[]:Array Value)[x % 0]!)=jN z.cells (len*ti.sz):=by
    rw[hlen];simp[jN,Array.range_zero']
   have hz0':(Array.range (len*ti.sz)).map (fun x=>(#[]:Array Value)[x % (#[]:Array Value).size]!)=jN z.cells (len*ti.sz):=hz0
   simp only[Instr.buildSlice,Sem.run_bind,run_underlying hd,Result.andThen_ok,hT.size he]
   rw[if_neg (by omega),if_pos hlen]
   simp only[Sem.run_bind,Sem.run_pure,Result.andThen_ok,hz0',g1,newRow]
   simp
  .simp only[Instr.buildSlice,Sem.run_bind,run_underlying hd,Result.andThen_ok,hT.size he]
   rw[if_neg (by omega),if_neg hlen]
   have hz0:(Array.range (len*ti.sz)).map (fun x=>z.cells[x % z.cells.size]!)=jN z.cells (len*ti.sz):=rfl
   simp only[Sem.run_bind,Sem.run_pure,Result.andThen_ok,hz1,hz0,g1,newRow]
   simp
 have hfin:=cF (alt:=alt) (e:=e) (rows:=uG (List.replicate len ti.wz) (parts.map fun p=>(p.1,p.2.cells))) hR hid ho hC h0 (by rw[buildRows_len];simp) (n:=len) (by simp only[maxLen];have:len*1<=len*ti.sz:=Nat.mul_le_mul_left _ h0;omega) hsize g3
 refine⟨_,_,hrun,?_⟩
 cases alt with
 |true=>
  simp only[if_true] at h hfin
  obtain⟨rfl,rfl⟩:v=(if len=0 then .esl else .fsl (uG (List.replicate len ti.wz) (parts.map fun p=>(p.1,p.2.cells))))/\J'=J:=by
   have:=Option.some.inj h;exact⟨(congrArg Prod.fst this).symm,(congrArg Prod.snd this).symm⟩
  split
  .rename_i hl0
   subst hl0
   obtain⟨C',q1,q2,_⟩:=hfin
   exact⟨C',q1,q2,.esl⟩
  .exact hfin
 |false=>
  simp only[Bool.false_eq_true,if_false] at h hfin
  obtain⟨rfl,rfl⟩:v=_/\J'=_:=by have:=Option.some.inj h;exact⟨(congrArg Prod.fst this).symm,(congrArg Prod.snd this).symm⟩
  exact hfin

end Go.Abs

/- Struct literals, make, cuts: the machine's side. -/
set_option linter.unusedSimpArgs false
set_option linter.unusedVariables false
namespace Go.Abs
open Go Go.RowKit

def uH (place:Nat->Option (Nat×Nat)):List AV->List (Nat×AV)->Option (List AV)
 |row,[]=>some row
 |row,(i,x)::rest=>match place i with
  |some (off,sz)=>if x.cells.length=sz/\off+sz<=row.length/\sH x.cells=true then uH place (xU row off x.cells) rest else none
  |none=>none

def mL (T:Types):List (Nat×TypeId)->Option (List (Nat×Nat))
 |[]=>some []
 |(off,t)::fs=>(T t).bind fun ti=>(mL T fs).map fun r=>(off,ti.sz)::r

def TI.zz (ti:TI):Bool->List AV
 |true=>ti.zero
 |false=>ti.wz

theorem zz_rel {P T C ow}{w:World}(hT:TOk P T){t:TypeId}{ti:TI}(ht:T t=some ti)(b:Bool):
  ∃z,(zeroValue t).run P w=.ok z w/\(ti.zz b).length=z.cells.size/\(∀(i:Nat) (x:AV) (u:Value),(ti.zz b)[i]? =some x->z.cells[i]? =some u->VRel C ow w x u)/\(∀x∈ti.zz b,x.one=true):=by
 cases b with
 |false=>exact fE hT ht
 |true=>exact zero_rel hT ht

def buildA (T:Types)(b:Bool)(t:TypeId)(parts:List (Nat×AV)):Option AV:=
 (T t).bind fun ti=>match ti.k with
  |.struct fs=>(mL T fs).bind fun ps=>(uH (ps[·]?) (ti.zz b) parts).map .agg
  |.array _ e=>(T e).bind fun te=>(uH (fun i=>some (i*te.sz,te.sz)) (ti.zz b) parts).map .agg
  |_=>none

theorem fill_row {C ow}{w:World}(place:Nat->Option (Nat×Nat)):∀(parts:List (Nat×AV)) (cparts:List (Nat×Value)),parts.length=cparts.length->
  (∀(k:Nat) (p:Nat×AV) (q:Nat×Value),parts[k]? =some p->cparts[k]? =some q->p.1=q.1/\VRel C ow w p.2 q.2)->
  ∀(row:List AV) (arr:Array Value),row.length=arr.size->(∀(i:Nat) (x:AV) (u:Value),row[i]? =some x->arr[i]? =some u->VRel C ow w x u)->
  ∀row',uH place row parts=some row'->∃arr',Instr.fill place arr cparts=some arr'/\row'.length=arr'.size/\(∀(i:Nat) (x:AV) (u:Value),row'[i]? =some x->arr'[i]? =some u->VRel C ow w x u):=by
 intro parts
 induction parts with
 |nil=>
  intro cparts hl _ row arr h1 h2 row' h
  have:cparts=[]:=List.eq_nil_of_length_eq_zero (by simpa using hl.symm)
  subst this
  cases h
  exact⟨arr,rfl,h1,h2⟩
 |cons p parts ih=>
  intro cparts hl hrel row arr h1 h2 row' h
  cases cparts with
  |nil=>simp at hl
  |cons q cparts=>
   obtain⟨i,v⟩:=q
   obtain⟨i',x⟩:=p
   obtain⟨e1,hr⟩:=hrel 0 (i',x) (i,v) rfl rfl
   simp only at e1 hr
   subst e1
   simp only[uH] at h
   cases hp:place i' with
   |none=>simp[hp] at h
   |some y=>
   obtain⟨off,sz⟩:=y
   simp only[hp] at h
   split at h
   case isFalse=>cases h
   rename_i hc
   obtain⟨h3,h4⟩:=dB hr hc.2.2
   have hvs:v.cells.size=sz:=by omega
   have hfit:off+v.cells.size<=arr.size:=by omega
   have hlen:(xU row off x.cells).length=(setAll off v.cells arr).size:=by
    rw[hH _ _ _ (by omega),fI _ _ _ hfit];simp;omega
   obtain⟨arr',g1,g2,g3⟩:=ih cparts (by simpa using hl) (fun k p q hp hq=>hrel (k+1) p q (by simpa using hp) (by simpa using hq)) (xU row off x.cells) (setAll off v.cells arr) hlen
    (fun k y u hy hu=>by
     rw[fI _ _ _ hfit] at hu
     rw[xU,xP row x.cells off (by omega)] at hy
     have hu':(arr.toList.take off++v.cells.toList++arr.toList.drop (off+v.cells.toList.length))[k]? =some u:=by simpa using hu
     rw[xP arr.toList v.cells.toList off (by simpa using hfit)] at hu'
     simp only[Array.length_toList] at hu'
     split at hy
     .rename_i hk
      rw[if_pos (by omega)] at hu'
      exact h4 _ y u hy (by simpa using hu')
     .rename_i hk
      rw[if_neg (by omega)] at hu'
      exact h2 k y u hy (by simpa using hu')) row' h
   exact⟨arr',by rw[fill_cons _ _ _ _ _ off (by rw[hp,hvs]) hfit];exact g1,g2,g3⟩

theorem fT {P T}(hT:TOk P T):∀(fields:List Field) (ps:List (Nat×Nat)),mL T (fields.map fun f=>(f.offset,f.type))=some ps->
  fields.mapM (fun f=>(P.info? f.type).map fun i=>(f.offset,i.size))=some ps
 |[],ps,h=>by simp[mL] at h;subst h;rfl
 |f::fs,ps,h=>by
  simp only[List.map_cons,mL] at h
  cases ht:T f.type with
  |none=>simp[ht] at h
  |some ti=>
   cases hr:mL T (fs.map fun f=>(f.offset,f.type)) with
   |none=>simp[ht,hr] at h
   |some r=>
    simp[ht,hr] at h
    subst h
    obtain⟨x,hx,hs,_⟩:=hT.info ht
    simp[List.mapM_cons,hx,hs,fT hT fs r hr]

theorem buildA_sound {P T C ow}{w:World}(hT:TOk P T){b:Bool}{t:TypeId}{parts:List (Nat×AV)}{cparts:Array (Nat×Value)}{v:AV}(hl:parts.length=cparts.size)
  (hp:∀(k:Nat) (p:Nat×AV) (q:Nat×Value),parts[k]? =some p->cparts[k]? =some q->p.1=q.1/\VRel C ow w p.2 q.2) (h:buildA T b t parts=some v):
  ∃cv,(Instr.build t cparts).run P w=.ok cv w/\VRel C ow w v cv:=by
 unfold buildA at h
 cases ht:T t with
 |none=>simp[ht] at h
 |some ti=>
 simp only[ht,Option.bind_some] at h
 obtain⟨info,hi,_,_,z,hz,hzc⟩:=hT.info ht
 obtain⟨z',hz1,hz2,hz3,hz4⟩:=zz_rel (P:=P) (C:=C) (ow:=ow) (w:=w) hT ht b
 have hzz:z'=z:=by simp[zeroValue,typeInfo,hi,hz] at hz1;exact hz1.symm
 subst hzz
 obtain⟨d,hd,hdk⟩:=hT.under (t:=t) (k:=ti.k) (by simp[Types.kind,ht])
 split at h
 .rename_i fs hk
  rw[hk] at hdk
  cases d<;>simp[tkOf] at hdk
  rename_i fields
  subst hdk
  cases hps:mL T (fields.toList.map fun f=>(f.offset,f.type)) with
  |none=>simp[hps] at h
  |some ps=>
  cases hb:uH (ps[·]?) (ti.zz b) parts with
  |none=>simp[hps,hb] at h
  |some row'=>
  simp[hps,hb] at h
  subst h
  obtain⟨arr',g1,g2,g3⟩:=fill_row (ps[·]?) parts cparts.toList (by simpa using hl) (fun k p q h1 h2=>hp k p q h1 (by simpa using h2)) (ti.zz b) z'.cells hz2 hz3 row' hb
  refine⟨.agg arr',run_build w t cparts arr' ?_,.agg g2 g3⟩
  simp only[Program.built,hi,hd,hz,fT hT _ _ hps]
  simpa using g1
 .rename_i n e hk
  rw[hk] at hdk
  cases d<;>simp[tkOf] at hdk
  obtain⟨rfl,rfl⟩:=hdk
  rename_i n e
  cases hte:T e with
  |none=>simp[hte] at h
  |some te=>
  cases hb:uH (fun i=>some (i*te.sz,te.sz)) (ti.zz b) parts with
  |none=>simp[hte,hb] at h
  |some row'=>
  simp[hte,hb] at h
  subst h
  obtain⟨ie,hie,hies,_⟩:=hT.info hte
  obtain⟨arr',g1,g2,g3⟩:=fill_row (fun i=>some (i*te.sz,te.sz)) parts cparts.toList (by simpa using hl) (fun k p q h1 h2=>hp k p q h1 (by simpa using h2)) (ti.zz b) z'.cells hz2 hz3 row' hb
  refine⟨.agg arr',run_build w t cparts arr' ?_,.agg g2 g3⟩
  simp only[Program.built,hi,hd,hz,hie,hies]
  exact g1
 .cases h

def makeA (T:Types)(t:TypeId)(alt:Bool)(id:Nat)(l c:AV)(J:AHeap):Option (AV×AHeap):=
 match T.kind t,l,c with
 |some (.slice e),.int _ n,.int _ m=>(T e).bind fun ti=>
  if 0<ti.sz/\n=m/\0<=n/\n<=9223372036854775807/\(ti.bytes:Int)*n<=281474976710656/\n.toNat<=maxLen then
   (if alt then some (.fsl (List.replicate n.toNat ti.wz),J) else some (.sl id 0 n.toNat,J.put id ⟨e,ti.sz,List.replicate n.toNat ti.zero⟩)) else none
 |_,_,_=>none

theorem makeA_sound {P T G C J w t alt id l c cl cc v J'}(hT:TOk P T)(hR:R0 G C J w)(hid:id<J.next)(ho:J.objs id=none)(hC:C id=none)
  (hl:VRel C (own0 C J) w l cl) (hc:VRel C (own0 C J) w c cc) (h:makeA T t alt id l c J=some (v,J')):
  ∃cv w',(Instr.makeSlice t cl cc).run P w=.ok cv w'/\HPost0 G id C J w v J' cv w':=by
 unfold makeA at h
 split at h
 case h_2=>cases h
 rename_i e k n k' m hk
 obtain⟨d,hd,hdk⟩:=hT.under hk
 cases d<;>simp[tkOf] at hdk
 subst hdk
 rename_i e
 cases hl;cases hc
 cases he:T e with
 |none=>simp[he] at h
 |some ti=>
 simp only[he,Option.bind_some] at h
 split at h
 case isFalse=>cases h
 rename_i hcd
 obtain⟨h0,rfl,hn0,hn63,hb,hm⟩:=hcd
 obtain⟨info,hi,hisz,hiby,z,hz,hzc⟩:=hT.info he
 obtain⟨z',hz1,hz2,hz3,hz4⟩:∃z,(zeroValue e).run P w=.ok z w/\(if alt then ti.wz else ti.zero).length=z.cells.size/\(∀(i:Nat) (x:AV) (u:Value),(if alt then ti.wz else ti.zero)[i]? =some x->z.cells[i]? =some u->VRel C (own0 C J) w x u)/\(∀x∈(if alt then ti.wz else ti.zero),x.one=true):=by
  cases alt
  .exact zero_rel hT he
  .exact fE hT he
 have hzz:z'=z:=by simp[zeroValue,typeInfo,hi,hz] at hz1;exact hz1.symm
 subst hzz
 have hzs:z'.cells.size=ti.sz:=hz2.symm.trans (by
  cases alt
  .exact(hT e ti he).2.2.2.1
  .exact ti.wz_len.trans (hT e ti he).2.2.2.1)
 have hr:=run_make (P:=P) w t e info z' hd hi hz k k' n n hn0 (Int.le_refl _) (by rw[hiby];exact hb) hn63
 have hrows:=Rows.zeros hz2 (by omega) hz3 hz4 n.toNat
 rw[hzs] at hrows
 have hma:madeCells z'.cells (n.toNat*info.size)=jN z'.cells (n.toNat*ti.sz):=by rw[hisz];rfl
 have hfin:=cF (alt:=alt) (e:=e) hR hid ho hC h0 (n:=n.toNat) (by simp) hm (arr:=jN z'.cells (n.toNat*ti.sz)) (by simp[jN]) hrows
 rw[hma] at hr
 refine⟨_,_,hr,?_⟩
 cases alt with
 |true=>
  simp only[if_true] at h hfin
  obtain⟨rfl,rfl⟩:v=_/\J'=J:=by have:=Option.some.inj h;exact⟨(congrArg Prod.fst this).symm,(congrArg Prod.snd this).symm⟩
  exact hfin
 |false=>
  simp only[Bool.false_eq_true,if_false] at h hfin
  obtain⟨rfl,rfl⟩:v=_/\J'=_:=by have:=Option.some.inj h;exact⟨(congrArg Prod.fst this).symm,(congrArg Prod.snd this).symm⟩
  exact hfin

def lowA:Option AV->Option Int
 |none=>some 0
 |some (.int _ l)=>some l
 |_=>none
def highA (n:Nat):Option AV->Option Int
 |none=>some n
 |some (.int _ h)=>some h
 |_=>none

def cutA (T:Types)(J:AHeap)(t:TypeId)(x:AV)(lo hi:Option AV):Option AV:=
 match T.kind t,x with
 |some (.slice e),.sl o r n=>
  (lowA lo).bind fun l=>(highA n hi).bind fun h=>(J.objs o).bind fun ob=>(T e).bind fun ti=>
  if ob.sz=ti.sz/\0<=l/\l<=h/\h<=n then some (.sl o (r+l.toNat) (h.toNat-l.toNat)) else none
 |some (.slice e),.fsl es=>
  (lowA lo).bind fun l=>(highA es.length hi).bind fun h=>(T e).bind fun ti=>
  if es.all (fun e=>e.length==ti.sz)/\0<=l/\l<=h/\h<=es.length then some (.fsl ((es.take h.toNat).drop l.toNat)) else none
 |_,_=>none

theorem dO {P:Program}(w:World)(t e:TypeId)(sz:Nat)(hd:P.underlying t=some (.slice e))(hs:∀w,(sizeOf e).run P w=.ok sz w)(a:Option Addr)(len cap:Nat)(lo hi:Option Value)(l h:Int)
  (hlo:lo=none/\l=0\/∃k,lo=some (.int k l)) (hhi:hi=none/\h=len\/∃k,hi=some (.int k h)) (h0:0<=l) (h1:l<=h) (h2:h<=cap):
  (Instr.sliceAt t (.slice a len cap) lo hi none).run P w=.ok (.slice (if cap=l.toNat then a else a.map (·.add (l.toNat*sz))) (h.toNat-l.toNat) (cap-l.toNat)) w:=by
 have hb:(Instr.sliceBounds true len cap lo hi none).run P w=.ok (l.toNat,h.toNat,cap) w:=by
  have eh:(h.toNat:Int)=h:=Int.toNat_of_nonneg (by omega)
  have h3:0<=h:=by omega
  rcases hlo with⟨rfl,rfl⟩|⟨k,rfl⟩<;>rcases hhi with⟨rfl,rfl⟩|⟨k',rfl⟩<;>simp[Instr.sliceBounds,run_sliceBound, *]
 simp only[Instr.sliceAt,Sem.run_bind,run_underlying hd,Result.andThen_ok,Instr.slice,hb,hs,Sem.run_pure]

theorem cutA_sound {P T G C J w t x lo hi clo chi cx v}(hT:TOk P T)(hR:R0 G C J w)(hx:VRel C (own0 C J) w x cx)
  (hlo:(lo=none/\clo=none)\/∃y cy,lo=some y/\clo=some cy/\VRel C (own0 C J) w y cy) (hhi:(hi=none/\chi=none)\/∃y cy,hi=some y/\chi=some cy/\VRel C (own0 C J) w y cy)
  (h:cutA T J t x lo hi=some v):∃cv,(Instr.sliceAt t cx clo chi none).run P w=.ok cv w/\VRel C (own0 C J) w v cv:=by
 unfold cutA at h
 have low:∀l,lowA lo=some l->clo=none/\l=0\/∃k,clo=some (.int k l):=by
  intro l hl
  rcases hlo with⟨rfl,rfl⟩|⟨y,cy,rfl,rfl,hy⟩
  .left;exact⟨rfl,by simpa [lowA] using hl.symm⟩
  .right
   cases hy<;>simp[lowA] at hl
   subst hl
   exact⟨_,rfl⟩
 have high:∀(n:Nat) h,highA n hi=some h->chi=none/\h=n\/∃k,chi=some (.int k h):=by
  intro n h hh
  rcases hhi with⟨rfl,rfl⟩|⟨y,cy,rfl,rfl,hy⟩
  .left;exact⟨rfl,by simpa [highA] using hh.symm⟩
  .right
   cases hy<;>simp[highA] at hh
   subst hh
   exact⟨_,rfl⟩
 split at h
 .rename_i e o r n hk
  cases hl:lowA lo with
  |none=>simp[hl] at h
  |some l=>
  obtain⟨d,hd,hdk⟩:=hT.under hk
  cases d<;>simp[tkOf] at hdk
  subst hdk
  rename_i e
  cases hh:highA n hi with
  |none=>simp[hl,hh] at h
  |some hv=>
  cases ho:J.objs o with
  |none=>simp[hl,hh,ho] at h
  |some ob=>
  cases he:T e with
  |none=>simp[hl,hh,ho,he] at h
  |some ti=>
  simp only[hl,hh,ho,he,Option.bind_some] at h
  split at h
  case isFalse=>cases h
  rename_i hc
  obtain⟨c1,c2,c3,c4⟩:=hc
  cases h
  have hlo':=low l hl
  have hhi':=high n hv hh
  cases hx with
  |@sl0 _ _ _ a0 hC0=>
   have e1:l=0:=by omega
   have e2:hv=0:=by omega
   subst e1;subst e2
   refine⟨_,dO w t e ti.sz hd (hT.size he) a0 0 0 clo chi 0 0 hlo' (by simpa using hhi') (Int.le_refl _) (Int.le_refl _) (by simp),?_⟩
   exact .sl0 hC0
  |@sl1 _ r _ _ cap a0 hC0=>
   have e1:l=0:=by omega
   have e2:hv=0:=by omega
   subst e1;subst e2
   refine⟨_,dO w t e ti.sz hd (hT.size he) a0 0 cap clo chi 0 0 hlo' (by simpa using hhi') (Int.le_refl _) (Int.le_refl _) (by simp),?_⟩
   exact .sl1 hC0
  |sl hC hsz hn hcm hw hle=>
   rename_i b sz cap T' arr
   have hob:=hR.obj o ob ho
   rw[hC] at hob
   obtain⟨rfl,_⟩:=hob.get hsz
   by_cases c5:l<n\/l=0
   case neg=>
    have e1:hv.toNat-l.toNat=0:=by omega
    obtain⟨q,hq⟩:∃q,r+l.toNat=q+1:=⟨r+l.toNat-1,by omega⟩
    refine⟨_,dO w t e ti.sz hd (hT.size he) _ n cap clo chi l hv hlo' hhi' c2 c3 (by omega),?_⟩
    rw[e1,hq]
    exact .sl1 hC
   refine⟨_,dO w t e ti.sz hd (hT.size he) _ n cap clo chi l hv hlo' hhi' c2 c3 (by omega),?_⟩
   have hadd:(if cap=l.toNat then some (⟨b,r*ob.sz,none⟩:Addr) else(some (⟨b,r*ob.sz,none⟩:Addr)).map (·.add (l.toNat*ti.sz)))=some ⟨b,(r+l.toNat)*ob.sz,none⟩:=by
    by_cases e:cap=l.toNat
    .rw[if_pos e]
     have:l.toNat=0:=by omega
     rw[this,Nat.add_zero]
    .rw[if_neg e]
     simp only[Option.map_some,Addr.add_lit,<- c1,Nat.add_mul]
   rw[hadd]
   refine .sl hC hsz (by omega) (by omega) hw ?_
   rw[<- hle]
   congr 1
   omega
 .rename_i e es hk
  cases hl:lowA lo with
  |none=>simp[hl] at h
  |some l=>
  obtain⟨d,hd,hdk⟩:=hT.under hk
  cases d<;>simp[tkOf] at hdk
  subst hdk
  rename_i e
  cases hh:highA es.length hi with
  |none=>simp[hl,hh] at h
  |some hv=>
  cases he:T e with
  |none=>simp[hl,hh,he] at h
  |some ti=>
  simp only[hl,hh,he,Option.bind_some] at h
  split at h
  case isFalse=>cases h
  rename_i hc
  obtain⟨c1,c2,c3,c4⟩:=hc
  cases h
  have hlo':=low l hl
  have hhi':=high es.length hv hh
  simp only[List.all_eq_true,beq_iff_eq] at c1
  cases hx with
  |fsl0=>
   simp only[List.length_nil] at c4 hhi'
   have e1:l=0:=by omega
   have e2:hv=0:=by omega
   subst e1;subst e2
   refine⟨_,dO w t e ti.sz hd (hT.size he) _ 0 _ clo chi 0 0 hlo' (by simpa using hhi') (Int.le_refl _) (Int.le_refl _) (by omega),?_⟩
   simp
   exact .fsl0
  |fsl vs hone hn hb hno hsz hcap hm hlen hcell hv'=>
   rename_i n b off cap sz
   subst hn
   refine⟨_,dO w t e ti.sz hd (hT.size he) _ es.length cap clo chi l hv hlo' hhi' c2 c3 (by omega),?_⟩
   have hlen2:((es.take hv.toNat).drop l.toNat).length=hv.toNat-l.toNat:=by simp;omega
   by_cases hemp:hv.toNat-l.toNat=0
   .have:(es.take hv.toNat).drop l.toNat=[]:=List.eq_nil_of_length_eq_zero (by omega)
    rw[this,hemp]
    exact .fsl0
   .have hne:¬cap=l.toNat:=by omega
    have he0:es≠[]:=by rintro rfl;simp at c4;omega
    have hszti:sz=ti.sz:=by
     cases es with
     |nil=>exact absurd rfl he0
     |cons x xs=>exact(hlen 0 x rfl).symm.trans (c1 x (by simp))
    rw[if_neg hne]
    simp only[Option.map_some,Addr.add_lit]
    have get:∀(j:Nat) (row:List AV),((es.take hv.toNat).drop l.toNat)[j]? =some row->es[l.toNat+j]? =some row:=by
     intro j row hj
     rw[List.getElem?_drop,List.getElem?_take] at hj
     split at hj
     .exact hj
     .cases hj
    refine VRel.fsl (sz:=sz) (fun j i=>vs (l.toNat+j) i) (fun row hrow=>hone row (List.mem_of_mem_take (List.mem_of_mem_drop hrow))) hlen2 hb hno hsz (by omega) (by omega) (fun j row hj=>hlen _ row (get j row hj)) (fun j row hj i x hx=>?_) (fun j row hj i x hx=>hv' _ row (get j row hj) i x hx)
    rw[<- hcell _ row (get j row hj) i x hx,<- hszti]
    congr 2
    rw[Nat.add_mul];omega
 .cases h

end Go.Abs
