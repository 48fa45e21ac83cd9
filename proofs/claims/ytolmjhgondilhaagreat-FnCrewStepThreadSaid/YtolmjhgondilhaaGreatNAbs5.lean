/- The operations that make and write memory: what they give, and that the machine gives the same. -/
import Derived.Test.YtolmjhgondilhaaGreatNAbs4
set_option linter.unusedSimpArgs false
set_option linter.unusedVariables false
namespace Go.Abs
open Go Go.RowKit

def sH (l:List AV):Bool:=l.all AV.one

def newA (ty:TypeId)(alt:Bool)(id:Nat)(cs:List AV)(J:AHeap):AV×AHeap:=
 if alt then(.fptr cs 0,J) else(.ptr id 0 0,J.put id ⟨ty,cs.length,[cs]⟩)

def boxA (T:Types)(ty:TypeId)(alt:Bool)(id:Nat)(x:AV)(J:AHeap):Option (AV×AHeap):=
 if sH x.cells&&x.cells.length !=0 then some (newA ty alt id x.cells J) else none

def mX (T:Types)(ty:TypeId)(alt:Bool)(id:Nat)(J:AHeap):Option (AV×AHeap):=
 match T ty with
 |some ti=>if ti.zero.length !=0 then some (newA ty alt id ti.zero J) else none
 |none=>none

theorem mapM_val {C ow}{w:World}:∀(cs:List AV),(∀x∈cs,x.one=true)->∀(vs:Array Value),cs.length=vs.size->(∀(i:Nat) (x:AV) (u:Value),cs[i]? =some x->vs[i]? =some u->VRel C ow w x u)->
  Rows C ow w cs.length [cs] vs:=by
 intro cs h1 vs hl hv r e hr
 cases r with
 |zero=>
  simp at hr
  subst hr
  refine⟨rfl,fun i x hx=>⟨h1 x (List.mem_of_getElem? hx),?_⟩⟩
  have hi:i<cs.length:=(List.getElem?_eq_some_iff.1 hx).1
  have e:vs[i]? =some vs[i]:=by simp[hl▸hi]
  exact⟨vs[i],by simp,hv i x _ hx e⟩
 |succ r=>simp at hr

theorem dB {C ow}{w:World}{x:AV}{v:Value}(h:VRel C ow w x v)(hx:sH x.cells=true):
  x.cells.length=v.cells.size/\∀(i:Nat) (y:AV) (u:Value),x.cells[i]? =some y->v.cells[i]? =some u->VRel C ow w y u:=by
 have single:∀(a:AV) (b:Value),VRel C ow w a b->(∀cs,a≠.agg cs)->(∀cs,b≠.agg cs)->a.cells=[a]/\b.cells= #[b]:=by
  intro a b _ ha hb
  exact⟨by cases a<;>simp_all [AV.cells],by cases b<;>simp_all [Value.cells]⟩
 cases h with
 |agg hl hv=>exact⟨hl,hv⟩
 |any=>simp[AV.cells,sH,AV.one] at hx
 |tup hl hv=>simp[AV.cells,sH,AV.one] at hx
 |int=>exact⟨rfl,fun i y u hy hu=>by cases i<;>simp[AV.cells,Value.cells] at hy hu;subst hy;subst hu;exact .int⟩
 |bool=>exact⟨rfl,fun i y u hy hu=>by cases i<;>simp[AV.cells,Value.cells] at hy hu;subst hy;subst hu;exact .bool⟩
 |str=>exact⟨rfl,fun i y u hy hu=>by cases i<;>simp[AV.cells,Value.cells] at hy hu;subst hy;subst hu;exact .str⟩
 |nilp=>exact⟨rfl,fun i y u hy hu=>by cases i<;>simp[AV.cells,Value.cells] at hy hu;subst hy;subst hu;exact .nilp⟩
 |nilsl=>exact⟨rfl,fun i y u hy hu=>by cases i<;>simp[AV.cells,Value.cells] at hy hu;subst hy;subst hu;exact .nilsl⟩
 |esl=>exact⟨rfl,fun i y u hy hu=>by cases i<;>simp[AV.cells,Value.cells] at hy hu;subst hy;subst hu;exact .esl⟩
 |any1 h=>
  obtain⟨e1,e2⟩:=single _ _ (.any1 h) (by intro cs;simp) (by intro cs e;subst e;simp[Value.oneCell'] at h)
  rw[e1,e2]
  exact⟨rfl,fun i y u hy hu=>by cases i<;>simp at hy hu;subst hy;subst hu;exact .any1 h⟩
 |nilf=>exact⟨rfl,fun i y u hy hu=>by cases i<;>simp[AV.cells,Value.cells] at hy hu;subst hy;subst hu;exact .nilf⟩
 |ptr h1=>exact⟨rfl,fun i y u hy hu=>by cases i<;>simp[AV.cells,Value.cells] at hy hu;subst hy;subst hu;exact .ptr h1⟩
 |sl h1 h2 h3 h4 h5 h6=>exact⟨rfl,fun i y u hy hu=>by cases i<;>simp[AV.cells,Value.cells] at hy hu;subst hy;subst hu;exact .sl h1 h2 h3 h4 h5 h6⟩
 |sl0 h1=>exact⟨rfl,fun i y u hy hu=>by cases i<;>simp[AV.cells,Value.cells] at hy hu;subst hy;subst hu;exact .sl0 h1⟩
 |sl1 h1=>exact⟨rfl,fun i y u hy hu=>by cases i<;>simp[AV.cells,Value.cells] at hy hu;subst hy;subst hu;exact .sl1 h1⟩
 |fptr a1 a2 a3 a4 a5 a6=>exact⟨rfl,fun i y u hy hu=>by cases i<;>simp[AV.cells,Value.cells] at hy hu;subst hy;subst hu;exact .fptr a1 a2 a3 a4 a5 a6⟩
 |fsl0=>exact⟨rfl,fun i y u hy hu=>by cases i<;>simp[AV.cells,Value.cells] at hy hu;subst hy;subst hu;exact .fsl0⟩
 |fsl a1 a2 a3 a4 a5 a6 a7 a8 a9 a10 a11=>exact⟨rfl,fun i y u hy hu=>by cases i<;>simp[AV.cells,Value.cells] at hy hu;subst hy;subst hu;exact .fsl a1 a2 a3 a4 a5 a6 a7 a8 a9 a10 a11⟩
 |clo a1 a2 a3 a4=>exact⟨rfl,fun i y u hy hu=>by cases i<;>simp[AV.cells,Value.cells] at hy hu;subst hy;subst hu;exact .clo a1 a2 a3 a4⟩

def HPost0 (G:Globs)(id:Nat)(C:Phi0)(J:AHeap)(w:World)(v:AV)(J':AHeap)(cv:Value)(w':World):Prop:=
 ∃C',R0 G C' J' w'/\Ext0 (·≠id) C J w C' J' w'/\VRel C' (own0 C' J') w' v cv

theorem R0.fresh {G C J w}(hR:R0 G C J w){b:Nat}(h:own0 C J b):b<w.heap.size:=by
 obtain⟨o,ob,sz,h1,h2,h3⟩:=h
 have:=hR.obj o ob h1
 rw[h2] at this
 obtain⟨_,_,_,hw,_⟩:=this.get h3
 exact yL hw

theorem R0.frozen {G C J w w'}(hR:R0 G C J w)(N:Nat->Prop)(hos:w'.os=w.os)(htape:w'.tape=w.tape)(hout:w'.output=w.output)(hsize:w'.heap.size=w.heap.size+1)
  (hold:∀b,b<w.heap.size->w'.heap[b]? =w.heap[b]?):R0 G C J w'/\Ext0 N C J w C J w':=by
 have he:Ext0 N C J w C J w':=⟨fun o _=>⟨rfl,id⟩,fun o x hx=>hx,⟨hos,htape,hout,by omega,fun b hb _=>hold b hb,fun b arr T h=>⟨arr,by rw[hold b (yL h)];exact h,rfl⟩⟩,fun b hb=>.inl hb,Nat.le_refl _⟩
 exact⟨hR.next he hR.ids hR.inj fun o ob h=>.inr ⟨h,rfl,fun b sz hb h0=>hold b (hR.fresh ⟨o,ob,sz,h,hb,h0⟩)⟩,he⟩

theorem newA_sound {G C J w ty alt id cs vs}(hR:R0 G C J w)(hid:id<J.next)(ho:J.objs id=none)(hC:C id=none)(hone:∀x∈cs,x.one=true)(hne:cs.length≠0)
  (hl:cs.length=vs.size) (hv:∀(i:Nat) (x:AV) (u:Value),cs[i]? =some x->vs[i]? =some u->VRel C (own0 C J) w x u):
  HPost0 G id C J w (newA ty alt id cs J).1 (newA ty alt id cs J).2 (.pointer (some ⟨w.heap.size,0,none⟩)) (w.alloc (.cells vs ty)):=by
 have hold:∀b,b<w.heap.size->(w.alloc (.cells vs ty)).heap[b]? =w.heap[b]? :=fun b hb=>heap_alloc_old w _ b hb
 have hnew:(w.alloc (.cells vs ty)).heap[w.heap.size]? =some (.cells vs ty (0,0)):=heap_alloc_new w _
 cases alt with
 |true=>
  obtain⟨h1,h2⟩:=hR.frozen (w':=w.alloc (.cells vs ty)) (·≠id) rfl rfl rfl (by simp) hold
  refine⟨C,h1,h2,?_⟩
  refine VRel.fptr (off:=0) (fun j=>vs.getD j undef) hone (by simp) (fun h=>by have:=hR.fresh h;omega) (fun j x hj=>?_) (fun j x hj=>?_)
  .have hi:j<vs.size:=by rw[<- hl];exact(List.getElem?_eq_some_iff.1 hj).1
   rw[kY hnew,Nat.zero_add]
   simp[hi]
  .have hi:j<vs.size:=by rw[<- hl];exact(List.getElem?_eq_some_iff.1 hj).1
   have e:vs[j]? =some (vs.getD j undef):=by simp[hi]
   exact(hv j x _ hj e).mono h2
 |false=>
  obtain⟨h1,h2⟩:=hR.new (w':=w.alloc (.cells vs ty)) (ty:=ty) (sz:=cs.length) (rows:=[cs]) (arr:=vs) hid ho hC (by omega) rfl rfl rfl (by simp) hold hnew (by simp;omega) (mapM_val cs hone vs hl hv)
  refine⟨_,h1,h2,?_⟩
  have:VRel (setC C id (w.heap.size,cs.length)) (own0 (setC C id (w.heap.size,cs.length)) (J.put id ⟨ty,cs.length,[cs]⟩)) (w.alloc (.cells vs ty)) (.ptr id 0 0) (.pointer (some ⟨w.heap.size,0*cs.length+0,none⟩)):=.ptr (by simp[setC])
  simp only[newA,Bool.false_eq_true,if_false]
  simpa using this

theorem boxA_sound {P T G C J w ty alt id x v J' cx}(hR:R0 G C J w)(hid:id<J.next)(ho:J.objs id=none)(hC:C id=none)(hx:VRel C (own0 C J) w x cx)
  (h:boxA T ty alt id x J=some (v,J')):∃cv w',(Instr.box ty cx).run P w=.ok cv w'/\HPost0 G id C J w v J' cv w':=by
 unfold boxA at h
 split at h
 .rename_i hc
  simp at hc
  obtain⟨rfl,rfl⟩:v=(newA ty alt id x.cells J).1/\J'=(newA ty alt id x.cells J).2:=by rw[Option.some.inj h];exact⟨rfl,rfl⟩
  obtain⟨h1,h2⟩:=dB hx hc.1
  refine⟨_,_,?_,newA_sound hR hid ho hC (fun y hy=>by have:=hc.1;simp[sH] at this;exact this y hy) (by simpa using hc.2) h1 h2⟩
  simp[Instr.box,newVar,newRow]
 .cases h

theorem zero_rel {P T C ow}{w:World}(hT:TOk P T){t:TypeId}{ti:TI}(ht:T t=some ti):
  ∃z,(zeroValue t).run P w=.ok z w/\ti.zero.length=z.cells.size/\(∀(i:Nat) (x:AV) (u:Value),ti.zero[i]? =some x->z.cells[i]? =some u->VRel C ow w x u)/\(∀x∈ti.zero,x.one=true):=by
 obtain⟨x,hx,_,_,z,hz,hc⟩:=hT.info ht
 have hg:=(hT t ti ht).2.1
 refine⟨z,by simp[zeroValue,typeInfo,hx,hz],?_,fun i y u hy hu=>?_,fun y hy=>?_⟩
 .have:=congrArg List.length hc
  simpa using this.symm
 .have h1:z.cells.toList[i]? =some u:=by simpa using hu
  rw[hc,List.getElem?_map,hy] at h1
  simp at h1
  rw[<- h1]
  exact gr_rel y (List.all_eq_true.1 hg y (List.mem_of_getElem? hy))
 .have:=List.all_eq_true.1 hg y hy
  cases y<;>simp_all [AV.gr,AV.one]

def TI.wz (ti:TI):List AV:=ti.zero.map AV.weak1
theorem fE {P T C ow}{w:World}(hT:TOk P T){t:TypeId}{ti:TI}(ht:T t=some ti):
  ∃z,(zeroValue t).run P w=.ok z w/\ti.wz.length=z.cells.size/\(∀(i:Nat) (x:AV) (u:Value),ti.wz[i]? =some x->z.cells[i]? =some u->VRel C ow w x u)/\(∀x∈ti.wz,x.one=true):=by
 obtain⟨z,h1,h2,h3,h4⟩:=zero_rel (P:=P) (C:=C) (ow:=ow) (w:=w) hT ht
 refine⟨z,h1,by rw[TI.wz,List.length_map];exact h2,fun i y u hy hu=>?_,fun y hy=>?_⟩
 .rw[TI.wz,List.getElem?_map] at hy
  cases h':ti.zero[i]? with
  |none=>simp[h'] at hy
  |some q=>simp[h'] at hy;subst hy;exact(h3 i q u h' hu).weak1
 .obtain⟨q,hq,rfl⟩:=List.mem_map.1 hy
  exact AV.weak1_one (h4 q hq)
theorem TI.wz_len (ti:TI):ti.wz.length=ti.zero.length:=by simp[TI.wz]

theorem allocA_sound {P T G C J w ty alt id v J'}(hT:TOk P T)(hR:R0 G C J w)(hid:id<J.next)(ho:J.objs id=none)(hC:C id=none)
  (h:mX T ty alt id J=some (v,J')):∃cv w',(Instr.alloc ty true (.tuple #[])).run P w=.ok cv w'/\HPost0 G id C J w v J' cv w':=by
 unfold mX at h
 split at h
 .rename_i ti ht
  split at h
  .rename_i hne
   obtain⟨rfl,rfl⟩:v=(newA ty alt id ti.zero J).1/\J'=(newA ty alt id ti.zero J).2:=by rw[Option.some.inj h];exact⟨rfl,rfl⟩
   obtain⟨z,h1,h2,h3,h4⟩:=zero_rel (P:=P) (C:=C) (ow:=own0 C J) (w:=w) hT ht
   refine⟨_,_,?_,newA_sound hR hid ho hC h4 (by simpa using hne) h2 h3⟩
   simp[Instr.alloc,h1,newVar,newRow]
  .cases h
 .cases h

end Go.Abs

/- Stores, slice literals, cuts and append. -/
set_option linter.unusedSimpArgs false
set_option linter.unusedVariables false
namespace Go.Abs
open Go Go.RowKit

theorem xP {O:Type}(l vs:List O)(o:Nat)(h:o+vs.length<=l.length)(j:Nat):
  (l.take o++vs++l.drop (o+vs.length))[j]? =if o<=j/\j<o+vs.length then vs[j-o]? else l[j]? :=by
 have hmin:min o l.length=o:=by omega
 by_cases h1:j<o
 .rw[if_neg (by omega),List.append_assoc,List.getElem?_append_left (by simp;omega),List.getElem?_take,if_pos h1]
 .by_cases h2:j<o+vs.length
  .rw[if_pos ⟨by omega,h2⟩,List.append_assoc,List.getElem?_append_right (by simp;omega),List.length_take,hmin,List.getElem?_append_left (by omega)]
  .rw[if_neg (by omega),List.getElem?_append_right (by simp;omega),List.length_append,List.length_take,hmin,List.getElem?_drop]
   congr 1
   omega

def xU (row:List AV)(i:Nat)(cs:List AV):List AV:=row.take i++cs++row.drop (i+cs.length)

theorem hH (row:List AV)(i:Nat)(cs:List AV)(h:i+cs.length<=row.length):(xU row i cs).length=row.length:=by
 simp[xU];omega

theorem idx_lt {r r' sz i j:Nat}(h:r<r')(hi:i<sz):r*sz+i<r'*sz+j:=by
 have:(r+1)*sz<=r'*sz:=Nat.mul_le_mul_right _ h
 rw[Nat.add_mul] at this
 omega

theorem pN {C ow}{w:World}{x:AV}{v:Value}(h:VRel C ow w x v)(h1:x.one=true):v.oneCell'=true:=by
 cases h<;>first|rfl|assumption|(simp[AV.one] at h1)

theorem Rows.store {C ow}{w:World}{sz:Nat}{rows:List (List AV)}{arr:Array Value}(h:Rows C ow w sz rows arr)(hlen:rows.length*sz<=arr.size){r:Nat}{row:List AV}(hr:rows[r]? =some row)
  {i:Nat} {cs:List AV} {vs:List Value} (hl:cs.length=vs.length) (hv:∀(j:Nat) (x:AV) (u:Value),cs[j]? =some x->vs[j]? =some u->VRel C ow w x u) (h1:∀x∈cs,x.one=true)
  (hi:i+cs.length<=row.length):
  Rows C ow w sz (rows.set r (xU row i cs)) (arr.toList.take (r*sz+i)++vs++arr.toList.drop (r*sz+i+vs.length)).toArray/\r*sz+i+vs.length<=arr.size:=by
 have hrl:r<rows.length:=(List.getElem?_eq_some_iff.1 hr).1
 have hrow:=(h r row hr).1
 have hle:(r+1)*sz<=rows.length*sz:=Nat.mul_le_mul_right _ hrl
 rw[Nat.add_mul] at hle
 have hfit:r*sz+i+vs.length<=arr.size:=by omega
 refine⟨fun r' e he=>?_,hfit⟩
 have get:∀k,(arr.toList.take (r*sz+i)++vs++arr.toList.drop (r*sz+i+vs.length)).toArray[k]? =if r*sz+i<=k/\k<r*sz+i+vs.length then vs[k-(r*sz+i)]? else arr[k]? :=by
  intro k
  have:=xP arr.toList vs (r*sz+i) (by simpa using hfit) k
  simpa using this
 rw[List.getElem?_set] at he
 split at he
 .rename_i e1
  subst e1
  cases he
  refine⟨by rw[hH _ _ _ hi];exact hrow,fun j x hx=>?_⟩
  rw[xU,xP row cs i hi] at hx
  rw[get]
  split at hx
  .rename_i hj
   rw[if_pos (by omega),show r*sz+j-(r*sz+i)=j-i by omega]
   have hjl:j-i<vs.length:=by omega
   refine⟨h1 x (List.mem_of_getElem? hx),vs[j-i],by simp[hjl],hv (j-i) x _ hx (by simp[hjl])⟩
  .rename_i hj
   rw[if_neg (by omega)]
   exact(h r row hr).2 j x hx
 .rename_i hne
  obtain⟨h2,h3⟩:=h r' e he
  refine⟨h2,fun j x hx=>?_⟩
  have hj:j<sz:=by rw[<- h2];exact(List.getElem?_eq_some_iff.1 hx).1
  rw[get,if_neg]
  .exact h3 j x hx
  .rcases Nat.lt_or_gt_of_ne hne with hlt|hgt
   .have:=idx_lt (j:=j) hlt (show i+cs.length-1<sz+1 by omega)
    have h4:(r+1)*sz<=r'*sz:=Nat.mul_le_mul_right _ hlt
    rw[Nat.add_mul] at h4
    omega
   .have:=idx_lt (j:=i) hgt hj
    omega

def qO (T:Types)(t:TypeId)(x v:AV)(J:AHeap):Option AHeap:=
 match T t,x with
 | some ti,.ptr o r i=>(J.objs o).bind fun ob=>(ob.rows[r]?).bind fun row=>
   if v.cells.length=ti.sz/\sH v.cells=true/\i+v.cells.length<=row.length then some (J.put o ⟨ob.ty,ob.sz,ob.rows.set r (xU row i v.cells)⟩) else none
 |_,_=>none

theorem storeA_sound {P T G C J w t x v J' cx cv}(N:Nat->Prop)(hT:TOk P T)(hR:R0 G C J w)(hx:VRel C (own0 C J) w x cx)(hv:VRel C (own0 C J) w v cv)(h:qO T t x v J=some J'):
  ∃w',(Instr.storeAt t cx cv).run P w=.ok () w'/\R0 G C J' w'/\Ext0 N C J w C J' w':=by
 unfold qO at h
 split at h
 .rename_i ti o r i ht
  cases ho:J.objs o with
  |none=>simp[ho] at h
  |some ob=>
  cases hr:ob.rows[r]? with
  |none=>simp[ho,hr] at h
  |some row=>
  simp only[ho,hr,Option.bind_some] at h
  split at h
  .rename_i hc
   cases h
   obtain⟨h1,h2⟩:=dB hv hc.2.1
   cases hx with
   |ptr hC=>
    rename_i b sz
    have hob:=hR.obj o ob ho
    rw[hC] at hob
    have h0:0<sz:=by
     rcases Nat.eq_zero_or_pos sz with e|e
     .obtain⟨b',sz',e1,h2',_⟩:=hob
      cases e1
      rw[h2' e] at hr
      simp at hr
     .exact e
    obtain⟨rfl,h0,arr,hw,hle,hrows⟩:=hob.get h0
    have hone:∀y∈v.cells,y.one=true:=by have:=hc.2.1;simpa [sH] using this
    obtain⟨h3,h4⟩:=Rows.store (vs:=cv.cells.toList) hrows hle hr (by simpa using h1) (fun j y u hy hu=>h2 j y u hy (by simpa using hu)) hone hc.2.2
    have hone':∀u∈cv.cells.toList,u.oneCell'=true:=by
     intro u hu
     obtain⟨j,hj,rfl⟩:=List.getElem_of_mem hu
     have hj':j<v.cells.length:=by rw[h1];simpa using hj
     have e:v.cells[j]? =some v.cells[j]:=by simp[hj']
     exact pN (h2 j _ _ e (by simp[show j<cv.cells.size by simpa using hj])) (hone _ (List.getElem_mem hj'))
    have hst:=run_storeCells_at P b (r*ob.sz+i) ob.ty cv.cells.toList 0 arr w hw (by simpa using h4) hone'
    simp only[Nat.add_zero] at hst
    have hsz:cv.cells.size=ti.sz:=by rw[<- h1];exact hc.1
    have hm:=hR.write (w':=w.setRow b (arr.toList.take (r*ob.sz+i)++cv.cells.toList++arr.toList.drop (r*ob.sz+i+cv.cells.toList.length)).toArray) (arr:=_) (rows:=ob.rows.set r (xU row i v.cells))
     N ho hC h0 rfl rfl rfl (by simp[World.setRow]) (fun k hk=>setRow_other w b k _ hk) (setRow_heap w b arr _ ob.ty _ hw)
     (fun old T' fz hold=>by rw[hw] at hold;cases hold;simp;simp at h4;omega) (by simp;simp at h4;omega) h3
    refine⟨_,?_,hm.1,hm.2⟩
    simp only[Instr.storeAt,Instr.sureAddr,Sem.run_bind,Sem.run_pure,Result.andThen_ok,storeVar,hT.size ht,hsz,ne_eq,not_true,if_false,hst]
  .cases h
 .cases h

theorem ORel.monoW {N C J w C' J' x ob}(h:ORel C (own0 C J) w x ob)(he:Ext0 N C J w C' J' w):ORel C' (own0 C' J') w x ob:=by
 obtain⟨b,sz,h1,h2,h3⟩:=h
 refine⟨b,sz,h1,h2,fun h0=>?_⟩
 obtain⟨c1,c2,arr,c3,c4,c5⟩:=h3 h0
 exact⟨c1,c2,arr,c3,c4,Rows.mono he c5⟩

theorem R0.rename {G C J w o id ob}(hR:R0 G C J w)(ho:J.objs o=some ob)(hid:id<J.next)(hn:J.objs id=none)(hC:C id=none):
  R0 G (fun k=>if k=id then C o else C k) ((J.kill o).put id ob) w/\Ext0 (·≠id) C J w (fun k=>if k=id then C o else C k) ((J.kill o).put id ob) w:=by
 have hne:o≠id:=by rintro rfl;rw[hn] at ho;cases ho
 have hob:∀k x,((J.kill o).put id ob).objs k=some x->(k=id/\x=ob)\/(k≠id/\k≠o/\J.objs k=some x):=by
  intro k x h
  simp only[AHeap.put,AHeap.kill] at h
  split at h
  .left;rename_i e;exact⟨e,(Option.some.inj h).symm⟩
  .split at h
   .cases h
   .right;exact⟨by assumption,by assumption,h⟩
 have he:Ext0 (·≠id) C J w (fun k=>if k=id then C o else C k) ((J.kill o).put id ob) w:=by
  refine⟨fun k hk=>⟨by have hk':k≠id:=hk;simp[hk'],fun h=>?_⟩,fun k x hx=>?_,Fr.refl _ _,fun b hb=>?_,Nat.le_refl _⟩
  .simp only[AHeap.put,AHeap.kill]
   rw[if_neg hk]
   split<;>simp_all
  .have:k≠id:=by rintro rfl;rw[hC] at hx;cases hx
   simp[this,hx]
  .obtain⟨k,x,s,h1,h2,h6⟩:=hb
   left
   rcases hob k x h1 with⟨rfl,rfl⟩|⟨h3,h4,h5⟩
   .exact⟨o,x,s,ho,by simpa using h2,h6⟩
   .exact⟨k,x,s,h5,by simpa [h3] using h2,h6⟩
 refine⟨hR.next he (fun k hk=>?_) (fun k k' b s s' x x' h1 h2 h3 h4 p1 p2=>?_) (fun k x h=>?_),he⟩
 .have hk':J.next<=k:=hk
  have:k≠id:=by omega
  have h:=hR.ids k hk'
  refine⟨?_,by simp[this,h.2]⟩
  simp only[AHeap.put,AHeap.kill]
  rw[if_neg this]
  split<;>simp_all
 .rcases hob k x h1 with⟨rfl,rfl⟩|⟨a1,a2,a3⟩<;>rcases hob k' x' h2 with⟨rfl,rfl⟩|⟨b1,b2,b3⟩
  .rfl
  .exact absurd (hR.inj o k' b s s' _ _ ho b3 (by simpa using h3) (by simpa [b1] using h4) p1 p2).symm b2
  .exact absurd (hR.inj k o b s s' _ _ a3 ho (by simpa [a1] using h3) (by simpa using h4) p1 p2) a2
  .exact hR.inj k k' b s s' _ _ a3 b3 (by simpa [a1] using h3) (by simpa [b1] using h4) p1 p2
 .rcases hob k x h with⟨rfl,rfl⟩|⟨a1,a2,a3⟩
  .left
   have:=hR.obj o x ho
   simp only[if_true]
   exact this.monoW he
  .right
   exact⟨a3,by simp[a1],fun _ _ _ _=>rfl⟩

end Go.Abs
