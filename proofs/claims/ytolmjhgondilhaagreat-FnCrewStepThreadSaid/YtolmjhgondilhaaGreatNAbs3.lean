/- The operations that only read: the machine gives what 'stepP' gives. -/
import Derived.Test.YtolmjhgondilhaaGreatNAbs1
import Derived.Laws.Pointers
import Derived.Laws.StructEq
set_option linter.unusedSimpArgs false
set_option linter.unusedVariables false
namespace Go.Abs
open Go Go.RowKit

theorem load_row {P T C ow}{w:World}(hT:TOk P T){t:TypeId}{ti:TI}(ht:T t=some ti){row:List AV}{b base i:Nat}
    (hc:∀(j:Nat) (x:AV),row[j]? =some x->∃v,w.cell? ⟨b,base+j,none⟩=some v/\VRel C ow w x v) {v:AV} (hp:part ti row i=some v):
    ∃cv,(loadVar t ⟨b,base+i,none⟩).run P w=.ok cv w/\VRel C ow w v cv:=by
  unfold loadVar part at*
  simp only[Sem.run_bind,hT.isAgg ht,Result.andThen_ok]
  cases hk:ti.k.agg with
  | true=>
    simp only[hk,if_true] at hp ⊢
    split at hp
    . rename_i hle
      cases hp
      have hcell:∀j,j<ti.sz->w.cell? ((⟨b,base+i,none⟩:Addr).add j)=some ((w.cell? ⟨b,base+(i+j),none⟩).getD undef):=by
        intro j hj
        have hj':i+j<row.length:=by omega
        obtain⟨v,hv,_⟩:=hc (i+j) row[i+j] (by simp[hj'])
        rw[Addr.add_lit,Nat.add_assoc,hv]
        rfl
      simp only[Sem.run_bind,hT.size ht,Result.andThen_ok,run_loadCells w _ ti.sz _ hcell,Sem.run_pure]
      refine⟨_,rfl,.agg (by simp;omega) fun j x u hx hu=>?_⟩
      simp only[List.getElem?_take,List.getElem?_drop] at hx
      split at hx
      . rename_i hj
        obtain⟨v,hv,hr⟩:=hc (i+j) x hx
        simp[hj,hv] at hu
        rw[<- hu]
        exact hr
      . cases hx
    . cases hp
  | false=>
    simp only[hk,if_false,Bool.false_eq_true] at hp ⊢
    obtain⟨u,hu,hr⟩:=hc i v hp
    simp only[run_load,hu]
    exact⟨_,rfl,hr⟩

theorem kY {w:World}{b i:Nat}{arr:Array Value}{T:TypeId}{fz:Nat×Nat}(h:w.heap[b]? =some (.cells arr T fz)):w.cell? ⟨b,i,none⟩=arr[i]? :=by
  simp[World.cell?,h]

theorem R0.row {G C J w}(hR:R0 G C J w){o b sz r:Nat}{ob:AObj}{row:List AV}(ho:J.objs o=some ob)(hC:C o=some (b,sz))(hr:ob.rows[r]? =some row):
    ∀(j:Nat) (x:AV),row[j]? =some x->∃v,w.cell? ⟨b,r*sz+j,none⟩=some v/\VRel C (own0 C J) w x v:=by
  have h:=hR.obj o ob ho
  rw[hC] at h
  have h0:0<sz:=by
    rcases Nat.eq_zero_or_pos sz with e|e
    . obtain⟨b',sz',e1,h2,_⟩:=h
      cases e1
      rw[h2 e] at hr
      simp at hr
    . exact e
  obtain⟨rfl,h0,arr,hw,hle,hh⟩:=h.get h0
  intro j x hx
  obtain⟨_,h2⟩:=hh r row hr
  obtain⟨_,v,hv,hrel⟩:=h2 j x hx
  exact⟨v,by rw[kY hw];exact hv,hrel⟩

theorem loadA_sound {P T G C J w}(hT:TOk P T)(hR:R0 G C J w){t:TypeId}{x v:AV}{cx:Value}(hx:VRel C (own0 C J) w x cx)(h:loadA T J t x=some v):
    ∃cv,(Instr.loadAt t cx).run P w=.ok cv w/\VRel C (own0 C J) w v cv:=by
  unfold loadA at h
  split at h
  . rename_i ti o r i ht
    cases hx with
    | ptr hC=>
      cases ho:J.objs o with
      |none=>simp[ho] at h
      | some ob=>
        cases hrow:ob.rows[r]? with
        |none=>simp[ho,hrow] at h
        | some row=>
          simp only[ho,hrow,Option.bind_some] at h
          cases hp:part ti row i with
          |none=>simp[hp] at h
          |some v'=>
          simp only[hp,Option.bind_some] at h
          split at h
          case isFalse=>cases h
          cases h
          have:=load_row (P:=P) hT ht (hR.row ho hC hrow) hp
          simpa [Instr.loadAt,Instr.sureAddr] using this
  . rename_i ti cs i ht
    cases hx with
    | fptr vs hone hb hno hcell hv=>
      have:=load_row (P:=P) (base:=_) hT ht (fun j x hx=>⟨vs j,hcell j x hx,hv j x hx⟩) h
      simpa [Instr.loadAt,Instr.sureAddr] using this
  . cases h

theorem ibin_sound {P C ow}{w:World}{op:BinOp}{k k':IntKind}{t:TypeId}{a b:Int}{v:AV}(hk:k=k'\/op=.shl\/op=.shr)(h:ibin op k a b=some v):
    ∃cv,(binOp op t (.int k a) (.int k' b)).run P w=.ok cv w/\VRel C ow w v cv:=by
  by_cases hs:op=.shl\/op=.shr
  . rcases hs with rfl|rfl
    . simp only[ibin] at h
      split at h
      . cases h
      . rename_i h0
        cases h
        refine⟨_,?_,.int⟩
        simp[binOp,Op.shift,h0]
    . simp only[ibin] at h
      split at h
      . cases h
      . rename_i h0
        cases h
        refine⟨_,?_,.int⟩
        simp[binOp,Op.shift,h0]
  . have hk':k=k':=by rcases hk with h1|h1|h1<;>simp_all
    subst hk'
    cases op<;>simp only[ibin] at h<;>first
      |exact absurd (Or.inl rfl) hs
      |exact absurd (Or.inr rfl) hs
      |(cases h;refine⟨_,?_,by constructor⟩;simp[binOp,Op.intArith,Op.intCmp,Op.intBits];done)
      | (split at h
         . cases h
         . rename_i h0
           cases h
           refine⟨_,?_,.int⟩
           simp[binOp,Op.intDiv,h0])

theorem run_bool_eql {P:Program}(w:World)(t:TypeId)(a b:Bool)(h:P.underlying t=some .bool):(binOp .eql t (.bool a) (.bool b)).run P w=.ok (.bool (a==b)) w:=by
  show(do pure (Value.bool (<- Op.equalIn (9999+1) t (.bool a) (.bool b))):Sem Value).run P w=_
  simp only[Sem.run_bind,run_equalIn_bool' w 9999 t a b h,Result.andThen_ok,Sem.run_pure]

theorem run_bool_neq {P:Program}(w:World)(t:TypeId)(a b:Bool)(h:P.underlying t=some .bool):(binOp .neq t (.bool a) (.bool b)).run P w=.ok (.bool (!(a==b))) w:=by
  show(do pure (Value.bool (!(<- Op.equalIn (9999+1) t (.bool a) (.bool b)))):Sem Value).run P w=_
  simp only[Sem.run_bind,run_equalIn_bool' w 9999 t a b h,Result.andThen_ok,Sem.run_pure]

theorem eqFields_sound {P T C ow}{w:World}(hT:TOk P T){xs ys:List AV}{vs us:Array Value}(hl:xs.length=vs.size)(hl':ys.length=us.size)
    (hv:∀(i:Nat) (x:AV) (u:Value),xs[i]? =some x->vs[i]? =some u->VRel C ow w x u) (hu:∀(i:Nat) (x:AV) (u:Value),ys[i]? =some x->us[i]? =some u->VRel C ow w x u):
    ∀(fs:List Field) (b:Bool),(fs.all fun f=>match(T f.type).map TI.k with|some (.int _)=>true|_=>false)=true->(fs.any fun f=>f.name== "_")=false->
      qL (fs.map fun f=>(f.offset,f.type)) xs ys=some b->(Op.eqFields 9999 vs us fs).run P w=.ok b w:=by
  intro fs
  induction fs with
  |nil=>intro b _ _ h;simp[qL] at h;subst h;simp[Op.eqFields]
  | cons f fs ih=>
    intro b h1 h2 h
    simp only[List.all_cons,Bool.and_eq_true] at h1
    simp only[List.any_cons,Bool.or_eq_false_iff] at h2
    simp only[List.map_cons,qL] at h
    split at h
    case h_2=>cases h
    rename_i k a k' b' hx hy
    split at h
    case isFalse=>cases h
    rename_i hk
    subst hk
    cases hr:qL (fs.map fun f=>(f.offset,f.type)) xs ys with
    |none=>simp[hr] at h
    |some r=>
    simp[hr] at h
    subst h
    cases ht:T f.type with
    |none=>simp[ht] at h1
    |some ti=>
    have hki:∃ki,ti.k=.int ki:=by
      have:=h1.1
      simp only[ht,Option.map_some] at this
      split at this
      . rename_i ki hki;simp at hki;exact⟨ki,hki⟩
      . cases this
    obtain⟨ki,hki⟩:=hki
    obtain⟨d,hd,hdk⟩:=hT.under (t:=f.type) (k:=.int ki) (by simp[Types.kind,ht,hki])
    cases d<;>simp[tkOf] at hdk
    subst hdk
    have hpart:∀(cs:List AV) (ws:Array Value),cs.length=ws.size->(∀(i:Nat) (x:AV) (u:Value),cs[i]? =some x->ws[i]? =some u->VRel C ow w x u)->∀n,cs[f.offset]? =some (.int k n)->
        (Go.part f.type ws f.offset).run P w=.ok (.int k n) w:=by
      intro cs ws hcl hcv n hn
      obtain⟨cv,g1,g2⟩:=dR (P:=P) hT ht hcl hcv (i:=f.offset) (v:=.int k n) (by unfold Abs.part;rw[hki];simpa [TK.agg] using hn) w
      cases g2
      exact g1
    have hname:f.name≠ "_" := by simpa using h2.1
    have heq:(Op.equalIn 9999 f.type (.int k a) (.int k b')).run P w=.ok (a==b') w:=run_equalIn_int w 9998 f.type k _ a b' hd
    simp only[Op.eqFields,hname,ne_eq,not_false_eq_true,if_true,Sem.run_bind,hpart xs vs hl hv a hx,hpart ys us hl' hu b' hy,Result.andThen_ok,heq]
    by_cases e:a=b'
    . subst e
      simp only[beq_self_eq_true,Bool.not_true,Bool.false_eq_true,if_false,Bool.true_and]
      exact ih r h1.2 h2.2 hr
    . have e':(a==b')=false:=by simpa using e
      simp[e']
theorem eqAgg_sound {P T C ow}{w:World}(hT:TOk P T){t:TypeId}{xs ys:List AV}{vs us:Array Value}(hl:xs.length=vs.size)(hl':ys.length=us.size)
    (hv:∀(i:Nat) (x:AV) (u:Value),xs[i]? =some x->vs[i]? =some u->VRel C ow w x u) (hu:∀(i:Nat) (x:AV) (u:Value),ys[i]? =some x->us[i]? =some u->VRel C ow w x u) {b:Bool}
    (h:eqAgg T t xs ys=some b):P.eqGuardType P.depth t=false/\(Op.equalIn 10000 t (.agg vs) (.agg us)).run P w=.ok b w:=by
  unfold eqAgg at h
  cases ht:T t with
  |none=>simp[ht] at h
  |some ti=>
  simp only[ht] at h
  split at h
  case isFalse=>cases h
  rename_i hfl
  split at h
  case h_2=>cases h
  rename_i fs hk
  have hb:=(hT t ti ht).2.2.2.2
  rw[hfl,Bool.true_and] at hb
  simp only[eqBad,Bool.or_eq_false_iff] at hb
  obtain⟨⟨b1,b2⟩,b3⟩:=hb
  obtain⟨d,hd,hdk⟩:=hT.under (t:=t) (k:=.struct fs) (by simp[Types.kind,ht,hk])
  cases d<;>simp[tkOf] at hdk
  rename_i fields
  have hf:P.fieldsOf t=fields:=by simp[Program.fieldsOf,hd]
  refine⟨b2,?_⟩
  rw[show(10000:Nat)=9999+1 from rfl,run_equalIn_agg w 9999 t vs us (by rw[hf];exact hd) b1,hf]
  refine eqFields_sound hT hl hl' hv hu fields.toList b ?_ (by rw[<- hf];exact b3) (by rw[hdk];exact h)
  rw[hk] at hfl
  simp only[flatT,<- hdk,List.all_map] at hfl
  exact hfl

theorem bin_sound {P T C ow}{w:World}(hT:TOk P T){op:BinOp}{t:TypeId}{x y v:AV}{cx cy:Value}{ox oy:Operand}(hx:VRel C ow w x cx)(hy:VRel C ow w y cy)
    (h:bin T op t x y=some v):∃cv,(do eqGuard op t ox oy cx cy;binOp op t cx cy).run P w=.ok cv w/\VRel C ow w v cv:=by
  unfold bin at h
  split at h
  . rename_i k a k' b
    cases hx;cases hy
    split at h
    . rename_i hk
      simp only[Sem.run_bind,eqGuard_at_int,Sem.run_pure,Result.andThen_ok]
      exact ibin_sound hk h
    . cases h
  . rename_i a b
    cases hx;cases hy
    simp only[Sem.run_bind,eqGuard_at_bool,Sem.run_pure,Result.andThen_ok]
    split at h
    . rename_i hk
      obtain⟨d,hd,hdk⟩:=hT.under hk
      cases h
      cases d<;>simp[tkOf] at hdk
      exact⟨_,run_bool_eql w t a b hd,.bool⟩
    . rename_i hk
      obtain⟨d,hd,hdk⟩:=hT.under hk
      cases h
      cases d<;>simp[tkOf] at hdk
      exact⟨_,run_bool_neq w t a b hd,.bool⟩
    . cases h
  . rename_i xs ys
    cases hx with
    |@agg _ vs hl hv=>
    cases hy with
    |@agg _ us hl' hu=>
    split at h
    . cases he:eqAgg T t xs ys with
      |none=>simp[he] at h
      | some b=>
        simp[he] at h
        subst h
        obtain⟨g1,g2⟩:=eqAgg_sound (P:=P) hT hl hl' hv hu he
        refine⟨.bool b,?_,.bool⟩
        simp only[Sem.run_bind,run_eqGuard_agg w _ t ox oy vs us g1,Result.andThen_ok,run_eql_struct,g2]
    . cases he:eqAgg T t xs ys with
      |none=>simp[he] at h
      | some b=>
        simp[he] at h
        subst h
        obtain⟨g1,g2⟩:=eqAgg_sound (P:=P) hT hl hl' hv hu he
        refine⟨.bool !b,?_,.bool⟩
        simp only[Sem.run_bind,run_eqGuard_agg w _ t ox oy vs us g1,Result.andThen_ok,run_neq_struct,g2]
    . cases h
  . cases hy
    have key:∀b,ptrNil x=some b->∃p,cx=.pointer p/\p.isNone=b:=by
      intro b hb
      cases hx<;>simp[ptrNil] at hb<;>exact⟨_,rfl,by simpa using hb⟩
    have hg:∀p,(eqGuard op t ox oy (.pointer p) (.pointer none)).run P w=.ok () w:=by
      intro p
      unfold eqGuard
      split<;>rfl
    split at h
    . rename_i hk
      obtain⟨d,hd,hdk⟩:=hT.under hk
      cases d<;>simp[tkOf] at hdk
      have hpt:P.underlying t=some (.pointer (P.pointee t)):=by simp[Program.pointee,hd]
      cases hn:ptrNil x with
      |none=>simp[hn] at h
      | some b=>
        simp[hn] at h;subst h
        obtain⟨p,rfl,rfl⟩:=key b hn
        refine⟨_,?_,.bool⟩
        simp only[Sem.run_bind,hg,Result.andThen_ok,run_eql_pointer_nil w t p hpt]
    . rename_i hk
      obtain⟨d,hd,hdk⟩:=hT.under hk
      cases d<;>simp[tkOf] at hdk
      have hpt:P.underlying t=some (.pointer (P.pointee t)):=by simp[Program.pointee,hd]
      cases hn:ptrNil x with
      |none=>simp[hn] at h
      | some b=>
        simp[hn] at h;subst h
        obtain⟨p,rfl,rfl⟩:=key b hn
        refine⟨_,?_,.bool⟩
        simp only[Sem.run_bind,hg,Result.andThen_ok,run_neq_pointer_nil w t p hpt]
    . cases h
  . cases h

theorem nilCheckA_sound {C ow}{w:World}{x v:AV}{cx:Value}(hx:VRel C ow w x cx)(h:pO x=some v):∃a,cx=.pointer (some a)/\VRel C ow w v cx:=by
  unfold pO at h
  split at h
  . cases h;cases hx;rename_i h';exact⟨_,rfl,.ptr h'⟩
  . cases h
    cases hx with
    |fptr vs hone hb hno hcell hv=>exact⟨_,rfl,.fptr vs hone hb hno hcell hv⟩
  . cases h

theorem unA_sound {P C ow}{w:World}{op:UnOp}{x v:AV}{cx:Value}(hx:VRel C ow w x cx)(h:unA op x=some v):
    ∃cv,(Op.unary op cx).run P w=.ok cv w/\VRel C ow w v cv:=by
  unfold unA at h
  split at h
  . cases h;cases hx;exact⟨_,rfl,.bool⟩
  . cases h;cases hx;exact⟨_,rfl,.int⟩
  . cases h

theorem convA_sound {P T C ow}{w:World}(hT:TOk P T){src dst:TypeId}{x v:AV}{cx:Value}(hx:VRel C ow w x cx)(h:convA T src dst x=some v):
    ∃cv,(convert src dst cx).run P w=.ok cv w/\VRel C ow w v cv:=by
  unfold convA at h
  split at h
  . rename_i s d k n hs hd
    obtain⟨ds,hus,_⟩:=hT.under hs
    obtain⟨dd,hud,hk⟩:=hT.under hd
    cases h;cases hx
    cases dd<;>simp[tkOf] at hk
    subst hk
    refine⟨_,?_,.int⟩
    simp[convert,run_underlying hus,run_underlying hud,Conv.intToInt]
  . cases h

theorem nV {P T}(hT:TOk P T){s:TypeId}{f off:Nat}{ti:TI}(h:fY T s f=some (off,ti)):
    ∃fs fd,P.underlying s=some (.struct fs)/\fs[f]? =some fd/\fd.offset=off/\T fd.type=some ti/\ti.sz≠0:=by
  unfold fY at h
  split at h
  . rename_i fs hk
    obtain⟨d,hd,hdk⟩:=hT.under hk
    cases d<;>simp[tkOf] at hdk
    rename_i fields
    subst hdk
    cases hf:fields[f]? with
    |none=>simp[hf] at h
    | some fd=>
      cases hti:T fd.type with
      |none=>simp[hf,hti] at h
      | some ti'=>
        simp[hf,hti] at h
        obtain⟨h2,rfl,rfl⟩:=h
        exact⟨fields,fd,hd,hf,rfl,hti,h2⟩
  . cases h

theorem fieldAddrA_sound {P T C ow}{w:World}(hT:TOk P T){s:TypeId}{f:Nat}{x v:AV}{cx:Value}(hx:VRel C ow w x cx)(h:tE T s x f=some v):
    ∃cv,(Instr.fieldAt s cx f).run P w=.ok cv w/\VRel C ow w v cv:=by
  unfold tE at h
  split at h
  . rename_i off ti o r i hf
    obtain⟨fs,fd,h1,h2,h3,h4,h5⟩:=nV hT hf
    cases h
    cases hx with
    | ptr hC=>
      refine⟨_,?_,.ptr hC⟩
      subst h3
      simp[Instr.fieldAt,run_underlying h1,h2,Instr.sureAddr,fieldPlace,hT.size h4,h5,Addr.add_lit,Nat.add_assoc]
  . rename_i off ti cs i hf
    obtain⟨fs,fd,h1,h2,h3,h4,h5⟩:=nV hT hf
    cases h
    cases hx with
    | fptr vs hone hb hno hcell hv=>
      refine⟨_,?_,.fptr vs hone hb hno hcell hv⟩
      subst h3
      simp[Instr.fieldAt,run_underlying h1,h2,Instr.sureAddr,fieldPlace,hT.size h4,h5,Addr.add_lit,Nat.add_assoc]
  . cases h

theorem fieldA_sound {P T C ow}{w:World}(hT:TOk P T){s:TypeId}{f:Nat}{x v:AV}{cx:Value}(hx:VRel C ow w x cx)(h:fieldA T s x f=some v):
    ∃cv,(Instr.field s cx f).run P w=.ok cv w/\VRel C ow w v cv:=by
  unfold fieldA at h
  split at h
  . rename_i off ti cs hf
    obtain⟨fs,fd,h1,h2,h3,h4,h5⟩:=nV hT hf
    cases hx with
    | agg hl hv=>
      obtain⟨cv,hr,hrel⟩:=dR (P:=P) hT h4 hl hv h w
      subst h3
      exact⟨cv,by simp[Instr.field,run_underlying h1,h2,asAgg,hr],hrel⟩
  . cases h

theorem sG (k:IntKind)(n:Int):asIntOf (.int k n)=pure (k,n):=rfl

theorem indexAddrA_sound {P T G C J}{w:World}(hT:TOk P T)(hR:R0 G C J w){t:TypeId}{x ix v:AV}{cx ci:Value}(hx:VRel C (own0 C J) w x cx)(hi:VRel C (own0 C J) w ix ci)
    (h:zQ T J t x ix=some v):∃cv,(Instr.indexAt t cx ci).run P w=.ok cv w/\VRel C (own0 C J) w v cv:=by
  unfold zQ at h
  split at h
  . rename_i e o r n k i hk
    obtain⟨d,hd,hdk⟩:=hT.under hk
    cases d<;>simp[tkOf] at hdk
    subst hdk
    rename_i e
    cases hi
    cases ho:J.objs o with
    |none=>simp[ho] at h
    |some ob=>
    cases he:T e with
    |none=>simp[ho,he] at h
    |some ti=>
    simp only[ho,he,Option.bind_some] at h
    split at h
    . rename_i hb
      cases h
      cases hx with
      | sl hC hsz hn hc hw hle=>
        rename_i b sz cap T' arr
        have hob:=hR.obj o ob ho
        rw[hC] at hob
        obtain⟨rfl,_⟩:=hob.get hsz
        refine⟨.pointer (some ⟨b,(r+i.toNat)*ob.sz+0,none⟩),?_,.ptr hC⟩
        simp[Instr.indexAt,sG,run_underlying hd,hb.2.1,hb.2.2,hT.size he,Addr.add_lit,hb.1,Nat.add_mul]
      |sl0 _=>omega
      |sl1 _=>omega
    . cases h
  . rename_i e es k i hk
    obtain⟨d,hd,hdk⟩:=hT.under hk
    cases d<;>simp[tkOf] at hdk
    subst hdk
    rename_i e
    cases hi
    cases he:T e with
    |none=>simp[he] at h
    |some ti=>
    cases hrow:es[i.toNat]? with
    |none=>simp[he,hrow] at h
    |some row=>
    simp only[he,hrow,Option.bind_some] at h
    split at h
    . rename_i hb
      cases h
      have hlt:i.toNat<es.length:=(List.getElem?_eq_some_iff.1 hrow).1
      cases hx with
      |fsl0=>simp at hlt
      | fsl vs hone hn hb' hno hsz hcap hm hlen hcell hv=>
        rename_i n b off cap sz
        have h1:=hlen _ _ hrow
        have hsz':sz=ti.sz:=h1.symm.trans hb.1
        have hin:i<(n:Int):=by omega
        refine⟨.pointer (some ⟨b,(off+i.toNat*sz)+0,none⟩),?_,.fptr (vs i.toNat) (hone _ (List.mem_of_getElem? hrow)) hb' hno (fun j x hj=>?_) (fun j x hj=>hv _ _ hrow j x hj)⟩
        . simp[Instr.indexAt,sG,run_underlying hd,hb.2,hin,hT.size he,Addr.add_lit,hsz']
        . rw[Nat.add_assoc];exact hcell _ _ hrow j x hj
    . cases h
  . rename_i n e o r i0 k i hk
    obtain⟨d,hd,hdk⟩:=hT.under hk
    cases d<;>simp[tkOf] at hdk
    obtain⟨rfl,rfl⟩:=hdk
    rename_i n e
    cases hi
    cases he:T e with
    |none=>simp[he] at h
    |some ti=>
    simp only[he,Option.bind_some] at h
    split at h
    . rename_i hb
      cases h
      cases hx with
      | ptr hC=>
        refine⟨_,?_,.ptr hC⟩
        simp[Instr.indexAt,sG,run_underlying hd,hb,Instr.sureAddr,hT.size he,Addr.add_lit,Nat.add_assoc]
    . cases h
  . rename_i n e cs i0 k i hk
    obtain⟨d,hd,hdk⟩:=hT.under hk
    cases d<;>simp[tkOf] at hdk
    obtain⟨rfl,rfl⟩:=hdk
    rename_i n e
    cases hi
    cases he:T e with
    |none=>simp[he] at h
    |some ti=>
    simp only[he,Option.bind_some] at h
    split at h
    . rename_i hb
      cases h
      cases hx with
      | fptr vs hone hb' hno hcell hv=>
        rename_i b off
        have hwin:∀(j:Nat) (x:AV),((cs.drop (i0+i.toNat*ti.sz)).take ti.sz)[j]? =some x->cs[i0+i.toNat*ti.sz+j]? =some x:=by
          intro j x hj
          rw[List.getElem?_take] at hj
          split at hj
          . rwa [List.getElem?_drop] at hj
          . cases hj
        refine⟨.pointer (some ⟨b,off+(i0+i.toNat*ti.sz)+0,none⟩),?_,.fptr (fun j=>vs (i0+i.toNat*ti.sz+j)) (fun x hx=>hone x (List.mem_of_mem_drop (List.mem_of_mem_take hx))) hb' hno (fun j x hj=>?_) (fun j x hj=>hv _ _ (hwin j x hj))⟩
        . simp[Instr.indexAt,sG,run_underlying hd,hb,Instr.sureAddr,hT.size he,Addr.add_lit,Nat.add_assoc]
        . rw[Nat.add_assoc];exact hcell _ _ (hwin j x hj)
    . cases h
  . cases h

theorem indexA_sound {P T C ow}{w:World}(hT:TOk P T){t:TypeId}{x ix v:AV}{cx ci:Value}(hx:VRel C ow w x cx)(hi:VRel C ow w ix ci)(h:indexA T t x ix=some v):
    ∃cv,(Instr.index t cx ci).run P w=.ok cv w/\VRel C ow w v cv:=by
  unfold indexA at h
  split at h
  . rename_i n e cs k i hk
    obtain⟨d,hd,hdk⟩:=hT.under hk
    cases d<;>simp[tkOf] at hdk
    obtain⟨rfl,rfl⟩:=hdk
    cases hi
    cases hx with
    | agg hl hv=>
      rename_i n e vs
      cases he:T e with
      |none=>simp[he] at h
      | some ti=>
        simp only[he,Option.bind_some] at h
        split at h
        . rename_i hb
          obtain⟨cv,hr,hrel⟩:=dR (P:=P) hT he hl hv h w
          refine⟨cv,?_,hrel⟩
          simp[Instr.index,sG,run_underlying hd,hb,hT.size he,hr]
        . cases h
  . cases h

theorem extractA_sound {P C ow}{w:World}{x v:AV}{i:Nat}{cx:Value}(hx:VRel C ow w x cx)(h:gC x i=some v):
    ∃cv,(Instr.extract cx i).run P w=.ok cv w/\VRel C ow w v cv:=by
  unfold gC at h
  split at h
  . cases hx with
    | tup hl hv=>
      rename_i vs cvs
      have hi:i<vs.length:=(List.getElem?_eq_some_iff.1 h).1
      have e:cvs[i]? =some cvs[i]:=by simp[hl▸hi]
      exact⟨_,by simp[Instr.extract,e],hv i v _ h e⟩
  . cases h

theorem lenA_sound {P T C ow}{w:World}(hT:TOk P T){t ty:TypeId}{x v:AV}{cx:Value}(hx:VRel C ow w x cx)(h:lenA T t x=some v):
    ∃cv,(Builtin.len_ #[t] ty #[cx]).run P w=.ok cv w/\VRel C ow w v cv:=by
  unfold lenA at h
  split at h
  all_goals first|cases h;done|skip
  all_goals
    rename_i hk
    obtain⟨d,hd,hdk⟩:=hT.under hk
    cases d<;>simp[tkOf] at hdk
    cases h
  . cases hx
    . exact⟨_,by simp[Builtin.len_,run_underlying hd,goInt],.int⟩
    . exact⟨_,by simp[Builtin.len_,run_underlying hd,goInt],.int⟩
    . exact⟨_,by simp[Builtin.len_,run_underlying hd,goInt],.int⟩
  . cases hx with
    |fsl0=>exact⟨_,by simp[Builtin.len_,run_underlying hd,goInt],.int⟩
    |fsl vs hone hn hb' hno hsz hcap hm hlen hcell hv=>exact⟨_,by simp[Builtin.len_,run_underlying hd,goInt];rfl,by rw[hn];exact .int⟩
  . cases hx
    exact⟨_,by simp[Builtin.len_,run_underlying hd,goInt],.int⟩
  . cases hx
    exact⟨_,by simp[Builtin.len_,run_underlying hd,goInt],.int⟩
  . cases hx
    exact⟨_,by simp[Builtin.len_,run_underlying hd,goInt],.int⟩

theorem maxA_sound {P C ow}{w:World}{ts:Array TypeId}{ty:TypeId}{x y v:AV}{cx cy:Value}(hx:VRel C ow w x cx)(hy:VRel C ow w y cy)(h:maxA x y=some v):
    ∃cv,(Builtin.max_ ts ty #[cx,cy]).run P w=.ok cv w/\VRel C ow w v cv:=by
  unfold maxA at h
  split at h
  . cases h;cases hx;cases hy;exact⟨_,by simp[Builtin.max_,Builtin.max2],.int⟩
  . cases h

theorem minA_sound {P C ow}{w:World}{ts:Array TypeId}{ty:TypeId}{x y v:AV}{cx cy:Value}(hx:VRel C ow w x cx)(hy:VRel C ow w y cy)(h:minA x y=some v):
    ∃cv,(Builtin.min_ ts ty #[cx,cy]).run P w=.ok cv w/\VRel C ow w v cv:=by
  unfold minA at h
  split at h
  . cases h;cases hx;cases hy;exact⟨_,by simp[Builtin.min_,Builtin.min2],.int⟩
  . cases h

theorem AV.ok_some {x v:AV}(h:x.ok=some v):v=x/\x≠.bad:=by
  cases x<;>simp[AV.ok] at h<;>subst h<;>exact⟨rfl,by simp⟩

theorem stepP_sound {P T G C J w n a ca}(hT:TOk P T)(hR:R0 G C J w)(hA:ARel0 C J w n a ca){o:Oper}{v:AV}(h:stepP T G o.op a J=some v):
    ∃cv,(execOp ca.eval o).run P w=.ok (.value cv) w/\VRel C (own0 C J) w v cv:=by
  have E:∀x,ev G a x≠.bad->VRel C (own0 C J) w (ev G a x) (ca.eval x):=fun x=>ev_rel0 hR hA x
  obtain⟨dst,op,ty,pos,after,guard⟩:=o
  simp only at h
  unfold stepP at h
  split at h
  . obtain⟨rfl,hb⟩:=AV.ok_some h;exact⟨_,rfl,E _ hb⟩
  . obtain⟨rfl,hb⟩:=AV.ok_some h;exact⟨_,rfl,E _ hb⟩
  . rename_i c x y
    split at h
    . rename_i b hc
      obtain⟨rfl,hb⟩:=AV.ok_some h
      have h1:=E c (by rw[hc];simp)
      rw[hc] at h1
      generalize hcv:ca.eval c=cv at h1
      cases h1
      refine⟨if b then ca.eval x else ca.eval y,by simp[execOp,hcv,asBool],?_⟩
      cases b
      . exact E _ hb
      . exact E _ hb
    . cases h
  . rename_i t x
    have hb:ev G a x≠.bad:=by intro e;rw[e] at h;simp[loadA] at h
    obtain⟨cv,h1,h2⟩:=loadA_sound (P:=P) hT hR (E x hb) h
    exact⟨cv,by simp[execOp,h1],h2⟩
  . rename_i x
    have hb:ev G a x≠.bad:=by intro e;rw[e] at h;simp[pO] at h
    obtain⟨p,h1,h2⟩:=nilCheckA_sound (E x hb) h
    exact⟨ca.eval x,by simp[execOp,h1],h2⟩
  . rename_i op t x y _
    have hb:ev G a x≠.bad:=by
      intro e;rw[e] at h;unfold bin at h
      split at h<;>first|(cases h;done)|skip
      all_goals simp_all [ptrNil]
      all_goals (split at h<;>cases h)
    have hb':ev G a y≠.bad:=by intro e;rw[e] at h;unfold bin at h;split at h<;>simp_all
    obtain⟨cv,h1,h2⟩:=bin_sound (P:=P) (ox:=x) (oy:=y) hT (E x hb) (E y hb') h
    refine⟨cv,?_,h2⟩
    show(do pure (Next.value (<- (do eqGuard op t x y (ca.eval x) (ca.eval y);binOp op t (ca.eval x) (ca.eval y)))):Sem Next).run P w=_
    rw[Sem.run_bind,h1];rfl
  . rename_i op _ x
    have hb:ev G a x≠.bad:=by intro e;rw[e] at h;unfold unA at h;split at h<;>simp_all
    obtain⟨cv,h1,h2⟩:=unA_sound (P:=P) (E x hb) h
    exact⟨cv,by simp[execOp,h1],h2⟩
  . rename_i s d x
    have hb:ev G a x≠.bad:=by intro e;rw[e] at h;unfold convA at h;split at h<;>simp_all
    obtain⟨cv,h1,h2⟩:=convA_sound (P:=P) hT (E x hb) h
    exact⟨cv,by simp[execOp,h1],h2⟩
  . rename_i s x f
    have hb:ev G a x≠.bad:=by intro e;rw[e] at h;unfold tE at h;split at h<;>simp_all
    obtain⟨cv,h1,h2⟩:=fieldAddrA_sound (P:=P) hT (E x hb) h
    exact⟨cv,by simp[execOp,h1],h2⟩
  . rename_i s x f
    have hb:ev G a x≠.bad:=by intro e;rw[e] at h;unfold fieldA at h;split at h<;>simp_all
    obtain⟨cv,h1,h2⟩:=fieldA_sound (P:=P) hT (E x hb) h
    exact⟨cv,by simp[execOp,h1],h2⟩
  . rename_i t x ix
    have hb:ev G a x≠.bad:=by intro e;rw[e] at h;unfold zQ at h;split at h<;>simp_all
    have hb':ev G a ix≠.bad:=by intro e;rw[e] at h;unfold zQ at h;split at h<;>simp_all
    obtain⟨cv,h1,h2⟩:=indexAddrA_sound (P:=P) hT hR (E x hb) (E ix hb') h
    exact⟨cv,by simp[execOp,h1],h2⟩
  . rename_i t x ix
    have hb:ev G a x≠.bad:=by intro e;rw[e] at h;unfold indexA at h;split at h<;>simp_all
    have hb':ev G a ix≠.bad:=by intro e;rw[e] at h;unfold indexA at h;split at h<;>simp_all
    obtain⟨cv,h1,h2⟩:=indexA_sound (P:=P) hT (E x hb) (E ix hb') h
    exact⟨cv,by simp[execOp,h1],h2⟩
  . rename_i x i
    have hb:ev G a x≠.bad:=by intro e;rw[e] at h;simp[gC] at h
    obtain⟨cv,h1,h2⟩:=extractA_sound (P:=P) (E x hb) h
    exact⟨cv,by simp[execOp,h1],h2⟩
  . rename_i f first cap
    split at h
    . rename_i hall
      cases h
      simp only[Bool.and_eq_true,List.all_eq_true] at hall
      have key:∀(l:Array Operand),(∀x∈l.toList.map (ev G a),x.one=true)->∀(i:Nat) (x:AV) (u:Value),(l.toList.map (ev G a))[i]? =some x->(l.map ca.eval)[i]? =some u->VRel C (own0 C J) w x u:=by
        intro l hl i x u hx hu
        simp only[List.getElem?_map,Array.getElem?_toList] at hx
        simp only[Array.getElem?_map] at hu
        cases hli:l[i]? with
        |none=>simp[hli] at hx
        | some y=>
          simp[hli] at hx hu
          subst hx;subst hu
          refine E y (fun e=>?_)
          have:=hl (ev G a y) (List.mem_map.2 ⟨y,Array.mem_toList_iff.2 (Array.mem_of_getElem? hli),rfl⟩)
          rw[e] at this;cases this
      refine⟨_,rfl,.clo (by simp) (key first hall.1) (by simp) (key cap hall.2)⟩
    . cases h
  . rename_i args ats
    split at h
    . rename_i x t h1 h2
      have hb:ev G a x≠.bad:=by intro e;rw[e] at h;unfold lenA at h;split at h<;>simp_all
      obtain⟨cv,h3,h4⟩:=lenA_sound (P:=P) (ty:=ty) hT (E x hb) h
      have e1:args= #[x]:=by rw[<- Array.toArray_toList (xs:=args),h1]
      have e2:ats= #[t]:=by rw[<- Array.toArray_toList (xs:=ats),h2]
      subst e1;subst e2
      refine⟨cv,?_,h4⟩
      simp[execOp,resolve,invoke,builtin,h3]
    . cases h
  . rename_i args _
    split at h
    . rename_i x y h1
      have hb:ev G a x≠.bad:=by intro e;rw[e] at h;unfold maxA at h;split at h<;>simp_all
      have hb':ev G a y≠.bad:=by intro e;rw[e] at h;unfold maxA at h;split at h<;>simp_all
      have e1:args= #[x,y]:=by rw[<- Array.toArray_toList (xs:=args),h1]
      subst e1
      rename_i ats _
      obtain⟨cv,h3,h4⟩:=maxA_sound (P:=P) (ts:=ats) (ty:=ty) (E x hb) (E y hb') h
      refine⟨cv,?_,h4⟩
      simp[execOp,resolve,invoke,builtin,h3]
    . cases h
  . rename_i args _
    split at h
    . rename_i x y h1
      have hb:ev G a x≠.bad:=by intro e;rw[e] at h;unfold minA at h;split at h<;>simp_all
      have hb':ev G a y≠.bad:=by intro e;rw[e] at h;unfold minA at h;split at h<;>simp_all
      have e1:args= #[x,y]:=by rw[<- Array.toArray_toList (xs:=args),h1]
      subst e1
      rename_i ats _
      obtain⟨cv,h3,h4⟩:=minA_sound (P:=P) (ts:=ats) (ty:=ty) (E x hb) (E y hb') h
      refine⟨cv,?_,h4⟩
      simp[execOp,resolve,invoke,builtin,h3]
    . cases h
  . cases h

end Go.Abs
