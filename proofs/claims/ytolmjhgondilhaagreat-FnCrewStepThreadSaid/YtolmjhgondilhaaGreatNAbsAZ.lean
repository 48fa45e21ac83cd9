/- append of a number of zero values: the machine's side. -/
import Derived.Test.YtolmjhgondilhaaGreatNAbs9
set_option linter.unusedSimpArgs false
set_option linter.unusedVariables false
namespace Go.Abs
open Go Go.RowKit

section
variable {P:Program} (w:World)
theorem oB (t u ty e:TypeId)(k kx:IntKind)(i:TypeInfo)(ht:P.underlying t=some (.slice e))(hu:P.underlying u=some (.int k))(hi:P.info? e=some i)(b:Option Addr)(n cap:Nat)(hn:n<=cap):
    (Builtin.append_ #[t,u] ty #[.slice b n cap,.int kx 0]).run P w=.ok (.slice b n cap) w:=by
  have h0:IntKind.i64.wrap 0=0:=by decide
  cases b<;>simp[Builtin.append_,run_underlying ht,run_underlying hu,sizeOf,typeInfo,hi,asInt,asIntOf,h0,hn,storeCells]
theorem run_appendz_nil (t u ty e:TypeId)(k kx:IntKind)(i:TypeInfo)(z:Value)(ht:P.underlying t=some (.slice e))(hu:P.underlying u=some (.int k))(hi:P.info? e=some i)(hz:i.zero=some z)(b:Option Addr)
    (n:Nat) (h0:0<n) (hs0:0<i.size) (h63:(n:Int)<=9223372036854775807) (h48:n*i.bytes<=281474976710656):
    (Builtin.append_ #[t,u] ty #[.slice b 0 0,.int kx n]).run P w=
      .ok (.slice (some ⟨w.heap.size,0,none⟩) n (grownCap w n 0 e)) (w.drew.alloc (.cells (Builtin.zeroCells z.cells n++Builtin.zeroCells z.cells (grownCap w n 0 e-n)) e)):=by
  have hn:n≠0:=by omega
  have hw:IntKind.i64.wrap (n:Int)=n:=by rw[IntKind.wrap_i64];omega
  have h63':¬(9223372036854775807<(n:Int)):=by omega
  have h48':¬(281474976710656<Builtin.nextslicecap n 0*i.bytes):=by rw[nextslicecap_zero h0];omega
  have h48z:¬((281474976710656:Int)<(n:Int)*(i.bytes:Int)):=by
    have:=Int.ofNat_le.2 h48
    rw[Int.natCast_mul] at this;omega
  have hneg:¬((n:Int)<0):=by omega
  have hsz:i.size≠0:=by omega
  have hns:¬n*i.size=0:=by have:=Nat.mul_pos h0 hs0;omega
  cases b<;>simp[Builtin.append_,run_underlying ht,run_underlying hu,sizeOf,typeInfo,zeroValue,hi,hz,asInt,asIntOf,hw,hneg,h48z,hn,hns,h63',h48',Question.forced,run_firstCells_none,Builtin.firstCells,loadCells,loadCellsFrom,newRow,grownCap]
theorem cM (t u ty e:TypeId)(k kx:IntKind)(i:TypeInfo)(z:Value)(ht:P.underlying t=some (.slice e))(hu:P.underlying u=some (.int k))(hi:P.info? e=some i)(hz:i.zero=some z)
    (b:Addr) (sLen sCap:Nat) (olds:List Value) (hlo:olds.length=sLen*i.size) (holds:∀j v,olds[j]? =some v->w.cell? (b.add j)=some v)
    (n:Nat) (h0:0<n) (hs0:0<i.size)
    (hg:sCap<sLen+n) (h63:((sLen+n:Nat):Int)<=9223372036854775807) (h48:n*i.bytes<=281474976710656) (hfit:Builtin.nextslicecap (sLen+n) sCap*i.bytes<=281474976710656):
    (Builtin.append_ #[t,u] ty #[.slice (some b) sLen sCap,.int kx n]).run P w=
      .ok (.slice (some ⟨w.heap.size,0,none⟩) (sLen+n) (grownCap w (sLen+n) sCap e))
        (w.drew.alloc (.cells (olds.toArray++Builtin.zeroCells z.cells n++Builtin.zeroCells z.cells (grownCap w (sLen+n) sCap e-(sLen+n))) e)):=by
  have hn:¬(sLen+n<=sCap):=by omega
  have hw:IntKind.i64.wrap (n:Int)=n:=by rw[IntKind.wrap_i64];omega
  have h63':¬(9223372036854775807<((sLen:Int)+(n:Int))):=by omega
  have h48':¬(281474976710656<Builtin.nextslicecap (sLen+n) sCap*i.bytes):=by omega
  have h48z:¬((281474976710656:Int)<(n:Int)*(i.bytes:Int)):=by
    have:=Int.ofNat_le.2 h48
    rw[Int.natCast_mul] at this;omega
  have hneg:¬((n:Int)<0):=by omega
  have hsz:i.size≠0:=by omega
  have hns:¬n*i.size=0:=by have:=Nat.mul_pos h0 hs0;omega
  have hn0:n≠0:=by omega
  have hfo:=run_firstCells_some (P:=P) w.drew i.size sLen b sLen sCap olds hlo (by simpa using holds)
  simp[Builtin.append_,run_underlying ht,run_underlying hu,sizeOf,typeInfo,zeroValue,hi,hz,asInt,asIntOf,hw,hneg,h48z,hn,hn0,hns,h63',h48',Question.forced,hfo,newRow,grownCap]
theorem cL (t u ty e:TypeId)(k kx:IntKind)(i:TypeInfo)(z:Value)(ht:P.underlying t=some (.slice e))(hu:P.underlying u=some (.int k))(hi:P.info? e=some i)(hz:i.zero=some z)
    (g sLen sCap:Nat) (cur:Array Value) (hg:w.heap[g]? =some (.cells cur e (0,0)))
    (n:Nat) (h0:0<n) (hs0:0<i.size) (h63:(n:Int)<=9223372036854775807) (h48:n*i.bytes<=281474976710656) (h1:∀u∈(Builtin.zeroCells z.cells n).toList,u.oneCell'=true)
    (hroom:sLen+n<=sCap) (hfit:sLen*i.size+(Builtin.zeroCells z.cells n).size<=cur.size):
    (Builtin.append_ #[t,u] ty #[.slice (some ⟨g,0,none⟩) sLen sCap,.int kx n]).run P w=
      .ok (.slice (some ⟨g,0,none⟩) (sLen+n) sCap) (w.setRow g (cur.toList.take (sLen*i.size)++(Builtin.zeroCells z.cells n).toList++cur.toList.drop (sLen*i.size+(Builtin.zeroCells z.cells n).toList.length)).toArray):=by
  have hw:IntKind.i64.wrap (n:Int)=n:=by rw[IntKind.wrap_i64];omega
  have h48z:¬((281474976710656:Int)<(n:Int)*(i.bytes:Int)):=by
    have:=Int.ofNat_le.2 h48
    rw[Int.natCast_mul] at this;omega
  have hneg:¬((n:Int)<0):=by omega
  have hsz:i.size≠0:=by omega
  have hns:¬n*i.size=0:=by have:=Nat.mul_pos h0 hs0;omega
  have hn0:n≠0:=by omega
  have hst:=run_storeCells_at P g (sLen*i.size) e (Builtin.zeroCells z.cells n).toList 0 cur w hg (by simpa using hfit) h1
  simp only[Nat.add_zero] at hst
  simp[Builtin.append_,run_underlying ht,run_underlying hu,sizeOf,typeInfo,zeroValue,hi,hz,asInt,asIntOf,hw,hneg,h48z,hn0,hns,hroom,Addr.add_lit,hst]
end

def wV (T:Types)(t u:TypeId)(id:Nat)(s x:AV)(J:AHeap):Option (AV×AHeap):=
  match T.kind t,T.kind u,x with
  | some (.slice e),some (.int _),.int _ m=>(T e).bind fun ti=>
    if 0<=m/\m.toNat<=maxLen then
      match s with
      | .sl o 0 n=>(J.objs o).bind fun ob=>
        if 0<ti.sz/\ob.ty=e/\ob.sz=ti.sz/\n<=ob.rows.length/\n+m.toNat<=maxLen/\(n+m.toNat)*ti.bytes<=140737488355328 then
          some (.sl id 0 (n+m.toNat),(J.kill o).put id ⟨e,ti.sz,ob.rows.take n++List.replicate m.toNat ti.wz⟩) else none
      |.nilsl=>if 0<ti.sz/\m.toNat<=maxLen/\m.toNat*ti.bytes<=140737488355328 then some (.sl id 0 m.toNat,J.put id ⟨e,ti.sz,List.replicate m.toNat ti.wz⟩) else none
      |.esl=>if 0<ti.sz/\m.toNat<=maxLen/\m.toNat*ti.bytes<=140737488355328 then some (.sl id 0 m.toNat,J.put id ⟨e,ti.sz,List.replicate m.toNat ti.wz⟩) else none
      |_=>none
    else none
  |_,_,_=>none

theorem appendZ_sound {P T G C J w t u ty id s x v J' cs cx}(hT:TOk P T)(hR:R0 G C J w)(hid:id<J.next)(ho:J.objs id=none)(hC:C id=none)
    (hs:VRel C (own0 C J) w s cs) (hx:VRel C (own0 C J) w x cx) (h:wV T t u id s x J=some (v,J')):
    ∃cv w',(Builtin.append_ #[t,u] ty #[cs,cx]).run P w=.ok cv w'/\HPost0 G id C J w v J' cv w':=by
  unfold wV at h
  split at h
  case h_2=>cases h
  rename_i e ku kx m hk hku
  obtain⟨d,hd,hdk⟩:=hT.under hk
  cases d<;>simp[tkOf] at hdk
  subst hdk
  rename_i e
  obtain⟨du,hdu,hduk⟩:=hT.under hku
  cases du<;>simp[tkOf] at hduk
  subst hduk
  rename_i ku
  cases hx
  cases he:T e with
  |none=>simp[he] at h
  |some ti=>
  simp only[he,Option.bind_some] at h
  split at h
  case isFalse=>cases h
  rename_i hm0
  obtain⟨hm0,hml⟩:=hm0
  obtain⟨i,hi,hisz,hiby,z,hz,hzc⟩:=hT.info he
  have hzs:z.cells.size=ti.zero.length:=by have:=congrArg List.length hzc;simpa using this
  have hzz:z.cells.size=ti.sz:=hzs.trans (hT e ti he).2.2.2.1
  obtain⟨N,rfl⟩:∃N:Nat,m=(N:Int):=⟨m.toNat,by omega⟩
  simp only[Int.toNat_natCast] at h hml
  generalize hE:List.replicate N ti.wz=E at h
  have hEl:E.length=N:=by rw[<- hE];simp
  have hzrows:∀(ow:Nat->Prop),0<ti.sz->Rows C ow w ti.sz E (Builtin.zeroCells z.cells N)/\∀u∈(Builtin.zeroCells z.cells N).toList,u.oneCell'=true:=by
    intro ow h0
    obtain⟨z',hz1,hz2,hz3,hz4⟩:=fE (P:=P) (C:=C) (ow:=ow) (w:=w) hT he
    have hzq:z'=z:=by simp[zeroValue,typeInfo,hi,hz] at hz1;exact hz1.symm
    subst hzq
    have hrows:=Rows.zeros hz2 (by omega) hz3 hz4 N
    rw[hzz,hE] at hrows
    refine ⟨by have e:Builtin.zeroCells z'.cells N=jN z'.cells (N*ti.sz):=by rw[<- hzz];rfl
               rw[e];exact hrows,fun u hu=>?_⟩
    simp only[Builtin.zeroCells,Array.toList_map,List.mem_map] at hu
    obtain⟨k,_,rfl⟩:=hu
    have hk:k % z'.cells.size<z'.cells.size:=Nat.mod_lt _ (by omega)
    have hw:k % z'.cells.size<ti.wz.length:=by rw[hz2];exact hk
    have h5:=hz3 _ _ _ (List.getElem?_eq_getElem hw) (Array.getElem?_eq_getElem hk)
    have:=pN h5 (hz4 _ (List.getElem_mem hw))
    simpa [hk] using this
  subst hEl
  have hzlen:(Builtin.zeroCells z.cells E.length).size=E.length*ti.sz:=by rw[size_zeroCells,hzz]

  have nilcase:∀(a0:Option Addr) (J1:AHeap),R0 G C J1 w->Ext0 (·≠id) C J w C J1 w->J1.objs id=none->id<J1.next->0<ti.sz->E.length<=maxLen->E.length*ti.bytes<=140737488355328->
      ∃cv w',(Builtin.append_ #[t,u] ty #[.slice a0 0 0,.int kx (E.length:Int)]).run P w=.ok cv w'/\HPost0 G id C J w (.sl id 0 E.length) (J1.put id ⟨e,ti.sz,E⟩) cv w':=by
    intro a0 J1 hR1 hext ho1 hid1 h0 hm hb
    by_cases hne:E=[]
    . rw[hne]
      refine⟨_,_,by simpa using oB w t u ty e ku kx i hd hdu hi a0 0 0 (Nat.le_refl _),?_⟩
      obtain⟨h1,h2⟩:=hR1.newv (ty:=e) (sz:=ti.sz) hid1 ho1 hC
      exact⟨_,h1,hext.trans h2,.sl0 (b:=0) (sz:=0) (by simp[setC])⟩
    . obtain⟨hrows,h1⟩:=hzrows (own0 C J1) h0
      have hpos:0<E.length:=List.length_pos_iff.2 hne
      have hlen63:(E.length:Int)<=9223372036854775807:=by simp only[maxLen] at hm;omega
      have hr:=run_appendz_nil (P:=P) w t u ty e ku kx i z hd hdu hi hz a0 E.length hpos (by rw[hisz];exact h0) hlen63 (by rw[hiby];omega)
      refine⟨_,_,hr,HPost0.le (gE hR1 hid1 ho1 hC h0 rfl ?_ ?_ ?_ ?_) hext⟩
      . have:=grownCap_ge w E.length 0 e;omega
      . exact grownCap_le_maxLen w E.length 0 e hm
      . have hge:=grownCap_ge w E.length 0 e
        simp only[Array.size_append,size_zeroCells,hzz]
        rw[<- Nat.add_mul];congr 1;omega
      . have:=Rows.append (c:=Builtin.zeroCells z.cells (grownCap w E.length 0 e-E.length)) (A:=[]) (a:= #[]) (fun r e hr=>by simp at hr) hrows (by simp) hzlen
        simpa using this
  split at h
  . rename_i o n
    cases hob:J.objs o with
    |none=>simp[hob] at h
    |some ob=>
    simp only[hob,Option.bind_some] at h
    split at h
    case isFalse=>cases h
    rename_i hc
    obtain⟨h0,hty,hosz,hnr,hm,hbytes⟩:=hc
    obtain⟨rfl,rfl⟩:v=.sl id 0 (n+E.length)/\J'=(J.kill o).put id ⟨e,ti.sz,ob.rows.take n++E⟩:=by
      have:=Option.some.inj h;exact⟨(congrArg Prod.fst this).symm,(congrArg Prod.snd this).symm⟩
    obtain⟨hRk,hek⟩:=hR.kill o (·≠id)
    cases hs with
    | @sl0 _ _ _ a0 _=>
      have:=nilcase a0 (J.kill o) hRk hek (fU J o id ho) hid h0 (by omega) (by simpa using hbytes)
      simpa using this
    | sl hCo hsz hncap hcm hw hle=>
      rename_i b sz cap T' arr
      have hobr:=hR.obj o ob hob
      rw[hCo] at hobr
      obtain⟨rfl,_,arr',hw',hrle,hrows⟩:=hobr.get hsz
      rw[hw] at hw'
      cases hw'
      simp only[Nat.zero_mul,Nat.zero_add] at hle ⊢
      subst hty
      have hA:Rows C (own0 C J) w ob.sz (ob.rows.take n) (arr.toList.take (n*ob.sz)).toArray:=Rows.first (Rows.take hrows n) _ (by simp[Nat.min_eq_left hnr])
      have hnle:n*ob.sz<=arr.size:=by rw[<- hle];exact Nat.mul_le_mul_right _ hncap
      have hlenA:(arr.toList.take (n*ob.sz)).length=n*ob.sz:=by simp;omega

      have place:∀(w':World) (arr1:Array Value),w'.os=w.os->w'.tape=w.tape->w'.output=w.output->w'.heap.size=w.heap.size->(∀k,k≠b->w'.heap[k]? =w.heap[k]?)->w'.heap[b]? =some (.cells arr1 ob.ty (0,0))->arr1.size=arr.size->
          n+E.length<=cap->Rows C (own0 C J) w ob.sz (ob.rows.take n++E) arr1->
          HPost0 G id C J w (.sl id 0 (n+E.length)) ((J.kill o).put id ⟨ob.ty,ti.sz,ob.rows.take n++E⟩) (.slice (some ⟨b,0,none⟩) (n+E.length) cap) w':=by
        intro w' arr1 q1 q2 q3 q4 q5 q6 q7 q8 q9
        have hl1:(ob.rows.take n++E).length=n+E.length:=by simp;omega
        obtain⟨g1,g2⟩:=hR.write (w':=w') (rows:=ob.rows.take n++E) (arr:=arr1) (·≠id) hob hCo hsz q1 q2 q3 q4 q5 q6 (fun old T'' fz hold=>by rw[hw] at hold;cases hold;exact q7)
          (by rw[hl1,q7,<- hle];exact Nat.mul_le_mul_right _ q8) q9
        have ho1:(J.put o ⟨ob.ty,ob.sz,ob.rows.take n++E⟩).objs id=none:=by
          have:id≠o:=by rintro rfl;rw[ho] at hob;cases hob
          simp[AHeap.put,this,ho]
        obtain⟨g3,g4⟩:=g1.rename (o:=o) (id:=id) (ob:=⟨ob.ty,ob.sz,ob.rows.take n++E⟩) (by simp[AHeap.put]) hid ho1 hC
        rw[put_kill] at g3 g4
        rw[<- hosz]
        refine⟨_,g3,g2.trans g4,?_⟩
        have:=VRel.sl (C:=fun k=>if k=id then C o else C k) (ow:=own0 (fun k=>if k=id then C o else C k) ((J.kill o).put id ⟨ob.ty,ob.sz,ob.rows.take n++E⟩)) (w:=w') (o:=id) (r:=0) (n:=n+E.length) (b:=b) (sz:=ob.sz) (cap:=cap)
          (by simp[hCo]) hsz q8 hcm q6 (by rw[Nat.zero_add,hle,q7])
        simpa using this
      by_cases hne:E=[]
      . have hr:=oB (P:=P) w t u ty ob.ty ku kx i hd hdu hi (some ⟨b,0,none⟩) n cap hncap
        refine⟨_,_,by rw[hne];simpa using hr,?_⟩
        have:=place w arr rfl rfl rfl rfl (fun _ _=>rfl) hw rfl (by rw[hne];simpa using hncap) (by rw[hne];simpa using Rows.take hrows n)
        rw[hne] at this ⊢
        simpa using this
      . obtain⟨hrE,h1⟩:=hzrows (own0 C J) h0
        rw[<- hosz] at hrE hzlen
        have hpos:0<E.length:=List.length_pos_iff.2 hne
        have h48:E.length*i.bytes<=281474976710656:=by
          have:=Nat.mul_le_mul_right ti.bytes (Nat.le_add_left E.length n)
          rw[hiby];omega
        by_cases hroom:n+E.length<=cap
        . have hfit:n*ob.sz+(Builtin.zeroCells z.cells E.length).size<=arr.size:=by rw[hzlen,<- Nat.add_mul,<- hle];exact Nat.mul_le_mul_right _ hroom
          have hr:=cL (P:=P) w t u ty ob.ty ku kx i z hd hdu hi hz b n cap arr hw E.length hpos (by rw[hisz];exact h0) (by simp only[maxLen] at hm;omega) h48 h1 hroom (by rw[hisz,<- hosz];exact hfit)
          rw[hisz,<- hosz] at hr
          refine⟨_,_,hr,place _ _ rfl rfl rfl (by simp[World.setRow]) (fun k hk=>setRow_other w b k _ hk) (setRow_heap w b arr _ ob.ty _ hw) (by simp;omega) hroom ?_⟩
          have:=Rows.append (c:=(arr.toList.drop (n*ob.sz+(Builtin.zeroCells z.cells E.length).toList.length)).toArray) hA hrE (by simp[Nat.min_eq_left hnr];omega) hzlen
          have e1:(arr.toList.take (n*ob.sz)++(Builtin.zeroCells z.cells E.length).toList++arr.toList.drop (n*ob.sz+(Builtin.zeroCells z.cells E.length).toList.length)).toArray=
              (arr.toList.take (n*ob.sz)).toArray++Builtin.zeroCells z.cells E.length++(arr.toList.drop (n*ob.sz+(Builtin.zeroCells z.cells E.length).toList.length)).toArray:=by
            apply Array.ext';simp
          rw[e1];exact this
        . have holds:∀j v,(arr.toList.take (n*ob.sz))[j]? =some v->w.cell? ((⟨b,0,none⟩:Addr).add j)=some v:=by
            intro j v hj
            rw[Addr.add_lit,Nat.zero_add,kY hw]
            rw[List.getElem?_take] at hj
            split at hj
            . simpa using hj
            . cases hj
          have hr:=cM (P:=P) w t u ty ob.ty ku kx i z hd hdu hi hz ⟨b,0,none⟩ n cap (arr.toList.take (n*ob.sz)) (by rw[hisz,<- hosz];exact hlenA) holds E.length hpos (by rw[hisz];exact h0)
            (by omega) (by simp only[maxLen] at hm;omega) h48 (growslice_fits (by omega) (by rw[hiby];exact hbytes))
          have hge:=grownCap_ge w (n+E.length) cap ob.ty
          have hzsz:z.cells.size=ob.sz:=hzz.trans hosz.symm
          have hrows2:Rows C (own0 C (J.kill o)) w ti.sz (ob.rows.take n++E) ((arr.toList.take (n*ob.sz)).toArray++Builtin.zeroCells z.cells E.length++Builtin.zeroCells z.cells (grownCap w (n+E.length) cap ob.ty-(n+E.length))):=by
            rw[<- hosz]
            exact Rows.mono hek (Rows.append hA hrE (by simp[Nat.min_eq_left hnr];omega) hzlen)
          refine⟨_,_,hr,HPost0.le (gE hRk hid (fU J o id ho) hC h0 (by simp;omega) hge (grownCap_le_maxLen w _ cap ob.ty hm) ?_ hrows2) hek⟩
          simp only[Array.size_append,List.size_toArray,size_zeroCells,hlenA,hzsz,<- Nat.add_mul,<- hosz]
          congr 1
          omega
  . split at h
    case isFalse=>cases h
    rename_i hc
    obtain⟨rfl,rfl⟩:v=.sl id 0 E.length/\J'=J.put id ⟨e,ti.sz,E⟩:=by
      have:=Option.some.inj h;exact⟨(congrArg Prod.fst this).symm,(congrArg Prod.snd this).symm⟩
    cases hs
    exact nilcase _ J hR (Ext0.refl (·≠id) C J w) ho hid hc.1 hc.2.1 hc.2.2
  . split at h
    case isFalse=>cases h
    rename_i hc
    obtain⟨rfl,rfl⟩:v=.sl id 0 E.length/\J'=J.put id ⟨e,ti.sz,E⟩:=by
      have:=Option.some.inj h;exact⟨(congrArg Prod.fst this).symm,(congrArg Prod.snd this).symm⟩
    cases hs
    exact nilcase _ J hR (Ext0.refl (·≠id) C J w) ho hid hc.1 hc.2.1 hc.2.2
  . cases h


theorem appendZ_ne {T t u id s x J r}(h:wV T t u id s x J=some r):s≠.bad/\x≠.bad:=by
  unfold wV at h
  split at h
  . rename_i e ku kx m hk hku
    refine⟨?_,by simp⟩
    rintro rfl
    cases he:T e with
    |none=>simp[he] at h
    |some ti=>simp[he] at h
  . cases h
end Go.Abs
