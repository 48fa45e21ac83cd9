/- Regions that draw their order: the machine's side. -/
import Derived.Test.YtolmjhgondilhaaGreatNAbs17
set_option linter.unusedSimpArgs false
set_option linter.unusedVariables false
namespace Go.Abs
open Go Go.RowKit

variable {cf:Bool} {P:Program} {T:Types} {G:Globs} {n:Nat} {alts:List Nat} {ds:List (Option Nat)} {base:Nat} {Q:AAct->AHeap->Prop} {hs:List Nat} {wt:Nat->List Nat}

theorem ADraw_tail {x:Oper×Nat}{L L':List (Oper×Nat)}(h:∀W a J,ADraw P T G n alts ds base hs wt Q L W a J->ADraw P T G n alts ds base hs wt Q L' W a J){W:Recs}{a:AAct}{J:AHeap}
  (hh:ADraw P T G n alts ds base hs wt Q (x::L) W a J):ADraw P T G n alts ds base hs wt Q (x::L') W a J:=by
 obtain⟨o,i⟩:=x
 simp only[ADraw] at hh ⊢
 refine⟨hh.1,?_⟩
 by_cases hx:hs.contains i=true
 .simp only[hx,if_true] at hh ⊢
  exact HeapA_mono h hh.2
 .simp only[hx,if_false] at hh ⊢
  obtain⟨_,v,h1,h2⟩:=hh
  exact⟨v,h1,h _ _ _ h2⟩

theorem Eqv.refl' (a:AAct):Eqv a a:=fun _=>rfl

theorem call_isCall {o:Oper}{alt:Bool}{id:Nat}{a:AAct}{J:AHeap}{f:FuncId}{args:List AV}(h:stepO T G alt id o a J=.call f args):tX o=true:=by
 have key2:∀(z:Option AV),St.ofV z J≠.call f args:=by intro z;cases z<;>simp[St.ofV]
 have key3:∀(z:Option (AV×AHeap)),St.ofO z≠.call f args:=by intro z;cases z<;>simp[St.ofO]
 unfold stepO at h
 split at h
 .exact absurd h (key3 _)
 .exact absurd h (key3 _)
 .exact absurd h (key2 _)
 .exact absurd h (key3 _)
 .split at h<;>cases h
 .exact absurd h (key3 _)
 .exact absurd h (key2 _)
 .split at h
  .split at h
   .exact absurd h (key3 _)
   .split at h
    .cases h
    .exact absurd h (key3 _)
  .cases h
 .rename_i hop;simp[tX,hop]
 .split at h
  .exact absurd h (key3 _)
  .exact absurd h (key2 _)
 .exact absurd h (key2 _)

theorem frame_put {J J1:AHeap}{j:Nat}{ob:AObj}(hj:J.objs j=none)(h1:J1.objs j=none):
  (⟨fun o=>match J1.objs o with|some x=>some x|none=>if(o !=j)=true then none else(J.put j ob).objs o,J1.next⟩:AHeap)=J1.put j ob:=by
 simp only[AHeap.put,AHeap.mk.injEq,and_true]
 funext o
 by_cases h:o=j
 .subst h;simp[h1]
 .simp only[if_neg h]
  cases J1.objs o with
  |some x=>rfl
  |none=>simp[h]
theorem cut_put {J:AHeap}{j:Nat}{ob:AObj}(hj:J.objs j=none):(J.put j ob).cut (fun o=> !(o !=j))=J:=by
 cases J with
 |mk objs next=>
 simp only[AHeap.put,AHeap.cut,AHeap.mk.injEq,and_true]
 funext o
 by_cases h:o=j
 .subst h;simp at hj ⊢;exact hj.symm
 .simp[h]

theorem behind (hQ:∀a a' J,Eqv a a'->Q a J->Q a' J){oy:Oper}{y:Nat}{B:List (Oper×Nat)}{u:AV}{ob:AObj}(hy:oD alts hs wt (oy,y)=true):∀(A:List (Oper×Nat)),(∀x∈A,swapB cf alts ds hs wt x (oy,y)=true)->
  ∀(W W':Recs) (a a':AAct) (J:AHeap),J.objs (base+y)=none->wantA ds oy a=some true->(∀J,stepO T G false (base+y) oy a J=.val u (J.put (base+y) ob))->Eqv (a.put oy.dst u) a'->
  (∀p∈W',p∈(y,fun J=>stepO T G (alts.contains y) (base+y) oy a J)::W)->ADraw P T G n alts ds base hs wt Q (A++(oy,y)::B) W a J->ADraw P T G n alts ds base hs wt Q (A++B) W' a' (J.put (base+y) ob):=by
 simp only[oD,Bool.and_eq_true,Bool.not_eq_true',List.isEmpty_iff] at hy
 obtain⟨⟨⟨hyh,hyf⟩,hya⟩,hyw⟩:=hy
 intro A
 induction A with
 |nil=>
  intro _ W W' a a' J hj hw hst he hW h
  simp only[List.nil_append,ADraw,hyh,if_true] at h ⊢
  obtain⟨_,h⟩:=h
  unfold HeapA at h
  rw[hw] at h
  simp only[hya] at h
  rw[hst] at h
  simp only[hya] at hW
  exact vJ hQ _ _ _ _ _ _ he hW h.2
 |cons x A ih=>
  intro hA W W' a a' J hj hw hst he hW h
  have hxy:=hA x (List.mem_cons_self ..)
  have ih':=ih fun z hz=>hA z (List.mem_cons_of_mem _ hz)
  clear ih
  obtain⟨ox,x⟩:=x
  have h':ADraw P T G n alts ds base hs wt Q ((ox,x)::(A++(oy,y)::B)) W a J:=h
  show ADraw P T G n alts ds base hs wt Q ((ox,x)::(A++B)) W' a' (J.put (base+y) ob)
  clear h
  revert h'
  generalize A++(oy,y)::B=L1 at ih' ⊢
  generalize A++B=L2 at ih' ⊢
  intro h
  simp only[swapB,Bool.and_eq_true] at hxy
  obtain⟨⟨hDA,hDB⟩,hK⟩:=hxy
  have d1:∀t∈looks ds oy,ox.dst≠some t:=by
   intro t ht e
   rw[e] at hDA
   simp at hDA
   exact hDA.1 ht
  have d2:∀t∈looks ds ox,oy.dst≠some t:=by
   intro t ht e
   rw[e] at hDB
   simp at hDB
   exact hDB ht
  have d3:∀t,ox.dst=some t->oy.dst≠some t:=by
   intro t e e'
   rw[e] at hDA
   simp at hDA
   exact hDA.2 e'
  have cy:∀(v:AV),∀t∈looks ds oy,(a.put ox.dst v).get t=a.get t:=fun v t ht=>uK (d1 t ht)
  have cx:∀t∈looks ds ox,a.get t=a'.get t:=fun t ht=>by rw[<- he t,uK (d2 t ht)]

  have next:∀(v:AV) (V V':Recs) (J1:AHeap),J1.objs (base+y)=none->(∀p∈V',p∈(y,fun J=>stepO T G (alts.contains y) (base+y) oy a J)::V)->ADraw P T G n alts ds base hs wt Q L1 V (a.put ox.dst v) J1->
    ADraw P T G n alts ds base hs wt Q L2 V' (a'.put ox.dst v) (J1.put (base+y) ob):=by
   intro v V V' J1 hj1 hV hh
   refine ih' V V' (a.put ox.dst v) (a'.put ox.dst v) J1 hj1 (by rw[yQ (cy v)];exact hw) (fun J=>by rw[kJ (T:=T) (G:=G) (cy v)];exact hst J) (fun t=>((gB d3) t).trans ((he.put _ _) t)) (fun p hp=>?_) hh
   have e:(fun J=>stepO T G (alts.contains y) (base+y) oy (a.put ox.dst v) J)=fun J=>stepO T G (alts.contains y) (base+y) oy a J:=by
    funext J3;exact kJ (T:=T) (G:=G) (cy v)
   rw[e]
   exact hV p hp
  simp only[ADraw] at h ⊢
  refine⟨h.1,?_⟩
  by_cases hx:hs.contains x=true
  .simp only[hx,if_true] at h ⊢
   have h2:=h.2

   have hk:((wU ox=true\/gQ ox=true\/uL ox=true\/tX ox=true)/\alts.contains x=false/\wt x=[])/\x≠y:=by
    have hry:uL oy=false:=by
     cases hr:uL oy with
     |false=>rfl
     |true=>
      exfalso
      simp only[uL,Bool.and_eq_true] at hr
      have hf:=hr.1
      unfold wU at hyf
      unfold yD at hf
      split at hyf<;>simp_all
    simp only[hx,hry,hyw,hya,hyf,hyh,oD,Bool.not_true,Bool.false_or,Bool.false_and,Bool.and_eq_true,Bool.not_eq_true',Bool.or_eq_true,List.isEmpty_iff,bne_iff_ne,ne_eq,List.contains_nil,Bool.false_eq_true,and_false,false_or,true_and,Bool.not_false,List.isEmpty_nil,and_true] at hK
    obtain⟨⟨⟨k1,k2⟩,k3⟩,k4⟩:=hK
    refine⟨⟨?_,k2,k3⟩,k4⟩
    rcases k1 with((k1|k1)|k1)|k1
    .exact .inl k1
    .exact .inr (.inl k1)
    .exact .inr (.inr (.inl k1))
    .exact .inr (.inr (.inr k1.1.2))
   obtain⟨⟨hkind,hxa,hxw⟩,hne⟩:=hk
   unfold HeapA at h2 ⊢
   rw[<- yQ cx]
   cases hwx:wantA ds ox a with
   |none=>simp[hwx] at h2
   |some b=>
   cases b with
   |false=>
    simp only[hwx] at h2 ⊢
    exact next _ _ _ _ hj hW h2
   |true=>
    simp only[hwx] at h2 ⊢
    have hsx:∀J,stepO T G (alts.contains x) (base+x) ox a' J=stepO T G (alts.contains x) (base+x) ox a J:=fun J=>(kJ (T:=T) (G:=G) cx).symm
    cases hs1:stepO T G (alts.contains x) (base+x) ox a J with
    |bad=>rw[hs1] at h2;exact h2.elim
    |val v J1=>
     rw[hs1] at h2
     simp only at h2
     have hp:stepO T G (alts.contains x) (base+x) ox a (J.put (base+y) ob)=.val v (J1.put (base+y) ob)/\J1.objs (base+y)=none:=by
      rw[hxa] at hs1 ⊢
      rcases hkind with k|k|k|k
      .exact pass_put (by rw[k];rfl) hj (by omega) hs1
      .exact pass_put (by rw[k,Bool.or_true]) hj (by omega) hs1
      .exact read_put k hj hs1
      .exfalso
       unfold tX at k
       split at k
       .rename_i hop
        simp only[stepO,hop,callA] at hs1
        split at hs1<;>first|cases hs1|(split at hs1<;>cases hs1)
       .cases k
     rw[hsx,hp.1]
     simp only
     refine⟨fun p _ hq=>by rw[hxw] at hq;simp at hq,?_⟩
     refine next v _ _ J1 hp.2 (fun p hp=>?_) h2.2
     rw[List.mem_cons] at hp
     rcases hp with rfl|hp
     .refine List.mem_cons_of_mem _ (List.mem_cons.2 (.inl ?_))
      congr 1
      funext J3
      exact hsx J3
     .have:=hW p hp
      rw[List.mem_cons] at this ⊢
      rcases this with h5|h5
      .exact .inl h5
      .exact .inr (List.mem_cons_of_mem _ h5)
    |call f args=>
     rw[hs1] at h2
     simp only at h2
     have hcall:stepO T G (alts.contains x) (base+x) ox a (J.put (base+y) ob)=.call f args:=by
      have hc:=call_isCall hs1
      unfold tX at hc
      split at hc
      .rename_i hop
       simp only[stepO,hop] at hs1 ⊢
       exact hs1
      .cases hc
     rw[hsx,hcall]
     simp only
     have h3:ACalls P G f args ((J.put (base+y) ob).cut fun o=> !(o !=base+y)) fun r J'=>(∀p∈W,p.1∈wt x->pZ (p.2 J) (p.2 J'))/\ADraw P T G n alts ds base hs wt Q L1 W (a.put ox.dst r) J':=by
      rw[cut_put hj];exact h2
     refine(ACalls_frame2 (fun o=>o !=base+y) h3).mono ?_
     rintro r J2 ⟨J1,⟨_,k1⟩,k2,rfl⟩
     have hj1:J1.objs (base+y)=none:=k2 (base+y) (by simp) (by simp[AHeap.put])
     have e:=frame_put (ob:=ob) hj hj1
     refine⟨fun p _ hq=>by rw[hxw] at hq;simp at hq,?_⟩
     have:=next r _ _ J1 hj1 hW k1
     rw[<- e] at this
     exact this
  .simp only[hx,if_false] at h ⊢
   obtain⟨_,v,h1,h2⟩:=h
   exact⟨v,tF cx h1,next v _ _ J hj hW h2⟩

theorem behind_skip (hQ:∀a a' J,Eqv a a'->Q a J->Q a' J){oy:Oper}{y:Nat}{B:List (Oper×Nat)}(hyh:hs.contains y=true):∀(A:List (Oper×Nat)),(∀x∈A,swapB cf alts ds hs wt x (oy,y)=true)->
  ∀(W:Recs) (a a':AAct) (J:AHeap),wantA ds oy a=some false->Eqv (a.put oy.dst (.tup [])) a'->ADraw P T G n alts ds base hs wt Q (A++(oy,y)::B) W a J->ADraw P T G n alts ds base hs wt Q (A++B) W a' J:=by
 intro A
 induction A with
 |nil=>
  intro _ W a a' J hw he h
  simp only[List.nil_append,ADraw,hyh,if_true] at h ⊢
  obtain⟨_,h⟩:=h
  unfold HeapA at h
  rw[hw] at h
  exact vJ hQ _ _ _ _ _ _ he (fun p hp=>hp) h
 |cons x A ih=>
  intro hA W a a' J hw he h
  have hxy:=hA x (List.mem_cons_self ..)
  have ih':=ih fun z hz=>hA z (List.mem_cons_of_mem _ hz)
  clear ih
  obtain⟨ox,x⟩:=x
  have h':ADraw P T G n alts ds base hs wt Q ((ox,x)::(A++(oy,y)::B)) W a J:=h
  show ADraw P T G n alts ds base hs wt Q ((ox,x)::(A++B)) W a' J
  clear h
  revert h'
  generalize A++(oy,y)::B=L1 at ih' ⊢
  generalize A++B=L2 at ih' ⊢
  intro h
  simp only[swapB,Bool.and_eq_true] at hxy
  obtain⟨⟨hDA,hDB⟩,hK⟩:=hxy
  have d1:∀t∈looks ds oy,ox.dst≠some t:=by
   intro t ht e
   rw[e] at hDA
   simp at hDA
   exact hDA.1 ht
  have d2:∀t∈looks ds ox,oy.dst≠some t:=by
   intro t ht e
   rw[e] at hDB
   simp at hDB
   exact hDB ht
  have d3:∀t,ox.dst=some t->oy.dst≠some t:=by
   intro t e e'
   rw[e] at hDA
   simp at hDA
   exact hDA.2 e'
  have cy:∀(v:AV),∀t∈looks ds oy,(a.put ox.dst v).get t=a.get t:=fun v t ht=>uK (d1 t ht)
  have cx:∀t∈looks ds ox,a.get t=a'.get t:=fun t ht=>by rw[<- he t,uK (d2 t ht)]
  have next:∀(v:AV) (V:Recs) (J1:AHeap),ADraw P T G n alts ds base hs wt Q L1 V (a.put ox.dst v) J1->ADraw P T G n alts ds base hs wt Q L2 V (a'.put ox.dst v) J1:=by
   intro v V J1 hh
   exact ih' V (a.put ox.dst v) (a'.put ox.dst v) J1 (by rw[yQ (cy v)];exact hw) (fun t=>((gB d3) t).trans ((he.put _ _) t)) hh
  simp only[ADraw] at h ⊢
  refine⟨h.1,?_⟩
  by_cases hx:hs.contains x=true
  .simp only[hx,if_true] at h ⊢
   refine nX cx (fun p hp=>hp) (fun p v J' hk=>?_) h.2
   exact next v _ J' hk
  .simp only[hx,if_false] at h ⊢
   obtain⟨_,v,h1,h2⟩:=h
   exact⟨v,tF cx h1,next v _ J h2⟩

def Fact (P:Program)(T:Types)(G:Globs)(n base:Nat)(z:Oper×Nat):Prop:=dstOk n z.1.dst=true/\∀a J,stepO T G false (base+z.2) z.1 a J≠.bad

theorem front_facts {oy:Oper}{y:Nat}{B:List (Oper×Nat)}(hyh:hs.contains y=true)(hyf:wU oy=true)(hya:alts.contains y=false)(hyw:wt y=[]):∀(A:List (Oper×Nat)),(∀x∈A,swapB false alts ds hs wt x (oy,y)=true)->∀(W:Recs) (a:AAct) (J:AHeap),
  ADraw P T G n alts ds base hs wt Q (A++(oy,y)::B) W a J->dstOk n oy.dst=true/\wantA ds oy a≠none/\(wantA ds oy a=some true->∀J,stepO T G false (base+y) oy a J≠.bad):=by
 intro A
 induction A with
 |nil=>
  intro _ W a J h
  simp only[List.nil_append,ADraw,hyh,if_true] at h
  obtain⟨hd,h⟩:=h
  unfold HeapA at h
  refine⟨hd,fun hw=>by simp[hw] at h,fun hw J1 hb=>?_⟩
  simp only[hw,hya] at h
  rw[fresh_bad T G _ (base+y) a _ J hyf hb] at h
  exact h
 |cons x A ih=>
  intro hA W a J h
  have hxy:=hA x (List.mem_cons_self ..)
  have ih':=ih fun z hz=>hA z (List.mem_cons_of_mem _ hz)
  clear ih
  obtain⟨ox,x⟩:=x
  have h':ADraw P T G n alts ds base hs wt Q ((ox,x)::(A++(oy,y)::B)) W a J:=h
  clear h
  revert h'
  generalize A++(oy,y)::B=L1 at ih'
  intro h
  simp only[swapB,Bool.and_eq_true] at hxy
  obtain⟨⟨hDA,hDB⟩,hK⟩:=hxy
  have d1:∀t∈looks ds oy,ox.dst≠some t:=by
   intro t ht e
   rw[e] at hDA
   simp at hDA
   exact hDA.1 ht
  have cy:∀(v:AV),∀t∈looks ds oy,(a.put ox.dst v).get t=a.get t:=fun v t ht=>uK (d1 t ht)
  have back:∀(v:AV) (V:Recs) (J1:AHeap),ADraw P T G n alts ds base hs wt Q L1 V (a.put ox.dst v) J1->dstOk n oy.dst=true/\wantA ds oy a≠none/\(wantA ds oy a=some true->∀J,stepO T G false (base+y) oy a J≠.bad):=by
   intro v V J1 hh
   obtain⟨g1,g2,g3⟩:=ih' V _ J1 hh
   rw[yQ (cy v)] at g2 g3
   exact⟨g1,g2,fun hw J hb=>g3 hw J (by rw[kJ (T:=T) (G:=G) (cy v)];exact hb)⟩
  simp only[ADraw] at h
  by_cases hx:hs.contains x=true
  .simp only[hx,if_true] at h
   have h2:=h.2
   have hnc:tX ox=false:=by
    cases hc:tX ox with
    |false=>rfl
    |true=>
     exfalso
     have e1:wU ox=false:=by
      cases hf:wU ox with
      |false=>rfl
      |true=>unfold wU at hf;unfold tX at hc;split at hf<;>simp_all
     have e2:gQ ox=false:=by
      cases hf:gQ ox with
      |false=>rfl
      |true=>unfold gQ at hf;unfold tX at hc;split at hf<;>simp_all
     have e3:uL ox=false:=by simp[uL,hc]
     simp[e1,e2,e3] at hK
     exact hK (by simpa using hx)
   unfold HeapA at h2
   cases hw:wantA ds ox a with
   |none=>simp[hw] at h2
   |some b=>
   cases b with
   |false=>simp only[hw] at h2;exact back _ _ _ h2
   |true=>
    simp only[hw] at h2
    cases hst:stepO T G (alts.contains x) (base+x) ox a J with
    |bad=>rw[hst] at h2;exact h2.elim
    |val v J'=>rw[hst] at h2;exact back _ _ _ h2.2
    |call f args=>rw[call_isCall hst] at hnc;cases hnc
  .simp only[hx,if_false] at h
   obtain⟨_,v,h1,h2⟩:=h
   exact back v _ _ h2

theorem swapB_false {x y:Oper×Nat}(h:swapB cf alts ds hs wt x y=true)(hc:¬(cf=true/\qM ds y.1=true)):swapB false alts ds hs wt x y=true:=by
 cases cf with
 |false=>exact h
 |true=>
  have e:qM ds y.1=false:=by simpa using hc
  unfold swapB at h ⊢
  simpa [e] using h

theorem front (hQ:∀a a' J,Eqv a a'->Q a J->Q a' J){y:Oper×Nat}(hcl:cf=true->oD alts hs wt y=true->qM ds y.1=true->Fact P T G n base y){B:List (Oper×Nat)}(A:List (Oper×Nat))(hA:∀x∈A,swapB cf alts ds hs wt x y=true)(W:Recs)(a:AAct)(J:AHeap)
  (hfr:J.objs (base+y.2)=none) (h:ADraw P T G n alts ds base hs wt Q (A++y::B) W a J):ADraw P T G n alts ds base hs wt Q (y::(A++B)) W a J:=by
 cases hk:oD alts hs wt y with
 |false=>
  clear hfr
  induction A generalizing W a J with
  |nil=>exact h
  |cons x A ih=>
   have h1:=ADraw_tail (L':=y::(A++B)) (fun W a J hh=>ih (fun z hz=>hA z (List.mem_cons_of_mem _ hz)) W a J hh) h
   exact swap hQ (hA x (List.mem_cons_self ..)) hk h1
 |true=>
  obtain⟨oy,y⟩:=y
  have hk':=hk
  simp only[oD,Bool.and_eq_true,Bool.not_eq_true',List.isEmpty_iff] at hk'
  obtain⟨⟨⟨hyh,hyf⟩,hya⟩,hyw⟩:=hk'
  have facts:dstOk n oy.dst=true/\wantA ds oy a≠none/\(wantA ds oy a=some true->∀J,stepO T G false (base+y) oy a J≠.bad):=by
   by_cases hc:cf=true/\qM ds oy=true
   .obtain⟨f1,f2⟩:=hcl hc.1 hk hc.2
    have hc2:=hc.2
    simp only[qM,Bool.and_eq_true,Option.isNone_iff_eq_none] at hc2
    refine⟨f1,?_,fun _ J=>f2 a J⟩
    unfold wantA
    rw[hc2.2]
    simp
   .exact front_facts hyh hyf hya hyw A (fun x hx=>swapB_false (hA x hx) hc) W a J h
  obtain⟨hd,hw0,hb0⟩:=facts
  simp only[ADraw,hyh,if_true]
  refine⟨hd,?_⟩
  unfold HeapA
  cases hw:wantA ds oy a with
  |none=>exact(hw0 hw).elim
  |some b=>
  cases b with
  |false=>exact behind_skip hQ hyh A hA W a _ J hw (Eqv.refl' _) h
  |true=>
   simp only[hya]
   rcases fresh_step T G (base+y) a hyf with hb|⟨u,ob,hst⟩
   .exact(hb0 hw J (hb J)).elim
   .rw[hst]
    simp only
    refine⟨fun p _ hq=>by rw[hyw] at hq;simp at hq,?_⟩
    refine behind hQ hk A hA W _ a _ J hfr hw hst (Eqv.refl' _) (fun p hp=>?_) h
    rw[hya];exact hp

theorem draw_step (hT:TOk P T)(ops:Array Oper)(hds:ds=ops.toList.map (·.dst)){o:Oper}{i:Nat}(ho:ops[i]? =some o){L:List (Oper×Nat)}{W:Recs}{a:AAct}{J:AHeap}(h:ADraw P T G n alts ds base hs wt Q ((o,i)::L) W a J)
  {C:Phi} {w:World} {ca:Act} (hR:R G C J w) (hA:ARel C J w n a ca) (hid:base+i<J.next) (hfree:C.fl.objs (base+i)=none/\C.nm (base+i)=none) {Q':Exit->Act->World->Prop} {K:Act->World->Prop}
  (hK:∀W' a' J' C' ca' w',ADraw P T G n alts ds base hs wt Q L W' a' J'->R G C' J' w'->ARel C' J' w' n a' ca'->(Ext (·≠base+i) C J w C' J' w'\/Ext (·<J.next) C J w C' J' w')->K ca' w'):
  wpOp P ops Q' i K ca w:=by
 subst hds
 simp only[ADraw] at h
 obtain⟨hd,h⟩:=h
 have hd':∀x,o.dst=some x->x<n:=by intro x hx;rw[hx] at hd;simpa [dstOk] using hd

 have hwant:∀b,wantA (ops.toList.map (·.dst)) o a=some b->Region.wanted o (yielded ops ca.tmps)=b:=by
  intro b hb
  unfold wantA at hb
  unfold Region.wanted
  split at hb
  .rename_i hg;rw[hg];simp at hb ⊢;exact hb
  .rename_i j want hg
   rw[hg]
   split at hb
   .rename_i t ht
    split at hb
    .rename_i b' hb'
     simp at hb
     have h1:=hA.rel t
     rw[hb'] at h1
     have h2:ca.tmps[t]? =some (.bool b'):=by
      generalize hcv:ca.tmps.getD t undef=cv at h1
      cases h1
      exact getD_toB hcv
     have ht':(ops[j]?).bind (·.dst)=some t:=by
      rw[List.getElem?_map] at ht
      cases hj:ops.toList[j]? with
      |none=>simp[hj] at ht
      |some oj=>
       simp[hj] at ht
       have:ops[j]? =some oj:=by simpa using hj
       simp[this,ht]
     simp[yielded,ht',h2,hb]
    .rename_i hb'
     simp at hb
     subst hb
     have h1:=hA.rel t
     rw[hb'] at h1
     have hcv:=h1.und_eq
     have ht':(ops[j]?).bind (·.dst)=some t:=by
      rw[List.getElem?_map] at ht
      cases hj:ops.toList[j]? with
      |none=>simp[hj] at ht
      |some oj=>
       simp[hj] at ht
       have:ops[j]? =some oj:=by simpa using hj
       simp[this,ht]
     have hy:yielded ops ca.tmps j=none:=by
      simp only[yielded,ht',Option.bind_some]
      rw[Array.getD_eq_getD_getElem?] at hcv
      cases hq:ca.tmps[t]? with
      |none=>rfl
      |some x=>rw[hq] at hcv;simp only[Option.getD_some] at hcv;subst hcv;rfl
     simp[hy]
    .cases hb
   .cases hb
 unfold wpOp
 rw[ho]
 simp only
 by_cases hx:hs.contains i=true
 .simp only[hx,if_true] at h
  unfold HeapA at h
  cases hw:wantA (ops.toList.map (·.dst)) o a with
  |none=>simp[hw] at h
  |some b=>
  have hwb:=hwant b hw
  cases b with
  |false=>
   rw[hwb]
   simp only[hw,Bool.false_eq_true,if_false] at h ⊢
   exact hK _ _ _ C _ w h hR (hA.put hd' VRel.und) (.inl (Ext.refl _ _ _ _))
  |true=>
   rw[hwb,if_pos rfl]
   left
   simp only[hw] at h
   cases hst:stepO T G (alts.contains i) (base+i) o a J with
   |bad=>rw[hst] at h;exact h.elim
   |val v J'=>
    rw[hst] at h
    obtain⟨cv,w',hrun,C',h1,h2,h3⟩:=stepO_val (P:=P) hT hR hA hid hfree.1 hfree.2 hst
    have:=hK _ _ _ C' (ca.put o.dst cv) w' h.2 h1 ((hA.mono h2).put hd' h3) (.inl h2)
    unfold Oper.wp
    rcases hrun with hrun|⟨hrun,rfl⟩
    .rw[hrun];exact this
    .rw[hrun];exact this
   |call f args=>
    rw[hst] at h
    obtain⟨vs,hrun,hargs⟩:=dI (P:=P) hR hA hst h.1
    unfold Oper.wp
    rw[hrun]
    refine(h.2 C w vs hR hargs).mono ?_
    rintro e w' ⟨v,r,C',J',rfl,h1,h2,h3,h4⟩
    exact hK _ _ _ C' (ca.put o.dst v) w' h1.2 h2 ((hA.mono h3).put hd' h4) (.inr h3)
 .simp only[hx,if_false] at h
  obtain⟨v,hv,h⟩:=h
  unfold ValA at hv
  cases hw:wantA (ops.toList.map (·.dst)) o a with
  |none=>simp[hw] at hv
  |some b=>
  have hwb:=hwant b hw
  cases b with
  |false=>
   rw[hwb]
   simp only[hw,Bool.false_eq_true,if_false] at hv ⊢
   subst hv
   exact hK _ _ _ C _ w h hR (hA.put hd' VRel.und) (.inl (Ext.refl _ _ _ _))
  |true=>
   rw[hwb,if_pos rfl]
   left
   simp only[hw] at hv
   cases hst:stepO T G (alts.contains i) (base+i) o a empty with
   |bad=>rw[hst] at hv;exact hv.elim
   |val u J0=>
    rw[hst] at hv
    obtain⟨hf,rfl⟩:=hv
    have hst':=stepO_free hf hst J (base+i)
    obtain⟨cv,w',hrun,C',h1,h2,h3⟩:=stepO_val (P:=P) hT hR hA hid hfree.1 hfree.2 hst'
    have:=hK _ _ _ C' (ca.put o.dst cv) w' h h1 ((hA.mono h2).put hd' h3) (.inl h2)
    unfold Oper.wp
    rcases hrun with hrun|⟨hrun,rfl⟩
    .rw[hrun];exact this
    .rw[hrun];exact this
   |call f args=>
    rw[hst] at hv
    have hcall:stepO T G (alts.contains i) (base+i) o a J=.call f args:=by
     have key2:∀(z:Option AV),St.ofV z empty≠.call f args:=by intro z;cases z<;>simp[St.ofV]
     have key3:∀(z:Option (AV×AHeap)),St.ofO z≠.call f args:=by intro z;cases z<;>simp[St.ofO]
     unfold stepO at hst ⊢
     split at hst
     .exact absurd hst (key3 _)
     .exact absurd hst (key3 _)
     .exact absurd hst (key2 _)
     .exact absurd hst (key3 _)
     .split at hst<;>cases hst
     .exact absurd hst (key3 _)
     .exact absurd hst (key2 _)
     .split at hst
      .split at hst
       .exact absurd hst (key3 _)
       .split at hst
        .cases hst
        .exact absurd hst (key3 _)
      .cases hst
     .exact hst
     .split at hst
      .exact absurd hst (key3 _)
      .exact absurd hst (key2 _)
     .exact absurd hst (key2 _)
    obtain⟨vs,hrun,hargs⟩:=dI (P:=P) hR hA hcall (hv J).1
    unfold Oper.wp
    rw[hrun]
    refine((hv J).2 C w vs hR hargs).mono ?_
    rintro e w' ⟨cv,r,C',J',rfl,⟨rfl,rfl⟩,h2,h3,h4⟩
    exact hK _ _ _ C' (ca.put o.dst cv) w' h h2 ((hA.mono h3).put hd' h4) (.inr h3)

theorem wpOp_mono2 {ops:Array Oper}{Q Q':Exit->Act->World->Prop}{i:Nat}{K K':Act->World->Prop}{a:Act}{w:World}(hk:∀a w,K a w->K' a w)(hq:∀e a w,Q e a w->Q' e a w)(h:wpOp P ops Q i K a w):wpOp P ops Q' i K' a w:=by
 unfold wpOp at h ⊢
 split
 .rename_i ho;rw[ho] at h;exact hk _ _ h
 .rename_i o ho
  rw[ho] at h
  simp only at h
  split
  .rename_i hw
   rw[if_pos hw] at h
   exact h.imp (fun h=>upon_mono hk hq h) fun⟨h1,a,w,h2⟩=>⟨h1,a,w,hq _ _ _ h2⟩
  .rename_i hw
   rw[if_neg hw] at h
   exact hk _ _ h

theorem wpAny_mono {md:Region.Mode}{ops:Array Oper}{Q Q':Exit->Act->World->Prop}(hq:∀e a w,Q e a w->Q' e a w):∀{fuel:Nat} {listed:Array Bool} {a:Act} {w:World},wpAny P md ops Q fuel listed a w->wpAny P md ops Q' fuel listed a w:=by
 intro fuel
 induction fuel with
 |zero=>intro listed a w h;exact⟨h.1,hq _ _ _ h.2⟩
 |succ fuel ih=>
  intro listed a w h
  exact⟨fun hr=>hq _ _ _ (h.1 hr),fun i hi=>wpOp_mono2 (fun a w h=>ih h) hq (h.2 i hi)⟩

def preds (o:Oper):List Nat:=(o.after.toList.filter (Region.binds .any)).map (·.on)

def tp (ops:Array Oper):Nat->Nat->Nat->Bool
 |0,_,_=>false
 |k+1,x,i=>match ops[i]? with
  |some o=>(preds o).any fun p=>p==x||tp ops k x p
  |none=>false

def okPair (cf:Bool)(alts:List Nat)(ops:Array Oper)(hs:List Nat)(wt:Nat->List Nat)(x y:Oper×Nat):Bool:=
 !(preds x.1).contains y.2&&(tp ops ops.size x.2 y.2||swapB cf alts (ops.toList.map (·.dst)) hs wt x y)

theorem ready_iff (ops:Array Oper)(listed:Array Bool)(i:Nat):i∈Region.ready .any ops listed<->i<ops.size/\listed.getD i true=false/\∃o,ops[i]? =some o/\∀p∈preds o,listed.getD p false=true:=by
 unfold Region.ready
 simp only[List.mem_filter,List.mem_range,Bool.and_eq_true,Bool.not_eq_true']
 refine and_congr_right fun hi=>and_congr_right fun _=>?_
 have ho:ops[i]? =some ops[i]:=by simp[hi]
 rw[ho]
 simp only[Option.map_some,Option.getD_some,Option.some.injEq,exists_eq_left',preds,List.mem_map,List.mem_filter,Array.mem_toList_iff,Array.all_eq_true_iff_forall_mem]
 constructor
 .rintro h p ⟨e,⟨h1,h2⟩,rfl⟩
  have:=h e h1
  simpa [h2] using this
 .intro h e he
  by_cases hb:Region.binds .any e=true
  .simp[hb,h e.on ⟨e,⟨he,hb⟩,rfl⟩]
  .simp[hb]

theorem tp_listed (ops:Array Oper)(listed:Array Bool)(hcl:∀j o,ops[j]? =some o->listed.getD j false=true->∀p∈preds o,listed.getD p false=true):∀(k x i:Nat) (o:Oper),ops[i]? =some o->(∀p∈preds o,listed.getD p false=true)->
  tp ops k x i=true->listed.getD x false=true:=by
 intro k
 induction k with
 |zero=>intro x i o _ _ h;cases h
 |succ k ih=>
  intro x i o ho hp h
  simp only[tp,ho,List.any_eq_true,Bool.or_eq_true,beq_iff_eq] at h
  obtain⟨p,h1,h2⟩:=h
  rcases h2 with rfl|h2
  .exact hp p h1
  .cases hop:ops[p]? with
   |none=>
    exfalso
    cases k with
    |zero=>simp[tp] at h2
    |succ k=>simp[tp,hop] at h2
   |some op=>exact ih x p op hop (hcl p op hop (hp p h1)) h2

theorem draw_any (hT:TOk P T)(ops:Array Oper)(hQ:∀a a' J,Eqv a a'->Q a J->Q a' J):∀(L:List (Oper×Nat)) (listed:Array Bool) (W:Recs) (a:AAct) (J:AHeap),(cf=true->∀z∈L,oD alts hs wt z=true->qM (ops.toList.map (·.dst)) z.1=true->Fact P T G n base z)->listed.size=ops.size->
  (∀x∈L,ops[x.2]? =some x.1)->(∀i,i<ops.size->(listed.getD i true=false<->i∈L.map (·.2)))->(L.map (·.2)).Nodup->L.Pairwise (fun x y=>okPair cf alts ops hs wt x y=true)->(∀x∈L,∀p∈preds x.1,p<ops.size)->
  (∀j o,ops[j]? =some o->listed.getD j false=true->∀p∈preds o,listed.getD p false=true)->(∀x∈L,∀p∈preds x.1,p≠x.2)->
  ADraw P T G n alts (ops.toList.map (·.dst)) base hs wt Q L W a J->∀C w ca,R G C J w->ARel C J w n a ca->base+ops.size<=J.next->(∀x∈L,C.fl.objs (base+x.2)=none/\C.nm (base+x.2)=none)->
  wpAny P .any ops (RegPost G n (·<base) C J w Q) L.length listed ca w:=by
 intro L
 generalize hm:L.length=m
 induction m generalizing L with
 |zero=>
  intro listed W a J hclo hls hmem hL hnd hpw hpr hcl hne h C w ca hR hA hn hF
  have:L=[]:=List.eq_nil_of_length_eq_zero hm
  subst this
  refine⟨?_,rfl,C,a,J,h,hR,hA,Ext.refl _ _ _ _⟩
  rw[List.eq_nil_iff_forall_not_mem]
  intro i hi
  obtain⟨h1,h2,_⟩:=(ready_iff ops listed i).1 hi
  have:=(hL i h1).1 h2
  simp at this
 |succ m ih=>
  intro listed W a J hclo hls hmem hL hnd hpw hpr hcl hne h C w ca hR hA hn hF
  have lsz:∀j,j<ops.size->listed.getD j true=listed.getD j false:=by
   intro j hj
   have:j<listed.size:=by omega
   simp[this]
  refine⟨fun hr=>?_,fun i hi=>?_⟩
  .-- the first of L is ready
   exfalso
   cases L with
   |nil=>simp at hm
   |cons x L=>
    have hx:=hmem x (List.mem_cons_self ..)
    have hxi:x.2<ops.size:=(Array.getElem?_eq_some_iff.1 hx).1
    have:x.2∈Region.ready .any ops listed:=by
     refine(ready_iff ops listed x.2).2 ⟨hxi,(hL x.2 hxi).2 (by simp),x.1,hx,fun p hp=>?_⟩
     have hps:=hpr x (List.mem_cons_self ..) p hp
     by_cases hpl:listed.getD p true=false
     .exfalso
      have:=(hL p hps).1 hpl
      simp only[List.map_cons,List.mem_cons,List.mem_map] at this
      rcases this with e|⟨y,hy,e⟩
      .exact hne x (List.mem_cons_self ..) p hp e
      .have h2:=(List.pairwise_cons.1 hpw).1 y hy
       simp only[okPair,Bool.and_eq_true,Bool.not_eq_true'] at h2
       have h3:=h2.1
       rw[e] at h3
       simp[hp] at h3
     .rw[<- lsz p hps];simpa using hpl
    rw[hr] at this
    simp at this
  .obtain⟨hi1,hi2,o,ho,hip⟩:=(ready_iff ops listed i).1 hi
   have hiL:=(hL i hi1).1 hi2
   obtain⟨y,hy,hy2⟩:=List.mem_map.1 hiL
   have hyo:y=(o,i):=by
    have:=hmem y hy
    rw[hy2,ho] at this
    obtain⟨y1,y2⟩:=y
    simp at hy2 this
    rw[hy2,this]
   subst hyo
   obtain⟨A,B,rfl⟩:=List.append_of_mem hy
   have hsw:∀x∈A,swapB cf alts (ops.toList.map (·.dst)) hs wt x (o,i)=true:=by
    intro x hx
    have h1:=(List.pairwise_append.1 hpw).2.2 x hx (o,i) (List.mem_cons_self ..)
    simp only[okPair,Bool.and_eq_true,Bool.or_eq_true] at h1
    rcases h1.2 with h2|h2
    .exfalso
     have h3:=tp_listed ops listed hcl _ _ _ o ho hip h2
     have hxm:x∈A++(o,i)::B:=List.mem_append_left _ hx
     have hxs:x.2<ops.size:=(Array.getElem?_eq_some_iff.1 (hmem x hxm)).1
     have h4:=(hL x.2 hxs).2 (List.mem_map_of_mem hxm)
     rw[lsz _ hxs] at h4
     rw[h4] at h3
     cases h3
    .exact h2
   have hfr:=front hQ (fun hc=>hclo hc (o,i) hy) A hsw W a J (hR.lift.gone (hF (o,i) hy).1) h
   have hsub:∀x∈A++B,x∈A++(o,i)::B:=by
    intro x hx
    rcases List.mem_append.1 hx with h1|h1
    .exact List.mem_append_left _ h1
    .exact List.mem_append_right _ (List.mem_cons_of_mem _ h1)
   have hni:∀x∈A++B,x.2≠i:=by
    intro x hx e
    simp only[List.map_append,List.map_cons] at hnd
    have h1:=List.nodup_append.1 hnd
    have h2:=List.nodup_cons.1 h1.2.1
    rcases List.mem_append.1 hx with h3|h3
    .exact(h1.2.2 x.2 (List.mem_map_of_mem h3) i (by simp)) e
    .exact h2.1 (by rw[<- e];exact List.mem_map_of_mem h3)
   refine draw_step hT ops rfl ho hfr hR hA (by omega) (hF (o,i) hy) ?_
   intro W' a' J' C' ca' w' h1 h2 h3 h4
   have hget:∀(j:Nat) (d:Bool),(listed.setIfInBounds i true).getD j d=if j=i/\i<listed.size then true else listed.getD j d:=by
    intro j d
    rw[Array.getD_eq_getD_getElem?,Array.getElem?_setIfInBounds]
    by_cases e:i=j
    .subst e
     by_cases e2:i<listed.size<;>simp[e2]
    .simp[e,Ne.symm e]
   have hi3:i<listed.size:=by omega
   have hrest:=ih (A++B) (by simp at hm ⊢;omega) (listed.setIfInBounds i true) W' a' J' (fun hc z hz=>hclo hc z (hsub z hz)) (by simpa using hls) (fun x hx=>hmem x (hsub x hx)) (fun j hj=>by
     rw[hget]
     by_cases e:j=i
     .subst e
      simp only[hi3,and_true,if_true]
      constructor
      .intro hh;cases hh
      .intro hh
       obtain⟨x,hx,ex⟩:=List.mem_map.1 hh
       exact absurd ex (hni x hx)
     .rw[if_neg (by intro hh;exact e hh.1),hL j hj]
      simp only[List.map_append,List.map_cons,List.mem_append,List.mem_cons]
      constructor
      .rintro(hh|hh|hh)
       .exact .inl hh
       .exact absurd hh e
       .exact .inr hh
      .rintro(hh|hh)
       .exact .inl hh
       .exact .inr (.inr hh))
    (by
     simp only[List.map_append,List.map_cons] at hnd ⊢
     have h1:=List.nodup_append.1 hnd
     refine List.nodup_append.2 ⟨h1.1,(List.nodup_cons.1 h1.2.1).2,fun x hx y hy=>h1.2.2 x hx y (List.mem_cons_of_mem _ hy)⟩)
    (by
     have h1:=List.pairwise_append.1 hpw
     exact List.pairwise_append.2 ⟨h1.1,(List.pairwise_cons.1 h1.2.1).2,fun x hx y hy=>h1.2.2 x hx y (List.mem_cons_of_mem _ hy)⟩)
    (fun x hx=>hpr x (hsub x hx))
    (fun j oj hj hjl p hp=>by
     rw[hget] at hjl ⊢
     by_cases e:j=i
     .subst e
      rw[ho] at hj
      cases hj
      split
      .rfl
      .exact hip p hp
     .rw[if_neg (by intro hh;exact e hh.1)] at hjl
      split
      .rfl
      .exact hcl j oj hj hjl p hp)
    (fun x hx=>hne x (hsub x hx)) h1 C' w' ca' h2 h3
    (by rcases h4 with h4|h4<;>exact Nat.le_trans hn h4.nx)
    (fun x hx=>by
     have h5:=hF x (hsub x hx)
     have h6:=hni x hx
     have hxs:x.2<ops.size:=(Array.getElem?_eq_some_iff.1 (hmem x (hsub x hx))).1
     rcases h4 with h4|h4
     .have h7:=h4.base.keep (base+x.2) (by show base+x.2≠base+i;omega)
      exact⟨h7.2 h5.1,h7.1.trans h5.2⟩
     .have h7:=h4.base.keep (base+x.2) (by show base+x.2<J.next;omega)
      exact⟨h7.2 h5.1,h7.1.trans h5.2⟩)
   refine wpAny_mono ?_ hrest
   intro e ca'' w'' hq
   rcases h4 with h4|h4
   .exact hq.le (h4.le (M:=(·<base)) fun o' ho'=>by show o'≠base+i;have:o'<base:=ho';omega) fun o' ho'=>ho'
   .exact hq.le (h4.le (M:=(·<base)) fun o' ho'=>by show o'<J.next;have:o'<base:=ho';omega) fun o' ho'=>ho'

end Go.Abs
