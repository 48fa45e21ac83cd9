/- The rule for a region that draws its order. -/
import Derived.Test.YtolmjhgondilhaaGreatNAbs18
set_option linter.unusedSimpArgs false
set_option linter.unusedVariables false
namespace Go.Abs
open Go Go.RowKit

variable {P:Program} {T:Types} {G:Globs} {n N:Nat} {Q:Ex->AAct->AHeap->Prop} {K:AAct->AHeap->Prop} {a:AAct} {J:AHeap}

def jD (ops:Array Oper)(ord:List Nat):List (Oper×Nat):=ord.map fun i=>(ops.getD i default,i)

def pairsB {O:Type}(r:O->O->Bool):List O->Bool
 |[]=>true
 |x::l=>l.all (r x)&&pairsB r l

theorem mM {O:Type}{r:O->O->Bool}:∀{l:List O},pairsB r l=true->l.Pairwise (fun x y=>r x y=true)
 |[],_=>List.Pairwise.nil
 |x::l,h=>by
  simp only[pairsB,Bool.and_eq_true,List.all_eq_true] at h
  exact List.pairwise_cons.2 ⟨h.1,mM h.2⟩

def dX (cf:Bool)(alts:List Nat)(ops:Array Oper)(hs:List Nat)(wt:Nat->List Nat)(ord:List Nat):Bool:=
 ord.length==ops.size&&ord.all (fun i=>decide (i<ops.size))&&pairsB (fun i j=>i !=j) ord&&pairsB (okPair cf alts ops hs wt) (jD ops ord)&&
  ((jD ops ord).all fun x=>(preds x.1).all fun p=>decide (p<ops.size)&&p !=x.2)&&(List.range ops.size).all fun i=>ord.contains i

def gM (alts:List Nat)(ops:Array Oper)(hs:List Nat)(wt:Nat->List Nat)(ord:List Nat):Bool:=dX false alts ops hs wt ord

def notBad:St->Bool
 |.bad=>false
 |_=>true
def closedB (T:Types)(G:Globs)(n:Nat)(alts hs:List Nat)(wt:Nat->List Nat)(ops:Array Oper)(ord:List Nat):Bool:=
 (jD ops ord).all fun z=> !(oD alts hs wt z&&qM (ops.toList.map (·.dst)) z.1)||(dstOk n z.1.dst&&notBad (stepO T G false 0 z.1 [] ⟨fun _=>none,0⟩))

theorem closedB_sound {alts hs:List Nat}{wt:Nat->List Nat}{ops:Array Oper}{ord:List Nat}{base:Nat}(h:closedB T G n alts hs wt ops ord=true):
  ∀z∈jD ops ord,oD alts hs wt z=true->qM (ops.toList.map (·.dst)) z.1=true->Fact P T G n base z:=by
 intro z hz hk hc
 have h1:=List.all_eq_true.1 h z hz
 rw[hk,hc] at h1
 simp only[Bool.and_self,Bool.not_true,Bool.false_or,Bool.and_eq_true] at h1
 refine⟨h1.1,fun a J hb=>?_⟩
 have hl:∀t∈looks (ops.toList.map (·.dst)) z.1,AAct.get a t=AAct.get [] t:=by
  simp only[qM,Bool.and_eq_true,List.isEmpty_iff] at hc
  rw[hc.1];intro t ht;cases ht
 have hf:wU z.1=true:=by simp only[oD,Bool.and_eq_true] at hk;exact hk.1.1.2
 have h2:=fresh_bad T G (base+z.2) 0 a J ⟨fun _=>none,0⟩ hf hb
 rw[kJ (T:=T) (G:=G) hl] at h2
 rw[h2] at h1
 simp[notBad] at h1

theorem dF (cf:Bool)(hT:TOk P T)(hm:P.follows .mixedOrders=true)(alts hs:List Nat)(wt:Nat->List Nat)(ord:List Nat){id:Nat}{ops:Array Oper}(hc:dX cf alts ops hs wt ord=true)
  (hcl:cf=true->closedB T G n alts hs wt ops ord=true)
  (h:ADraw P T G n alts (ops.toList.map (·.dst)) J.next hs wt (fun a J=>∃a0,Eqv a0 a/\K a0 J) (jD ops ord) [] a (J.bump ops.size)):AWP P G n N (.region id ops true) (thenQ K Q) a J:=by
 simp only[dX,Bool.and_eq_true,beq_iff_eq,List.all_eq_true,decide_eq_true_eq] at hc
 obtain⟨⟨⟨⟨⟨c1,c2⟩,c3⟩,c4⟩,c5⟩,c6⟩:=hc
 have hnd:ord.Nodup:=(mM c3).imp fun h=>by simpa using h
 have hmap:(jD ops ord).map (·.2)=ord:=by simp[jD,Function.comp_def]
 intro hN C w ca hR hA
 refine wp_region_any hm ?_
 obtain⟨h0,h00⟩:=hR.drew (fun _=>True) (w.drawn+1)
 have hA0:=hA.mono h00
 obtain⟨h1,h2,h3⟩:=h0.bump ops.size (fun _=>True)
 have hA1:=hA0.mono h2
 have key:=draw_any (Q:=fun a J=>∃a0,Eqv a0 a/\K a0 J) hT ops (fun a a' J e ⟨a0,g1,g2⟩=>⟨a0,fun t=>(g1 t).trans (e t),g2⟩) (jD ops ord) (Array.replicate ops.size false) [] a (J.bump ops.size) (fun hcf=>closedB_sound (hcl hcf)) (by simp)
  (fun x hx=>by
   obtain⟨i,hi,rfl⟩:=List.mem_map.1 hx
   have:=c2 i hi
   simp[this])
  (fun i hi=>by
   rw[hmap]
   constructor
   .intro _
    simpa using c6 i (List.mem_range.2 hi)
   .intro _
    simp[hi])
  (by rw[hmap];exact hnd) (mM c4) (fun x hx p hp=>by have:=c5 x hx p hp;exact this.1) (fun j o ho hj=>by
   exfalso
   have hj':j<ops.size:=(Array.getElem?_eq_some_iff.1 ho).1
   rw[Array.getD_eq_getD_getElem?,Array.getElem?_replicate,if_pos hj'] at hj
   simp at hj)
  (fun x hx p hp=>by have:=c5 x hx p hp;simpa using this.2) h _ {w with drawn:=w.drawn+1} ca h1 hA1 (by simp[AHeap.bump])
  (fun x hx=>by
   obtain⟨i,hi,rfl⟩:=List.mem_map.1 hx
   exact h3 i (Nat.zero_le _) (c2 i hi))
 have hlen:(jD ops ord).length=ops.size:=by simp[jD,c1]
 rw[hlen] at key
 refine wpAny_mono ?_ key
 rintro e ca' w' ⟨rfl,C',a',J',⟨a0,g1,g2⟩,g3,g4,g5⟩
 refine⟨.normal,C',a0,J',rfl,g2,g3,⟨g4.size,g4.defers,fun t=>by rw[g1 t];exact g4.rel t⟩,?_⟩
 exact(h00.trans h2).le (fun _ _=>trivial)|>.trans (g5.le fun o ho=>Nat.lt_of_lt_of_le ho hN)

theorem cK (hT:TOk P T)(hm:P.follows .mixedOrders=true)(alts hs:List Nat)(wt:Nat->List Nat)(ord:List Nat){id:Nat}{ops:Array Oper}(hc:gM alts ops hs wt ord=true)
  (h:ADraw P T G n alts (ops.toList.map (·.dst)) J.next hs wt (fun a J=>∃a0,Eqv a0 a/\K a0 J) (jD ops ord) [] a (J.bump ops.size)):AWP P G n N (.region id ops true) (thenQ K Q) a J:=
 dF false hT hm alts hs wt ord hc (fun h=>by cases h) h

def ADC (P:Program)(T:Types)(G:Globs)(n:Nat)(alts:List Nat)(ds:List (Option Nat))(base:Nat)(hs:List Nat)(Q:AAct->AHeap->Prop):List (Oper×Nat)->AAct->AHeap->Prop
 |[],a,J=>Q a J
 |(o,i)::l,a,J=>dstOk n o.dst=true/\
  match o.guard with
  |none=>
   if hs.contains i then
    (match stepO T G (alts.contains i) (base+i) o a J with
     |.val v J'=>ADC P T G n alts ds base hs Q l (a.put o.dst v) J'
     |.call f args=>ACalls P G f args J fun r J'=>ADC P T G n alts ds base hs Q l (a.put o.dst r) J'
     |.bad=>False)
   else
    (match stepO T G (alts.contains i) (base+i) o a empty with
     |.val v _=>yD (alts.contains i) o=true/\ADC P T G n alts ds base hs Q l (a.put o.dst v) J
     |.call f args=>∃r,APure P G f args r/\ADC P T G n alts ds base hs Q l (a.put o.dst r) J
     |.bad=>False)
  |some (j,want)=>
   match ds[j]? with
   |some (some t)=>(match a.get t with
    |.bool b=>
     (b=want->
      if hs.contains i then
       (match stepO T G (alts.contains i) (base+i) o ((t,.bool want)::a) J with
        |.val v J'=>ADC P T G n alts ds base hs Q l (AAct.put ((t,.bool want)::a) o.dst v) J'
        |.call f args=>ACalls P G f args J fun r J'=>ADC P T G n alts ds base hs Q l (AAct.put ((t,.bool want)::a) o.dst r) J'
        |.bad=>False)
      else
       (match stepO T G (alts.contains i) (base+i) o ((t,.bool want)::a) empty with
        |.val v _=>yD (alts.contains i) o=true/\ADC P T G n alts ds base hs Q l (AAct.put ((t,.bool want)::a) o.dst v) J
        |.call f args=>∃r,APure P G f args r/\ADC P T G n alts ds base hs Q l (AAct.put ((t,.bool want)::a) o.dst r) J
        |.bad=>False))/\
     (b= !want->ADC P T G n alts ds base hs Q l (AAct.put ((t,.bool (!want))::a) o.dst (.tup [])) J)
    |.tup []=>ADC P T G n alts ds base hs Q l (a.put o.dst (.tup [])) J
    |_=>False)
   |_=>False

theorem Eqv.refl (a:AAct):Eqv a a:=fun _=>rfl
theorem Eqv.symm {a b:AAct}(h:Eqv a b):Eqv b a:=fun t=>(h t).symm
theorem Eqv.trans {a b c:AAct}(h:Eqv a b)(k:Eqv b c):Eqv a c:=fun t=>(h t).trans (k t)

theorem ADC_sound {alts:List Nat}{ds:List (Option Nat)}{base:Nat}{hs:List Nat}:∀(l:List (Oper×Nat)) (W:Recs) (a a':AAct) (J:AHeap),Eqv a a'->ADC P T G n alts ds base hs K l a J->
  ADraw P T G n alts ds base hs (fun _=>[]) (fun a J=>∃a0,Eqv a0 a/\K a0 J) l W a' J:=by
 intro l
 induction l with
 |nil=>intro W a a' J he h;exact⟨a,he,h⟩
 |cons x l ih=>
  obtain⟨o,i⟩:=x
  intro W a a' J he h
  simp only[ADC] at h
  obtain⟨hd,h⟩:=h
  simp only[ADraw]
  refine⟨hd,?_⟩
  have run:∀(b:AAct),Eqv b a'->wantA ds o a'=some true->
    (if hs.contains i then
     (match stepO T G (alts.contains i) (base+i) o b J with
      |.val v J'=>ADC P T G n alts ds base hs K l (b.put o.dst v) J'
      |.call f args=>ACalls P G f args J fun r J'=>ADC P T G n alts ds base hs K l (b.put o.dst r) J'
      |.bad=>False)
    else
     (match stepO T G (alts.contains i) (base+i) o b empty with
      |.val v _=>yD (alts.contains i) o=true/\ADC P T G n alts ds base hs K l (b.put o.dst v) J
      |.call f args=>∃r,APure P G f args r/\ADC P T G n alts ds base hs K l (b.put o.dst r) J
      |.bad=>False))->
    (if hs.contains i=true then HeapA P T G alts ds base (fun _=>[]) o i W a' J (ADraw P T G n alts ds base hs (fun _=>[]) (fun a J=>∃a0,Eqv a0 a/\K a0 J) l)
    else ∃v,ValA P T G alts ds base o i a' v/\ADraw P T G n alts ds base hs (fun _=>[]) (fun a J=>∃a0,Eqv a0 a/\K a0 J) l W (a'.put o.dst v) J):=by
   intro b hb hw h
   by_cases hx:hs.contains i=true
   .rw[if_pos hx] at h ⊢
    unfold HeapA
    rw[hw]
    simp only
    rw[<- kJ (T:=T) (G:=G) (ds:=ds) (a:=b) (a':=a') (fun t _=>hb t)]
    split at h
    .rename_i hst;rw[hst];exact⟨fun p _ hp=>by simp at hp,ih _ _ _ _ (hb.put _ _) h⟩
    .rename_i hst;rw[hst];exact h.mono fun r J' hh=>⟨fun p _ hp=>by simp at hp,ih _ _ _ _ (hb.put _ _) hh⟩
    .exact h.elim
   .rw[if_neg hx] at h ⊢
    unfold ValA
    rw[hw]
    simp only
    rw[<- kJ (T:=T) (G:=G) (ds:=ds) (a:=b) (a':=a') (fun t _=>hb t)]
    split at h
    .rename_i hst;rw[hst];exact⟨_,⟨h.1,rfl⟩,ih _ _ _ _ (hb.put _ _) h.2⟩
    .rename_i hst;rw[hst]
     obtain⟨r,h1,h2⟩:=h
     exact⟨r,h1,ih _ _ _ _ (hb.put _ _) h2⟩
    .exact h.elim
  have skip:∀(b:AAct),Eqv b a'->wantA ds o a'=some false->ADC P T G n alts ds base hs K l (b.put o.dst (.tup [])) J->
    (if hs.contains i=true then HeapA P T G alts ds base (fun _=>[]) o i W a' J (ADraw P T G n alts ds base hs (fun _=>[]) (fun a J=>∃a0,Eqv a0 a/\K a0 J) l)
    else ∃v,ValA P T G alts ds base o i a' v/\ADraw P T G n alts ds base hs (fun _=>[]) (fun a J=>∃a0,Eqv a0 a/\K a0 J) l W (a'.put o.dst v) J):=by
   intro b hb hw h
   by_cases hx:hs.contains i=true
   .rw[if_pos hx]
    unfold HeapA
    rw[hw]
    exact ih _ _ _ _ (hb.put _ _) h
   .rw[if_neg hx]
    unfold ValA
    rw[hw]
    exact⟨.tup [],rfl,ih _ _ _ _ (hb.put _ _) h⟩
  cases hg:o.guard with
  |none=>
   simp only[hg] at h
   exact run a he (by simp[wantA,hg]) h
  |some jw=>
   obtain⟨j,want⟩:=jw
   simp only[hg] at h
   split at h
   .rename_i t ht
    split at h
    .rename_i b hb
     have hb':a'.get t=.bool b:=by rw[<- he t];exact hb
     have hw:wantA ds o a'=some (b==want):=by simp[wantA,hg,ht,hb']
     have hput:∀b',b=b'->Eqv ((t,.bool b')::a) a':=by
      rintro b' rfl k
      simp only[AAct.get]
      split
      .rename_i e;subst e;exact hb'.symm
      .exact he k
     by_cases e:b=want
     .subst e
      exact run _ (hput b rfl) (by simpa using hw) (h.1 rfl)
     .have e':b= !want:=by cases b<;>cases want<;>simp_all
      exact skip _ (hput _ e') (by rw[hw];simp[e]) (h.2 e')
    .rename_i hb
     have hb':a'.get t=.tup []:=by rw[<- he t];exact hb
     exact skip _ he (by simp[wantA,hg,ht,hb']) h
    .exact h.elim
   .exact h.elim

theorem AWP_draw (hT:TOk P T)(hm:P.follows .mixedOrders=true)(alts hs ord:List Nat){id:Nat}{ops:Array Oper}(hc:gM alts ops hs (fun _=>[]) ord=true)
  (h:ADC P T G n alts (ops.toList.map (·.dst)) J.next hs K (jD ops ord) a (J.bump ops.size)):AWP P G n N (.region id ops true) (thenQ K Q) a J:=
 cK hT hm alts hs (fun _=>[]) ord hc (ADC_sound _ _ _ _ _ (Eqv.refl a) h)

end Go.Abs

/- Lengths that every slice has; a read-only call at values that are owned. -/
set_option linter.unusedSimpArgs false
set_option linter.unusedVariables false
namespace Go.Abs
open Go Go.RowKit

def AHeap.Sub (U J:AHeap):Prop:=U.next=J.next/\∀o,U.objs o=J.objs o\/U.objs o=none

theorem AHeap.Sub.refl (J:AHeap):AHeap.Sub J J:=⟨rfl,fun _=>.inl rfl⟩

theorem AHeap.Sub.cut {U J:AHeap}(h:AHeap.Sub U J):∃D,U=J.cut D:=by
 refine⟨fun o=>(U.objs o).isNone,?_⟩
 obtain⟨h1,h2⟩:=h
 cases U with
 |mk objs next=>
  simp only[AHeap.cut] at h1 h2 ⊢
  subst h1
  congr 1
  funext o
  split
  .rename_i h
   simpa using h
  .rename_i h
   rcases h2 o with k|k
   .exact k
   .rw[k] at h;exact absurd rfl h

section
variable {P:Program} {G:Globs} {n N:Nat} {Q:Ex->AAct->AHeap->Prop} {a:AAct} {J U:AHeap} {c:Code}

end

end Go.Abs

/- Regions that draw their order and in which what is read is watched. -/
set_option linter.unusedSimpArgs false
set_option linter.unusedVariables false
namespace Go.Abs
open Go Go.RowKit

variable {P:Program} {T:Types} {G:Globs} {n N:Nat} {Q:Ex->AAct->AHeap->Prop} {K:AAct->AHeap->Prop} {a:AAct} {J:AHeap}

def Chk (wt:Nat->List Nat)(W:Recs)(i:Nat)(J J':AHeap):Prop:=∀p∈W,p.1∈wt i->pZ (p.2 J) (p.2 J')

def ADCw (P:Program)(T:Types)(G:Globs)(n:Nat)(alts:List Nat)(ds:List (Option Nat))(base:Nat)(hs:List Nat)(wt:Nat->List Nat)(Q:AAct->AHeap->Prop):List (Oper×Nat)->Recs->AAct->AHeap->Prop
 |[],_,a,J=>Q a J
 |(o,i)::l,W,a,J=>dstOk n o.dst=true/\
  match o.guard with
  |none=>
   if hs.contains i then
    (match stepO T G (alts.contains i) (base+i) o a J with
     |.val v J'=>Chk wt W i J J'/\ADCw P T G n alts ds base hs wt Q l ((i,fun J=>stepO T G (alts.contains i) (base+i) o a J)::W) (a.put o.dst v) J'
     |.call f args=>ACalls P G f args J fun r J'=>Chk wt W i J J'/\ADCw P T G n alts ds base hs wt Q l W (a.put o.dst r) J'
     |.bad=>False)
   else
    (match stepO T G (alts.contains i) (base+i) o a empty with
     |.val v _=>yD (alts.contains i) o=true/\ADCw P T G n alts ds base hs wt Q l W (a.put o.dst v) J
     |.call f args=>∃r,APure P G f args r/\ADCw P T G n alts ds base hs wt Q l W (a.put o.dst r) J
     |.bad=>False)
  |some (j,want)=>
   match ds[j]? with
   |some (some t)=>(match a.get t with
    |.bool b=>
     (b=want->
      if hs.contains i then
       (match stepO T G (alts.contains i) (base+i) o ((t,.bool want)::a) J with
        |.val v J'=>Chk wt W i J J'/\ADCw P T G n alts ds base hs wt Q l ((i,fun J=>stepO T G (alts.contains i) (base+i) o ((t,.bool want)::a) J)::W) (AAct.put ((t,.bool want)::a) o.dst v) J'
        |.call f args=>ACalls P G f args J fun r J'=>Chk wt W i J J'/\ADCw P T G n alts ds base hs wt Q l W (AAct.put ((t,.bool want)::a) o.dst r) J'
        |.bad=>False)
      else
       (match stepO T G (alts.contains i) (base+i) o ((t,.bool want)::a) empty with
        |.val v _=>yD (alts.contains i) o=true/\ADCw P T G n alts ds base hs wt Q l W (AAct.put ((t,.bool want)::a) o.dst v) J
        |.call f args=>∃r,APure P G f args r/\ADCw P T G n alts ds base hs wt Q l W (AAct.put ((t,.bool want)::a) o.dst r) J
        |.bad=>False))/\
     (b= !want->ADCw P T G n alts ds base hs wt Q l W (AAct.put ((t,.bool (!want))::a) o.dst (.tup [])) J)
    |.tup []=>ADCw P T G n alts ds base hs wt Q l W (a.put o.dst (.tup [])) J
    |_=>False)
   |_=>False

theorem ADCw_sound {alts:List Nat}{ds:List (Option Nat)}{base:Nat}{hs:List Nat}{wt:Nat->List Nat}:∀(l:List (Oper×Nat)) (W:Recs) (a a':AAct) (J:AHeap),Eqv a a'->ADCw P T G n alts ds base hs wt K l W a J->
  ADraw P T G n alts ds base hs wt (fun a J=>∃a0,Eqv a0 a/\K a0 J) l W a' J:=by
 intro l
 induction l with
 |nil=>intro W a a' J he h;exact⟨a,he,h⟩
 |cons x l ih=>
  obtain⟨o,i⟩:=x
  intro W a a' J he h
  simp only[ADCw] at h
  obtain⟨hd,h⟩:=h
  simp only[ADraw]
  refine⟨hd,?_⟩
  have run:∀(b:AAct),Eqv b a'->wantA ds o a'=some true->
    (if hs.contains i then
     (match stepO T G (alts.contains i) (base+i) o b J with
      |.val v J'=>Chk wt W i J J'/\ADCw P T G n alts ds base hs wt K l ((i,fun J=>stepO T G (alts.contains i) (base+i) o b J)::W) (b.put o.dst v) J'
      |.call f args=>ACalls P G f args J fun r J'=>Chk wt W i J J'/\ADCw P T G n alts ds base hs wt K l W (b.put o.dst r) J'
      |.bad=>False)
    else
     (match stepO T G (alts.contains i) (base+i) o b empty with
      |.val v _=>yD (alts.contains i) o=true/\ADCw P T G n alts ds base hs wt K l W (b.put o.dst v) J
      |.call f args=>∃r,APure P G f args r/\ADCw P T G n alts ds base hs wt K l W (b.put o.dst r) J
      |.bad=>False))->
    (if hs.contains i=true then HeapA P T G alts ds base wt o i W a' J (ADraw P T G n alts ds base hs wt (fun a J=>∃a0,Eqv a0 a/\K a0 J) l)
    else ∃v,ValA P T G alts ds base o i a' v/\ADraw P T G n alts ds base hs wt (fun a J=>∃a0,Eqv a0 a/\K a0 J) l W (a'.put o.dst v) J):=by
   intro b hb hw h
   by_cases hx:hs.contains i=true
   .rw[if_pos hx] at h ⊢
    unfold HeapA
    rw[hw]
    simp only
    rw[<- kJ (T:=T) (G:=G) (ds:=ds) (a:=b) (a':=a') (fun t _=>hb t)]
    split at h
    .rename_i hst;rw[hst]; 
     have hf:(fun J=>stepO T G (alts.contains i) (base+i) o b J)=fun J=>stepO T G (alts.contains i) (base+i) o a' J:=by
      funext J
      exact kJ (T:=T) (G:=G) (ds:=ds) (fun t _=>hb t)
     rw[hf] at h
     exact⟨h.1,ih _ _ _ _ (hb.put _ _) h.2⟩
    .rename_i hst;rw[hst];exact h.mono fun r J' hh=>⟨hh.1,ih _ _ _ _ (hb.put _ _) hh.2⟩
    .exact h.elim
   .rw[if_neg hx] at h ⊢
    unfold ValA
    rw[hw]
    simp only
    rw[<- kJ (T:=T) (G:=G) (ds:=ds) (a:=b) (a':=a') (fun t _=>hb t)]
    split at h
    .rename_i hst;rw[hst];exact⟨_,⟨h.1,rfl⟩,ih _ _ _ _ (hb.put _ _) h.2⟩
    .rename_i hst;rw[hst]
     obtain⟨r,h1,h2⟩:=h
     exact⟨r,h1,ih _ _ _ _ (hb.put _ _) h2⟩
    .exact h.elim
  have skip:∀(b:AAct),Eqv b a'->wantA ds o a'=some false->ADCw P T G n alts ds base hs wt K l W (b.put o.dst (.tup [])) J->
    (if hs.contains i=true then HeapA P T G alts ds base wt o i W a' J (ADraw P T G n alts ds base hs wt (fun a J=>∃a0,Eqv a0 a/\K a0 J) l)
    else ∃v,ValA P T G alts ds base o i a' v/\ADraw P T G n alts ds base hs wt (fun a J=>∃a0,Eqv a0 a/\K a0 J) l W (a'.put o.dst v) J):=by
   intro b hb hw h
   by_cases hx:hs.contains i=true
   .rw[if_pos hx]
    unfold HeapA
    rw[hw]
    exact ih _ _ _ _ (hb.put _ _) h
   .rw[if_neg hx]
    unfold ValA
    rw[hw]
    exact⟨.tup [],rfl,ih _ _ _ _ (hb.put _ _) h⟩
  cases hg:o.guard with
  |none=>
   simp only[hg] at h
   exact run a he (by simp[wantA,hg]) h
  |some jw=>
   obtain⟨j,want⟩:=jw
   simp only[hg] at h
   split at h
   .rename_i t ht
    split at h
    .rename_i b hb
     have hb':a'.get t=.bool b:=by rw[<- he t];exact hb
     have hw:wantA ds o a'=some (b==want):=by simp[wantA,hg,ht,hb']
     have hput:∀b',b=b'->Eqv ((t,.bool b')::a) a':=by
      rintro b' rfl k
      simp only[AAct.get]
      split
      .rename_i e;subst e;exact hb'.symm
      .exact he k
     by_cases e:b=want
     .subst e
      exact run _ (hput b rfl) (by simpa using hw) (h.1 rfl)
     .have e':b= !want:=by cases b<;>cases want<;>simp_all
      exact skip _ (hput _ e') (by rw[hw];simp[e]) (h.2 e')
    .rename_i hb
     have hb':a'.get t=.tup []:=by rw[<- he t];exact hb
     exact skip _ he (by simp[wantA,hg,ht,hb']) h
    .exact h.elim
   .exact h.elim


theorem AWP_drawW (hT:TOk P T)(hm:P.follows .mixedOrders=true)(alts hs:List Nat)(wt:Nat->List Nat)(ord:List Nat){id:Nat}{ops:Array Oper}(hc:gM alts ops hs wt ord=true)
  (h:ADCw P T G n alts (ops.toList.map (·.dst)) J.next hs wt K (jD ops ord) [] a (J.bump ops.size)):AWP P G n N (.region id ops true) (thenQ K Q) a J:=
 cK hT hm alts hs wt ord hc (ADCw_sound _ _ _ _ _ (Eqv.refl a) h)
theorem AWP_drawWC (hT:TOk P T)(hm:P.follows .mixedOrders=true)(alts hs:List Nat)(wt:Nat->List Nat)(ord:List Nat){id:Nat}{ops:Array Oper}(hc:dX true alts ops hs wt ord=true)(hcl:closedB T G n alts hs wt ops ord=true)
  (h:ADCw P T G n alts (ops.toList.map (·.dst)) J.next hs wt K (jD ops ord) [] a (J.bump ops.size)):AWP P G n N (.region id ops true) (thenQ K Q) a J:=
 dF true hT hm alts hs wt ord hc (fun _=>hcl) (ADCw_sound _ _ _ _ _ (Eqv.refl a) h)

end Go.Abs
