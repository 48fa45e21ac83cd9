/- Regions that draw their order: every order does the same. -/
import Derived.Test.YtolmjhgondilhaaGreatNAbs15
set_option linter.unusedSimpArgs false
set_option linter.unusedVariables false
namespace Go.Abs
open Go Go.RowKit

def wantA (ds:List (Option Nat))(o:Oper)(a:AAct):Option Bool:=
 match o.guard with
 |none=>some true
 |some (j,want)=>match ds[j]? with
  |some (some t)=>match a.get t with
   |.bool b=>some (b==want)
   |.tup []=>some false
   |_=>none
  |_=>none

def pZ (x y:St):Prop:=
 match x,y with
 |.val v _,.val u _=>v=u
 |_,_=>False

variable {P:Program} {T:Types} {G:Globs} {n:Nat} {alts:List Nat} {ds:List (Option Nat)} {base:Nat} {Q:AAct->AHeap->Prop} {hs:List Nat} {wt:Nat->List Nat}

def ValA (P:Program)(T:Types)(G:Globs)(alts:List Nat)(ds:List (Option Nat))(base:Nat)(o:Oper)(i:Nat)(a:AAct)(v:AV):Prop:=
 match wantA ds o a with
 |some true=>(match stepO T G (alts.contains i) (base+i) o a empty with
  |.val u _=>yD (alts.contains i) o=true/\v=u
  |.call f args=>APure P G f args v
  |.bad=>False)
 |some false=>v=.tup []
 |none=>False

abbrev Recs:=List (Nat×(AHeap->St))

def HeapA (P:Program)(T:Types)(G:Globs)(alts:List Nat)(ds:List (Option Nat))(base:Nat)(wt:Nat->List Nat)(o:Oper)(i:Nat)(W:Recs)(a:AAct)(J:AHeap)(k:Recs->AAct->AHeap->Prop):Prop:=
 match wantA ds o a with
 |some true=>(match stepO T G (alts.contains i) (base+i) o a J with
  |.val v J'=>(∀p∈W,p.1∈wt i->pZ (p.2 J) (p.2 J'))/\k ((i,fun J=>stepO T G (alts.contains i) (base+i) o a J)::W) (a.put o.dst v) J'
  |.call f args=>ACalls P G f args J fun r J'=>(∀p∈W,p.1∈wt i->pZ (p.2 J) (p.2 J'))/\k W (a.put o.dst r) J'
  |.bad=>False)
 |some false=>k W (a.put o.dst (.tup [])) J
 |none=>False

def ADraw (P:Program)(T:Types)(G:Globs)(n:Nat)(alts:List Nat)(ds:List (Option Nat))(base:Nat)(hs:List Nat)(wt:Nat->List Nat)(Q:AAct->AHeap->Prop):List (Oper×Nat)->Recs->AAct->AHeap->Prop
 |[],_,a,J=>Q a J
 |(o,i)::l,W,a,J=>dstOk n o.dst=true/\
  if hs.contains i then HeapA P T G alts ds base wt o i W a J (ADraw P T G n alts ds base hs wt Q l)
  else ∃v,ValA P T G alts ds base o i a v/\ADraw P T G n alts ds base hs wt Q l W (a.put o.dst v) J

def looks (ds:List (Option Nat))(o:Oper):List Nat:=
 (o.op.operands.toList.filterMap fun|.tmp t=>some t|_=>none)++(match o.guard with|some (j,_)=>(match ds[j]? with|some (some t)=>[t]|_=>[])|none=>[])

theorem ev_congr {a a':AAct}{x:Operand}(h:∀t,x=.tmp t->a.get t=a'.get t):ev G a x=ev G a' x:=by
 cases x with
 |tmp t=>exact h t rfl
 |_=>rfl

theorem kJ {o:Oper}{a a':AAct}{alt:Bool}{id:Nat}{J:AHeap}(h:∀t∈looks ds o,a.get t=a'.get t):stepO T G alt id o a J=stepO T G alt id o a' J:=by
 have hx:∀x∈o.op.operands,ev G a x=ev G a' x:=by
  intro x hx
  refine ev_congr fun t ht=>h t (List.mem_append_left _ (List.mem_filterMap.2 ⟨x,Array.mem_toList_iff.2 hx,by rw[ht]⟩))
 have pairs:∀ps:Array (Nat×Operand),(∀x∈(ps.toList.map (·.2)).toArray,ev G a x=ev G a' x)->uM G a ps=uM G a' ps:=by
  intro ps hp
  unfold uM
  refine List.map_congr_left fun p hm=>?_
  rw[hp p.2 (by simp;exact⟨p.1,by simpa using hm⟩)]
 have pairsS:∀ps:Array (Nat×Operand),(∀x∈(ps.toList.map (·.2)).toArray,ev G a x=ev G a' x)->uB G alt a ps=uB G alt a' ps:=by
  intro ps hp
  unfold uB
  refine List.map_congr_left fun p hm=>?_
  rw[hp p.2 (by simp;exact⟨p.1,by simpa using hm⟩)]
 have maps:∀xs:Array Operand,(∀x∈xs,ev G a x=ev G a' x)->xs.toList.map (ev G a)=xs.toList.map (ev G a'):=by
  intro xs hp
  exact List.map_congr_left fun x hm=>hp x (Array.mem_toList_iff.1 hm)
 obtain⟨dst,op,ty,pos,after,guard⟩:=o
 simp only at hx
 cases op
 case build t ps=>simp only[stepO];rw[pairs ps (by simpa [Op.operands] using hx)]
 case buildSlice t len ps=>simp only[stepO];rw[pairsS ps (by simpa [Op.operands] using hx)]
 case makeFunc fn first cap=>
  simp only[Op.operands,Array.mem_append] at hx
  cases fn<;>simp only[stepO,stepP,maps first (fun x hm=>hx x (.inl hm)),maps cap (fun x hm=>hx x (.inr hm))]
 case call c=>
  obtain⟨callee,args,ats⟩:=c
  simp only[Op.operands,Call.operands,Array.mem_append] at hx
  have ha:=maps args (fun x hm=>hx x (.inr hm))
  cases callee with
  |value f=>
   have hf:ev G a f=ev G a' f:=hx f (.inl (by simp))
   simp only[stepO,ha,hf]
  |invoke r m=>rfl
  |builtin b=>
   have hargs:∀x∈args.toList,ev G a x=ev G a' x:=fun x hm=>hx x (.inr (Array.mem_toList_iff.1 hm))
   cases b
   case append=>
    simp only[stepO]
    split
    .rename_i s x t t' h1 h2
     rw[hargs s (by rw[h1];simp),hargs x (by rw[h1];simp)]
    .rfl
   case len=>
    simp only[stepO,stepP]
    split
    .rename_i x t h1 h2
     rw[hargs x (by rw[h1];simp)]
    .rfl
   case max=>
    simp only[stepO,stepP]
    split
    .rename_i x y h1
     rw[hargs x (by rw[h1];simp),hargs y (by rw[h1];simp)]
    .rfl
   case min=>
    simp only[stepO,stepP]
    split
    .rename_i x y h1
     rw[hargs x (by rw[h1];simp),hargs y (by rw[h1];simp)]
    .rfl
   all_goals rfl
 case slice t x lo hi mx=>
  cases mx with
  |some m=>rfl
  |none=>
   have h1:ev G a x=ev G a' x:=hx x (by simp[Op.operands])
   have h2:lo.map (ev G a)=lo.map (ev G a'):=by cases lo with|none=>rfl|some y=>rw[Option.map_some,Option.map_some,hx y (by simp[Op.operands])]
   have h3:hi.map (ev G a)=hi.map (ev G a'):=by cases hi with|none=>rfl|some y=>rw[Option.map_some,Option.map_some,hx y (by simp[Op.operands])]
   simp only[stepO,h1,h2,h3]
 all_goals first
  |rfl
  |(simp only[Op.operands] at hx;simp_all [stepO,stepP])

theorem yQ {o:Oper}{a a':AAct}(h:∀t∈looks ds o,a.get t=a'.get t):wantA ds o a=wantA ds o a':=by
 unfold wantA
 cases hg:o.guard with
 |none=>rfl
 |some jw=>
  obtain⟨j,w⟩:=jw
  simp only
  cases hj:ds[j]? with
  |none=>rfl
  |some x=>cases x with
   |none=>rfl
   |some t=>
    simp only
    rw[h t (List.mem_append_right _ (by simp[hg,hj]))]

theorem tF {o:Oper}{i:Nat}{a a':AAct}{v:AV}(h:∀t∈looks ds o,a.get t=a'.get t)(hv:ValA P T G alts ds base o i a v):ValA P T G alts ds base o i a' v:=by
 unfold ValA at hv ⊢
 rw[<- yQ h,<- kJ (T:=T) (G:=G) h]
 exact hv

def Eqv (a a':AAct):Prop:=∀t,a.get t=a'.get t

theorem Eqv.put {a a':AAct}(h:Eqv a a')(d:Option Nat)(v:AV):Eqv (a.put d v) (a'.put d v):=by
 intro t
 cases d with
 |none=>exact h t
 |some d=>simp only[AAct.put,AAct.get];split;rfl;exact h t

theorem uK {a:AAct}{d:Option Nat}{v:AV}{t:Nat}(h:d≠some t):(a.put d v).get t=a.get t:=by
 cases d with
 |none=>rfl
 |some d=>simp only[AAct.put,AAct.get];rw[if_neg];rintro rfl;exact h rfl

theorem gB {a:AAct}{d e:Option Nat}{v u:AV}(h:∀x,d=some x->e≠some x):Eqv ((a.put d v).put e u) ((a.put e u).put d v):=by
 intro t
 by_cases h1:d=some t
 .have h2:e≠some t:=h t h1
  subst h1
  rw[uK h2]
  simp[AAct.put,AAct.get]
 .rw[uK (d:=d) h1]
  by_cases h2:e=some t
  .subst h2;simp[AAct.put,AAct.get]
  .rw[uK h2,uK h2,uK h1]

theorem HeapA_mono {o:Oper}{i:Nat}{W:Recs}{a:AAct}{J:AHeap}{k k':Recs->AAct->AHeap->Prop}(hk:∀W a J,k W a J->k' W a J)(h:HeapA P T G alts ds base wt o i W a J k):HeapA P T G alts ds base wt o i W a J k':=by
 unfold HeapA at h ⊢
 split at h
 .split at h
  .exact⟨h.1,hk _ _ _ h.2⟩
  .exact h.mono fun r J' hh=>⟨hh.1,hk _ _ _ hh.2⟩
  .exact h
 .exact hk _ _ _ h
 .exact h

theorem nX {o:Oper}{i:Nat}{W W':Recs}{a a':AAct}{J:AHeap}{k k':Recs->AAct->AHeap->Prop}(h:∀t∈looks ds o,a.get t=a'.get t)(hW:∀p∈W',p∈W)
  (hk:∀(p:Recs) v J,k (p++W) (a.put o.dst v) J->k' (p++W') (a'.put o.dst v) J) (hh:HeapA P T G alts ds base wt o i W a J k):HeapA P T G alts ds base wt o i W' a' J k':=by
 unfold HeapA at hh ⊢
 rw[<- yQ h]
 have hst:(fun J=>stepO T G (alts.contains i) (base+i) o a' J)=fun J=>stepO T G (alts.contains i) (base+i) o a J:=by
  funext J;exact(kJ (T:=T) (G:=G) h).symm
 split at hh
 .rw[<- kJ (T:=T) (G:=G) h]
  split at hh
  .refine⟨fun p hp=>hh.1 p (hW p hp),?_⟩
   have:=hk [(i,fun J=>stepO T G (alts.contains i) (base+i) o a J)] _ _ hh.2
   rw[hst]
   exact this
  .exact hh.mono fun r J' g=>⟨fun p hp=>g.1 p (hW p hp),hk [] r J' g.2⟩
  .exact hh
 .exact hk [] _ _ hh
 .exact hh

theorem vJ (hQ:∀a a' J,Eqv a a'->Q a J->Q a' J):∀(l:List (Oper×Nat)) (W W':Recs) (a a':AAct) (J:AHeap),Eqv a a'->(∀p∈W',p∈W)->ADraw P T G n alts ds base hs wt Q l W a J->ADraw P T G n alts ds base hs wt Q l W' a' J:=by
 intro l
 induction l with
 |nil=>intro W W' a a' J h _ hh;exact hQ _ _ _ h hh
 |cons x l ih=>
  obtain⟨o,i⟩:=x
  intro W W' a a' J h hW hh
  simp only[ADraw] at hh ⊢
  refine⟨hh.1,?_⟩
  split
  .rename_i hc
   rw[if_pos hc] at hh
   refine nX (fun t _=>h t) hW (fun p v J hk=>ih _ _ _ _ _ (h.put _ _) (fun q hq=>?_) hk) hh.2
   rcases List.mem_append.1 hq with h1|h1
   .exact List.mem_append_left _ h1
   .exact List.mem_append_right _ (hW q h1)
  .rename_i hc
   rw[if_neg hc] at hh
   obtain⟨_,v,h1,h2⟩:=hh
   exact⟨v,tF (fun t _=>h t) h1,ih _ _ _ _ _ (h.put _ _) hW h2⟩

def uL (o:Oper):Bool:=yD false o&& !tX o

def wU (o:Oper):Bool:=
 match o.op with
 |.alloc _|.box _ _|.buildSlice _ _ _|.makeSlice _ _ _=>true
 |_=>false

theorem fresh_step (T:Types)(G:Globs){o:Oper}(id:Nat)(a:AAct)(h:wU o=true):(∀J,stepO T G false id o a J=.bad)\/∃v ob,∀J,stepO T G false id o a J=.val v (J.put id ob):=by
 obtain⟨dst,op,ty,pos,after,guard⟩:=o
 cases op<;>simp only[wU] at h<;>try cases h
 case alloc e=>
  simp only[stepO,mX]
  cases T e with
  |none=>exact .inl fun _=>rfl
  |some ti=>
   simp only
   by_cases hz:(ti.zero.length !=0)=true
   .exact .inr ⟨_,_,fun J=>by rw[if_pos hz];rfl⟩
   .exact .inl fun J=>by rw[if_neg hz];rfl
 case box e x=>
  simp only[stepO,boxA]
  by_cases hz:(sH (ev G a x).cells&&(ev G a x).cells.length !=0)=true
  .exact .inr ⟨_,_,fun J=>by rw[if_pos hz];rfl⟩
  .exact .inl fun J=>by rw[if_neg hz];rfl
 case buildSlice t len ps=>
  simp only[stepO]
  by_cases hg:((uB G false a ps).all fun p=>p.2.good)=true
  .simp only[if_pos hg,bsA]
   split
   .rename_i e _
    cases T e with
    |none=>exact .inl fun _=>rfl
    |some ti=>
     simp only[Option.bind_some]
     split
     .exact .inr ⟨_,_,fun J=>rfl⟩
     .exact .inl fun J=>rfl
   .exact .inl fun _=>rfl
  .exact .inl fun J=>by rw[if_neg hg];rfl
 case makeSlice t l c=>
  simp only[stepO,makeA]
  split<;>try exact .inl fun _=>rfl
  all_goals
   rename_i e _ _ _ _ _ _
   cases T _ with
   |none=>exact .inl fun _=>rfl
   |some ti=>
    simp only[Option.bind_some]
    split
    .exact .inr ⟨_,_,fun J=>rfl⟩
    .exact .inl fun J=>rfl

theorem fresh_bad (T:Types)(G:Globs){o:Oper}(id id':Nat)(a:AAct)(J J':AHeap)(h:wU o=true)(hb:stepO T G false id o a J=.bad):stepO T G false id' o a J'=.bad:=by
 obtain⟨dst,op,ty,pos,after,guard⟩:=o
 cases op<;>simp only[wU] at h<;>try (cases h;done)
 case alloc e=>
  simp only[stepO,mX] at hb ⊢
  cases hT:T e with
  |none=>rfl
  |some ti=>
   simp only[hT] at hb ⊢
   by_cases hz:(ti.zero.length !=0)=true
   .rw[if_pos hz] at hb;cases hb
   .rw[if_neg hz];rfl
 case box e x=>
  simp only[stepO,boxA] at hb ⊢
  by_cases hz:(sH (ev G a x).cells&&(ev G a x).cells.length !=0)=true
  .rw[if_pos hz] at hb;cases hb
  .rw[if_neg hz];rfl
 case buildSlice t len ps=>
  simp only[stepO] at hb ⊢
  by_cases hg:((uB G false a ps).all fun p=>p.2.good)=true
  .simp only[if_pos hg,bsA] at hb ⊢
   split at hb
   .rename_i e hk
    cases hT:T e with
    |none=>rfl
    |some ti=>
     simp only[hT,Option.bind_some] at hb ⊢
     split at hb
     .cases hb
     .rename_i hc;rw[if_neg hc];rfl
   .rfl
  .rw[if_neg hg];rfl
 case makeSlice t l c=>
  simp only[stepO,makeA] at hb ⊢
  split at hb
  .rename_i e _ _ _ _ hk hl hc
   cases hT:T e with
   |none=>rfl
   |some ti=>
    simp only[hT,Option.bind_some] at hb ⊢
    split at hb
    .cases hb
    .rename_i hc;rw[if_neg hc];rfl
  .rfl

theorem sM (J:AHeap){i j:Nat}(x y:AObj)(h:i≠j):(J.put i x).put j y=(J.put j y).put i x:=by
 simp only[AHeap.put,AHeap.mk.injEq,and_true]
 funext o
 by_cases h1:o=j
 .subst h1;rw[if_pos rfl,if_neg (fun e=>h e.symm),if_pos rfl]
 .rw[if_neg h1]
  by_cases h2:o=i
  .rw[if_pos h2,if_pos h2]
  .rw[if_neg h2,if_neg h2,if_neg h1]

def gQ (o:Oper):Bool:=
 match o.op with
 |.store _ _ _=>true
 |.call {callee:=.builtin .append,.. }=>true
 |_=>false

theorem fS {J:AHeap}{j o:Nat}{ob b:AObj}(hj:J.objs j=none)(ho:J.objs o=some b):(J.put j ob).objs o=some b:=by
 simp only[AHeap.put]
 rw[if_neg]
 .exact ho
 .rintro rfl;rw[hj] at ho;cases ho

theorem sN {J:AHeap}{j o:Nat}{ob:AObj}(hj:J.objs j=none)(h:o≠j):(J.put o ob).objs j=none:=by
 simp only[AHeap.put]
 rw[if_neg (fun e=>h e.symm)]
 exact hj

theorem kill_none {J:AHeap}{j o:Nat}(hj:J.objs j=none):(J.kill o).objs j=none:=by
 simp only[AHeap.kill]
 split
 .rfl
 .exact hj

theorem put_killC (J:AHeap){j o:Nat}(ob:AObj)(h:o≠j):(J.put j ob).kill o=(J.kill o).put j ob:=by
 simp only[AHeap.put,AHeap.kill,AHeap.mk.injEq,and_true]
 funext x
 by_cases h1:x=o
 .subst h1;rw[if_pos rfl,if_neg h,if_pos rfl]
 .rw[if_neg h1]
  by_cases h2:x=j
  .rw[if_pos h2,if_pos h2]
  .rw[if_neg h2,if_neg h2,if_neg h1]

theorem srcA_put {ti:TI}{J:AHeap}{x:AV}{E:List (List AV)}{j:Nat}{ob:AObj}(hj:J.objs j=none)(h:srcA ti J x=some E):srcA ti (J.put j ob) x=some E:=by
 unfold srcA at h ⊢
 split at h
 .exact h
 .rename_i o r m
  cases ho:J.objs o with
  |none=>simp[ho] at h
  |some b=>rw[ho] at h;simp only[fS hj ho];exact h
 .exact h
 .exact h
 .cases h

theorem appendA_put {t:TypeId}{id:Nat}{s x v:AV}{J J':AHeap}{j:Nat}{ob:AObj}(hj:J.objs j=none)(hne:id≠j)(h:kF T t id s x J=some (v,J')):
  kF T t id s x (J.put j ob)=some (v,J'.put j ob)/\J'.objs j=none:=by
 unfold kF at h ⊢
 split at h
 case h_2=>cases h
 rename_i e hk
 cases hti:T e with
 |none=>simp[hti] at h
 |some ti=>
 simp only[hti,Option.bind_some] at h ⊢
 cases hE:srcA ti J x with
 |none=>simp[hE] at h
 |some E=>
 rw[srcA_put hj hE]
 simp only[hE,Option.bind_some] at h ⊢
 split at h
 .rename_i o n
  cases ho:J.objs o with
  |none=>simp[ho] at h
  |some b=>
   have hoj:o≠j:=by rintro rfl;rw[hj] at ho;cases ho
   rw[fS hj ho]
   simp only[ho,Option.bind_some] at h ⊢
   split at h
   .rename_i hc
    cases h
    rw[if_pos hc,put_killC J ob hoj,sM _ _ _ (fun e=>hne e.symm)]
    exact⟨rfl,sN (kill_none hj) hne⟩
   .cases h
 .split at h
  .rename_i hc
   cases h
   simp only[if_pos hc]
   rw[sM _ _ _ (fun e=>hne e.symm)]
   exact⟨rfl,sN hj hne⟩
  .cases h
 .split at h
  .rename_i hc
   cases h
   simp only[if_pos hc]
   rw[sM _ _ _ (fun e=>hne e.symm)]
   exact⟨rfl,sN hj hne⟩
  .cases h
 .cases h

theorem appendZ_put {t u:TypeId}{id:Nat}{s x v:AV}{J J':AHeap}{j:Nat}{ob:AObj}(hj:J.objs j=none)(hne:id≠j)(h:wV T t u id s x J=some (v,J')):
  wV T t u id s x (J.put j ob)=some (v,J'.put j ob)/\J'.objs j=none:=by
 unfold wV at h ⊢
 split at h
 case h_2=>cases h
 rename_i e _ _ m _ _
 cases hti:T e with
 |none=>simp[hti] at h
 |some ti=>
 simp only[hti,Option.bind_some] at h ⊢
 by_cases hm:0<=m/\m.toNat<=maxLen
 case neg=>rw[if_neg hm] at h;cases h
 rw[if_pos hm] at h ⊢
 split at h
 .rename_i o n
  cases ho:J.objs o with
  |none=>simp[ho] at h
  |some b=>
   have hoj:o≠j:=by rintro rfl;rw[hj] at ho;cases ho
   rw[fS hj ho]
   simp only[ho,Option.bind_some] at h ⊢
   split at h
   .rename_i hc
    cases h
    rw[if_pos hc,put_killC J ob hoj,sM _ _ _ (fun e=>hne e.symm)]
    exact⟨rfl,sN (kill_none hj) hne⟩
   .cases h
 .split at h
  .rename_i hc
   cases h
   simp only[if_pos hc]
   rw[sM _ _ _ (fun e=>hne e.symm)]
   exact⟨rfl,sN hj hne⟩
  .cases h
 .split at h
  .rename_i hc
   cases h
   simp only[if_pos hc]
   rw[sM _ _ _ (fun e=>hne e.symm)]
   exact⟨rfl,sN hj hne⟩
  .cases h
 .cases h

theorem storeA_put {t:TypeId}{x v:AV}{J J':AHeap}{j:Nat}{ob:AObj}(hj:J.objs j=none)(h:qO T t x v J=some J'):
  qO T t x v (J.put j ob)=some (J'.put j ob)/\J'.objs j=none:=by
 unfold qO at h ⊢
 split at h
 case h_2=>cases h
 rename_i ti o r i _
 cases ho:J.objs o with
 |none=>simp[ho] at h
 |some b=>
  have hoj:o≠j:=by rintro rfl;rw[hj] at ho;cases ho
  rw[fS hj ho]
  simp only[ho,Option.bind_some] at h ⊢
  cases hr:b.rows[r]? with
  |none=>simp[hr] at h
  |some row=>
   simp only[hr,Option.bind_some] at h ⊢
   split at h
   .rename_i hc
    cases h
    rw[if_pos hc,sM _ _ _ (fun e=>hoj e.symm)]
    exact⟨rfl,sN hj hoj⟩
   .cases h

theorem ofO_val {x:Option (AV×AHeap)}{v:AV}{J:AHeap}(h:St.ofO x=.val v J):x=some (v,J):=by
 cases x with
 |none=>cases h
 |some p=>obtain⟨a,b⟩:=p;simp only[St.ofO,St.val.injEq] at h;rw[h.1,h.2]

theorem pass_put {o:Oper}{id:Nat}{a:AAct}{v:AV}{J J':AHeap}{j:Nat}{ob:AObj}(hp:(wU o||gQ o)=true)(hj:J.objs j=none)(hne:id≠j)(h:stepO T G false id o a J=.val v J'):
  stepO T G false id o a (J.put j ob)=.val v (J'.put j ob)/\J'.objs j=none:=by
 rw[Bool.or_eq_true] at hp
 rcases hp with hp|hp
 .rcases fresh_step T G id a hp with hb|⟨u,ob',hst⟩
  .rw[hb] at h;cases h
  .rw[hst] at h ⊢
   cases h
   rw[sM _ _ _ (fun e=>hne e.symm)]
   exact⟨rfl,sN hj hne⟩
 .obtain⟨dst,op,ty,pos,after,guard⟩:=o
  cases op<;>simp only[gQ] at hp<;>try (cases hp;done)
  case store t x y=>
   simp only[stepO] at h ⊢
   by_cases hg:((ev G a x).good&&(ev G a y).good)=true
   .rw[if_pos hg] at h ⊢
    cases hs:qO T t (ev G a x) (ev G a y) J with
    |none=>rw[hs] at h;cases h
    |some J1=>
     rw[hs] at h
     obtain⟨h1,h2⟩:=storeA_put (ob:=ob) hj hs
     rw[h1]
     cases h
     exact⟨rfl,h2⟩
   .rw[if_neg hg] at h;cases h
  case call c=>
   obtain⟨callee,args,ats⟩:=c
   cases callee<;>try (simp at hp;done)
   rename_i b
   cases b<;>try (simp at hp;done)
   simp only[stepO] at h ⊢
   split at h
   .rename_i s x t t' h1 h2
    simp only[Bool.false_eq_true,if_false] at h ⊢
    by_cases ht:t=t'
    .rw[if_pos ht] at h ⊢
     obtain⟨h3,h4⟩:=appendA_put (ob:=ob) hj hne (ofO_val h)
     rw[h3];exact⟨rfl,h4⟩
    .rw[if_neg ht] at h ⊢
     obtain⟨h3,h4⟩:=appendZ_put (ob:=ob) hj hne (ofO_val h)
     rw[h3];exact⟨rfl,h4⟩
   .cases h

theorem dH {o:Oper}{id:Nat}{a:AAct}{J J':AHeap}{v:AV}(hr:uL o=true)(h:stepO T G false id o a J=.val v J'):J'=J:=by
 simp only[uL,Bool.and_eq_true,Bool.not_eq_true'] at hr
 obtain⟨hf,hc⟩:=hr
 have key:∀x:Option AV,St.ofV x J=.val v J'->J'=J:=by
  intro x h
  cases x<;>simp[St.ofV] at h
  exact h.2.symm
 unfold stepO at h
 split at h
 .rename_i hop;simp[yD,hop] at hf
 .rename_i hop;simp[yD,hop] at hf
 .exact key _ h
 .rename_i hop;simp[yD,hop] at hf
 .rename_i hop;simp[yD,hop] at hf
 .rename_i hop;simp[yD,hop] at hf
 .exact key _ h
 .rename_i hop;simp[yD,hop] at hf
 .rename_i hop;simp[tX,hop] at hc
 .simp only[Bool.false_eq_true,if_false] at h;exact key _ h
 .exact key _ h

theorem obj_bind {β:Type}{J:AHeap}{j o:Nat}{ob:AObj}{f:AObj->Option β}{w:β}(hj:J.objs j=none)(h:(J.objs o).bind f=some w):((J.put j ob).objs o).bind f=some w:=by
 cases ho:J.objs o with
 |none=>simp[ho] at h
 |some b=>rw[fS hj ho];rw[ho] at h;exact h
theorem bind_imp {O β:Type}{x:Option O}{f g:O->Option β}{w:β}(hfg:∀a,f a=some w->g a=some w)(h:x.bind f=some w):x.bind g=some w:=by
 cases x with
 |none=>cases h
 |some a=>exact hfg a h
theorem loadA_put {J:AHeap}{j:Nat}{ob:AObj}{t:TypeId}{x v:AV}(hj:J.objs j=none)(h:loadA T J t x=some v):loadA T (J.put j ob) t x=some v:=by
 unfold loadA at h ⊢
 split at h
 .exact obj_bind hj h
 .exact h
 .cases h
theorem indexAddrA_put {J:AHeap}{j:Nat}{ob:AObj}{t:TypeId}{x ix v:AV}(hj:J.objs j=none)(h:zQ T J t x ix=some v):zQ T (J.put j ob) t x ix=some v:=by
 unfold zQ at h ⊢
 split at h
 .exact obj_bind hj h
 all_goals first|exact h|cases h
theorem cutA_put {J:AHeap}{j:Nat}{ob:AObj}{t:TypeId}{x v:AV}{lo hi:Option AV}(hj:J.objs j=none)(h:cutA T J t x lo hi=some v):cutA T (J.put j ob) t x lo hi=some v:=by
 unfold cutA at h ⊢
 split at h
 .exact bind_imp (fun l hl=>bind_imp (fun k hk=>obj_bind hj hk) hl) h
 .exact h
 .cases h
theorem stepP_put {op:Op}{a:AAct}{J:AHeap}{v:AV}{j:Nat}{ob:AObj}(hj:J.objs j=none)(h:stepP T G op a J=some v):stepP T G op a (J.put j ob)=some v:=by
 unfold stepP at h ⊢
 split at h
 all_goals first
  |exact loadA_put hj h
  |exact indexAddrA_put hj h
  |exact h
  |cases h

theorem read_put {o:Oper}{id:Nat}{a:AAct}{v:AV}{J J':AHeap}{j:Nat}{ob:AObj}(hp:uL o=true)(hj:J.objs j=none)(h:stepO T G false id o a J=.val v J'):
  stepO T G false id o a (J.put j ob)=.val v (J'.put j ob)/\J'.objs j=none:=by
 have e:=dH hp h
 subst e
 refine⟨?_,hj⟩
 simp only[uL,Bool.and_eq_true,Bool.not_eq_true'] at hp
 obtain⟨hf,hc⟩:=hp
 have ofV:∀{x y:Option AV},(∀w,x=some w->y=some w)->St.ofV x J'=.val v J'->St.ofV y (J'.put j ob)=.val v (J'.put j ob):=by
  intro x y hxy hx
  cases x with
  |none=>cases hx
  |some w=>rw[hxy w rfl];simp only[St.ofV,St.val.injEq,and_true] at hx ⊢;exact hx
 unfold stepO at h ⊢
 split at h
 .rename_i hop;simp[yD,hop] at hf
 .rename_i hop;simp[yD,hop] at hf
 .exact ofV (fun w hw=>hw) h
 .rename_i hop;simp[yD,hop] at hf
 .rename_i hop;simp[yD,hop] at hf
 .rename_i hop;simp[yD,hop] at hf
 .exact ofV (fun w hw=>cutA_put hj hw) h
 .rename_i hop;simp[yD,hop] at hf
 .rename_i hop;simp[tX,hop] at hc
 .simp only[Bool.false_eq_true,if_false] at h ⊢
  exact ofV (fun w hw=>stepP_put hj hw) h
 .exact ofV (fun w hw=>stepP_put hj hw) h

def oD (alts hs:List Nat)(wt:Nat->List Nat)(y:Oper×Nat):Bool:=hs.contains y.2&&wU y.1&& !alts.contains y.2&&(wt y.2).isEmpty

def qM (ds:List (Option Nat))(o:Oper):Bool:=(looks ds o).isEmpty&&o.guard.isNone

def swapB (cf:Bool)(alts:List Nat)(ds:List (Option Nat))(hs:List Nat)(wt:Nat->List Nat)(x y:Oper×Nat):Bool:=
 (match x.1.dst with|some d=> !(looks ds y.1).contains d&&y.1.dst !=some d|none=>true)&&(match y.1.dst with|some d=> !(looks ds x.1).contains d|none=>true)&&
 (!hs.contains x.2||(hs.contains y.2&&uL x.1&& !alts.contains x.2&&(wt x.2).isEmpty&&((uL y.1&& !alts.contains y.2)||(wt y.2).contains x.2))||
  (oD alts hs wt y&&(wU x.1||gQ x.1||uL x.1||(cf&&tX x.1&&qM ds y.1))&& !alts.contains x.2&&(wt x.2).isEmpty&&x.2 !=y.2))

theorem swap {cf:Bool}(hQ:∀a a' J,Eqv a a'->Q a J->Q a' J){ox oy:Oper}{x y:Nat}{l:List (Oper×Nat)}{W:Recs}{a:AAct}{J:AHeap}(hsw:swapB cf alts ds hs wt (ox,x) (oy,y)=true)
  (hnf:oD alts hs wt (oy,y)=false) (h:ADraw P T G n alts ds base hs wt Q ((ox,x)::(oy,y)::l) W a J):ADraw P T G n alts ds base hs wt Q ((oy,y)::(ox,x)::l) W a J:=by
 simp only[swapB,Bool.and_eq_true] at hsw
 obtain⟨⟨hA,hB⟩,hK⟩:=hsw
 have d1:∀t∈looks ds oy,ox.dst≠some t:=by
  intro t ht e
  rw[e] at hA
  simp at hA
  exact hA.1 ht
 have d2:∀t∈looks ds ox,oy.dst≠some t:=by
  intro t ht e
  rw[e] at hB
  simp at hB
  exact hB ht
 have d3:∀t,ox.dst=some t->oy.dst≠some t:=by
  intro t e e'
  rw[e] at hA
  simp at hA
  exact hA.2 e'
 have cy:∀(a:AAct) (v:AV),∀t∈looks ds oy,(a.put ox.dst v).get t=a.get t:=fun a v t ht=>uK (d1 t ht)
 have cx:∀(a:AAct) (v:AV),∀t∈looks ds ox,(a.put oy.dst v).get t=a.get t:=fun a v t ht=>uK (d2 t ht)
 simp only[ADraw] at h ⊢
 obtain⟨h1,h2⟩:=h
 by_cases hx:hs.contains x=true
 .rw[if_pos hx] at h2
  simp only[hx,if_true]
  simp only[hnf,hx,Bool.not_true,Bool.false_or,Bool.false_and,Bool.or_false,Bool.and_eq_true,Bool.not_eq_true',Bool.or_eq_true,List.isEmpty_iff] at hK
  obtain⟨⟨⟨⟨hy,hrx⟩,hax⟩,hwx⟩,hyk⟩:=hK
  simp only[hy,if_true] at h2 ⊢
  have hwx':wt x=[]:=hwx

  unfold HeapA at h2
  cases hw:wantA ds ox a with
  |none=>simp[hw] at h2
  |some b=>
  cases b with
  |false=>
   simp only[hw] at h2
   obtain⟨h3,h4⟩:=h2
   refine⟨h3,nX (cy a (.tup [])) (fun p hp=>hp) (fun p v J' hk=>?_) h4⟩
   refine⟨h1,?_⟩
   unfold HeapA
   rw[yQ (cx a v),hw]
   exact vJ hQ _ _ _ _ _ _ (gB d3) (fun q hq=>hq) hk
  |true=>
   simp only[hw] at h2
   rw[hax] at h2
   have hfx:∀J v J',stepO T G false (base+x) ox a J=.val v J'->J'=J:=fun J v J' h=>dH hrx h
   cases hs1:stepO T G false (base+x) ox a J with
   |bad=>simp[hs1] at h2
   |call f args=>
    exfalso
    have:=hrx
    simp only[uL,Bool.and_eq_true,Bool.not_eq_true'] at this
    have hnc:=this.2
    have key2:∀(z:Option AV),St.ofV z J≠.call f args:=by intro z;cases z<;>simp[St.ofV]
    have key3:∀(z:Option (AV×AHeap)),St.ofO z≠.call f args:=by intro z;cases z<;>simp[St.ofO]
    unfold stepO at hs1
    split at hs1
    .exact key3 _ hs1
    .exact key3 _ hs1
    .exact key2 _ hs1
    .exact key3 _ hs1
    .split at hs1<;>cases hs1
    .exact key3 _ hs1
    .exact key2 _ hs1
    .split at hs1
     .split at hs1
      .exact key3 _ hs1
      .split at hs1
       .cases hs1
       .exact key3 _ hs1
     .cases hs1
    .rename_i hop;simp[tX,hop] at hnc
    .split at hs1
     .exact key3 _ hs1
     .exact key2 _ hs1
    .exact key2 _ hs1
   |val v J1=>
    have e1:=hfx J v J1 hs1
    subst e1
    simp only[hs1] at h2
    obtain⟨_,h3,h4⟩:=h2
    refine⟨h3,?_⟩

    have rest:∀(J2:AHeap) (u:AV) (R1:Recs),stepO T G false (base+x) ox a J2=.val v J2->ADraw P T G n alts ds base hs wt Q l (R1++(x,fun J=>stepO T G false (base+x) ox a J)::W) ((a.put ox.dst v).put oy.dst u) J2->
      dstOk n ox.dst=true/\HeapA P T G alts ds base wt ox x (R1++W) (a.put oy.dst u) J2 (ADraw P T G n alts ds base hs wt Q l):=by
     intro J2 u R1 hst hk
     refine⟨h1,?_⟩
     unfold HeapA
     rw[yQ (cx a u),hw]
     simp only
     rw[hax,kJ (T:=T) (G:=G) (cx a u),hst]
     simp only
     refine⟨fun p _ hp=>by rw[hwx'] at hp;simp at hp,?_⟩
     refine vJ hQ _ _ _ _ _ _ (gB d3) (fun q hq=>?_) hk
     rw[List.mem_cons] at hq
     rcases hq with rfl|hq
     .refine List.mem_append_right _ (List.mem_cons.2 (.inl ?_))
      congr 1
      funext J3
      exact kJ (T:=T) (G:=G) (cx a u)
     .rcases List.mem_append.1 hq with h5|h5
      .exact List.mem_append_left _ h5
      .exact List.mem_append_right _ (List.mem_cons_of_mem _ h5)
    unfold HeapA
    rw[yQ (cy a v)] at h4
    cases hwy:wantA ds oy a with
    |none=>simp[hwy] at h4
    |some b=>
    cases b with
    |false=>
     simp only[hwy] at h4 ⊢
     exact rest J1 (.tup []) [] hs1 h4
    |true=>
     simp only[hwy] at h4 ⊢
     rw[kJ (T:=T) (G:=G) (cy a v)] at h4
     have same:∀J2,((uL oy=true/\alts.contains y=false)->J2=J1)->(∀p∈(x,fun J=>stepO T G false (base+x) ox a J)::W,p.1∈wt y->pZ (p.2 J1) (p.2 J2))->stepO T G false (base+x) ox a J2=.val v J2:=by
      intro J2 he hp
      rcases hyk with hyk|hyk
      .rw[he hyk];exact hs1
      .have:=hp (x,fun J=>stepO T G false (base+x) ox a J) (List.mem_cons_self ..) (by simpa using hyk)
       simp only[hs1] at this
       cases hs2:stepO T G false (base+x) ox a J2 with
       |val v2 J3=>
        rw[hs2] at this
        simp only[pZ] at this
        rw[hfx J2 v2 J3 hs2,this]
       |call f as=>rw[hs2] at this;exact this.elim
       |bad=>rw[hs2] at this;exact this.elim
     have hrec:(fun J=>stepO T G (alts.contains y) (base+y) oy (a.put ox.dst v) J)=fun J=>stepO T G (alts.contains y) (base+y) oy a J:=by
      funext J3;exact kJ (T:=T) (G:=G) (cy a v)
     cases hsy:stepO T G (alts.contains y) (base+y) oy a J1 with
     |bad=>rw[hsy] at h4;exact h4.elim
     |val u J2=>
      simp only[hsy] at h4 ⊢
      refine⟨fun p hp hq=>h4.1 p (List.mem_cons_of_mem _ hp) hq,?_⟩
      have hst:=same J2 (fun hh=>by rw[hh.2] at hsy;exact dH hh.1 hsy) h4.1
      have:=rest J2 u [(y,fun J=>stepO T G (alts.contains y) (base+y) oy a J)] hst (by rw[hrec] at h4;exact h4.2)
      exact this
     |call f args=>
      simp only[hsy] at h4 ⊢
      refine h4.mono fun r J2 hh=>⟨fun p hp hq=>hh.1 p (List.mem_cons_of_mem _ hp) hq,?_⟩
      have hst:=same J2 (fun hh'=>by
       exfalso
       have:=hh'.1
       simp only[uL,Bool.and_eq_true,Bool.not_eq_true'] at this
       have hnc:=this.2
       have key2:∀(z:Option AV),St.ofV z J1≠.call f args:=by intro z;cases z<;>simp[St.ofV]
       have key3:∀(z:Option (AV×AHeap)),St.ofO z≠.call f args:=by intro z;cases z<;>simp[St.ofO]
       unfold stepO at hsy
       split at hsy
       .exact key3 _ hsy
       .exact key3 _ hsy
       .exact key2 _ hsy
       .exact key3 _ hsy
       .split at hsy<;>cases hsy
       .exact key3 _ hsy
       .exact key2 _ hsy
       .split at hsy
        .split at hsy
         .exact key3 _ hsy
         .split at hsy
          .cases hsy
          .exact key3 _ hsy
        .cases hsy
       .rename_i hop;simp[tX,hop] at hnc
       .split at hsy
        .exact key3 _ hsy
        .exact key2 _ hsy
       .exact key2 _ hsy) hh.1
      exact rest J2 r [] hst hh.2
 .simp only[hx,if_false] at h2 ⊢
  obtain⟨v,h3,h4,h5⟩:=h2
  by_cases hy:hs.contains y=true
  .simp only[hy,if_true] at h5 ⊢
   refine⟨h4,nX (cy a v) (fun p hp=>hp) (fun p u J' hk=>?_) h5⟩
   exact⟨h1,v,tF (fun t ht=>(cx a u t ht).symm) h3,vJ hQ _ _ _ _ _ _ (gB d3) (fun q hq=>hq) hk⟩
  .simp only[hy,if_false] at h5 ⊢
   obtain⟨u,h6,h7⟩:=h5
   refine⟨h4,u,tF (cy a v) h6,h1,v,tF (fun t ht=>(cx a u t ht).symm) h3,?_⟩
   exact vJ hQ _ _ _ _ _ _ (gB d3) (fun q hq=>hq) h7

end Go.Abs
