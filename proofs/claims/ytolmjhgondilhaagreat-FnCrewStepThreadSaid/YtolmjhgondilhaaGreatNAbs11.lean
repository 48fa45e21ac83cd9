/- One operation after the other; calls; regions. -/
import Derived.Test.YtolmjhgondilhaaGreatNAbsAZ
set_option linter.unusedSimpArgs false
set_option linter.unusedVariables false
namespace Go.Abs
open Go Go.RowKit

inductive St where
 |val (v:AV) (J:AHeap)
 |call (f:FuncId) (args:List AV)
 |bad

def St.ofO:Option (AV×AHeap)->St
 |some (v,J)=>.val v J
 |none=>.bad
def St.ofV (v:Option AV)(J:AHeap):St:=
 match v with
 |some v=>.val v J
 |none=>.bad

def AV.weakS (alt:Bool)(x:AV):AV:=
 match alt,x with
 |true,.agg cs=>.agg cs
 |true,.esl=>.esl
 |_,x=>x.weak
def uB (G:Globs)(alt:Bool)(a:AAct)(ps:Array (Nat×Operand)):List (Nat×AV):=ps.toList.map fun p=>(p.1,(ev G a p.2).weakS alt)
def uM (G:Globs)(a:AAct)(ps:Array (Nat×Operand)):List (Nat×AV):=ps.toList.map fun p=>(p.1,(ev G a p.2).weak)

def nilA (T:Types)(ty:TypeId)(id:Nat)(x:AV)(J:AHeap):Option (AV×AHeap):=
 match x,T.kind ty with
 |.nilsl,some (.slice e)=>(T e).map fun ti=>(.sl id 0 0,J.put id ⟨e,ti.sz,[]⟩)
 |_,_=>none

def AV.good:AV->Bool
 |.bad=>false
 |_=>true

def callA (f:AV)(args:List AV):St:=
 match f with
 |.clo fid first cap=>if args.all AV.good then .call fid (first++args.map AV.weak++cap) else .bad
 |_=>.bad

def stepO (T:Types)(G:Globs)(alt:Bool)(id:Nat)(o:Oper)(a:AAct)(J:AHeap):St:=
 match o.op with
 |.alloc e=>.ofO (mX T e alt id J)
 |.box e x=>.ofO (boxA T e alt id (ev G a x) J)
 |.build t parts=>.ofV (if(uM G a parts).all (fun p=>p.2.good) then buildA T alt t (uM G a parts) else none) J
 |.buildSlice t len parts=>.ofO (if(uB G alt a parts).all (fun p=>p.2.good) then bsA T t alt id len (uB G alt a parts) J else none)
 |.store t x v=>match(if(ev G a x).good&&(ev G a v).good then qO T t (ev G a x) (ev G a v) J else none) with|some J'=>.val .any J'|none=>.bad
 |.makeSlice t l c=>.ofO (makeA T t alt id (ev G a l) (ev G a c) J)
 |.slice t x lo hi none=>.ofV (cutA T J t (ev G a x) (lo.map (ev G a)) (hi.map (ev G a))) J
 |.call {callee:=.builtin .append,args,argTypes}=>match args.toList,argTypes.toList with
  |[s,x],[t,t']=>if t=t' then .ofO (if alt then jM T t (ev G a s) (ev G a x) J else kF T t id (ev G a s) (ev G a x) J) else if alt then .bad else .ofO (wV T t t' id (ev G a s) (ev G a x) J)
  |_,_=>.bad
 |.call {callee:=.value f,args,.. }=>callA (ev G a f) (args.toList.map (ev G a))
 |.assign x=>if alt then .ofO (nilA T o.type id (ev G a x) J) else .ofV (stepP T G (.assign x) a J) J
 |op=>.ofV (stepP T G op a J) J

def ArgsRel (C:Phi0)(ow:Nat->Prop)(w:World)(args:List AV)(vs:Array Value):Prop:=
 args.length=vs.size/\∀(i:Nat) (x:AV) (u:Value),args[i]? =some x->vs[i]? =some u->VRel C ow w x u

theorem AV.weak_good {x:AV}(h:x.weak.good=true):x.good=true:=by cases x<;>first|rfl|exact h
theorem AV.weakS_good {alt:Bool}{x:AV}(h:(x.weakS alt).good=true):x.good=true:=by
 cases alt
 .exact AV.weak_good h
 .cases x with
  |agg cs=>exact h
  |esl=>exact h
  |_=>exact AV.weak_good h
theorem VRel.weakS {C:Phi0}{ow:Nat->Prop}{w:World}{x:AV}{v:Value}(alt:Bool)(h:VRel C ow w x v):VRel C ow w (x.weakS alt) v:=by
 cases alt
 .exact h.weak
 .cases x with
  |agg cs=>exact h
  |esl=>exact h
  |_=>exact h.weak
theorem good_ne {x:AV}(h:x.good=true):x≠.bad:=by rintro rfl;cases h

theorem ArgsRel.append {C ow w}{as bs:List AV}{va vb:Array Value}(h:ArgsRel C ow w as va)(k:ArgsRel C ow w bs vb):ArgsRel C ow w (as++bs) (va++vb):=by
 refine⟨by simp[h.1,k.1],fun i x u hx hu=>?_⟩
 rw[List.getElem?_append] at hx
 rw[Array.getElem?_append] at hu
 split at hx
 .rename_i hlt
  rw[if_pos (by rw[<- h.1];exact hlt)] at hu
  exact h.2 i x u hx hu
 .rename_i hge
  rw[if_neg (by rw[<- h.1];exact hge),<- h.1] at hu
  exact k.2 _ x u hx hu

theorem ArgsRel.weak {C ow w}{as:List AV}{va:Array Value}(h:ArgsRel C ow w as va):ArgsRel C ow w (as.map AV.weak) va:=by
 refine⟨by rw[List.length_map];exact h.1,fun i x u hx hu=>?_⟩
 rw[List.getElem?_map] at hx
 cases h':as[i]? with
 |none=>simp[h'] at hx
 |some y=>simp[h'] at hx;subst hx;exact(h.2 i y u h' hu).weak

theorem evs_rel0 {G C J w n a ca}(hR:R0 G C J w)(hA:ARel0 C J w n a ca)(xs:Array Operand)(h:(xs.toList.map (ev G a)).all AV.good=true):ArgsRel C (own0 C J) w (xs.toList.map (ev G a)) (xs.map ca.eval):=by
 refine⟨by simp,fun i x u hx hu=>?_⟩
 simp only[List.getElem?_map,Array.getElem?_toList] at hx
 simp only[Array.getElem?_map] at hu
 cases hi:xs[i]? with
 |none=>simp[hi] at hx
 |some y=>
  simp[hi] at hx hu
  subst hx;subst hu
  refine ev_rel0 hR hA y (good_ne ?_)
  simp only[List.all_eq_true] at h
  exact h _ (List.mem_map.2 ⟨y,Array.mem_toList_iff.2 (Array.mem_of_getElem? hi),rfl⟩)

theorem stepO_val0 {P T G C J w n a ca alt id o v J'}(hT:TOk P T)(hR:R0 G C J w)(hA:ARel0 C J w n a ca)(hid:id<J.next)(ho:J.objs id=none)(hC:C id=none)
  (h:stepO T G alt id o a J=.val v J'):
  ∃cv w',((execOp ca.eval o).run P w=.ok (.value cv) w'\/((execOp ca.eval o).run P w=.ok .skip w'/\cv=undef))/\HPost0 G id C J w v J' cv w':=by
 have E:∀x,ev G a x≠.bad->VRel C (own0 C J) w (ev G a x) (ca.eval x):=fun x=>ev_rel0 hR hA x
 have pure_case:∀(op:Op) (v:AV),o.op=op->stepP T G op a J=some v->∃cv w',((execOp ca.eval o).run P w=.ok (.value cv) w'\/((execOp ca.eval o).run P w=.ok .skip w'/\cv=undef))/\HPost0 G id C J w v J cv w':=by
  intro op v hop hs
  obtain⟨cv,h1,h2⟩:=stepP_sound (P:=P) (o:=o) hT hR hA (by rw[hop];exact hs)
  exact⟨cv,w,.inl h1,C,hR,Ext0.refl _ _ _ _,h2⟩
 have parts:∀(ps:Array (Nat×Operand)),(uM G a ps).all (fun p=>p.2.good)=true->(uM G a ps).length=(ps.map fun(i,x)=>(i,ca.eval x)).size/\
   ∀(k:Nat) (p:Nat×AV) (q:Nat×Value),(uM G a ps)[k]? =some p->(ps.map fun(i,x)=>(i,ca.eval x))[k]? =some q->p.1=q.1/\VRel C (own0 C J) w p.2 q.2:=by
  intro ps hall
  refine⟨by simp[uM],fun k p q hp hq=>?_⟩
  simp only[uM,List.getElem?_map,Array.getElem?_toList] at hp
  simp only[Array.getElem?_map] at hq
  cases hk:ps[k]? with
  |none=>simp[hk] at hp
  |some y=>
   simp[hk] at hp hq
   subst hp;subst hq
   refine⟨rfl,(E _ (good_ne ?_)).weak⟩
   simp only[uM,List.all_map,List.all_eq_true] at hall
   exact AV.weak_good (hall y (Array.mem_toList_iff.2 (Array.mem_of_getElem? hk)))
 unfold stepO at h
 split at h
 .rename_i e hop
  cases hs:mX T e alt id J with
  |none=>simp[hs,St.ofO] at h
  |some y=>
   obtain⟨v',J1⟩:=y
   simp[hs,St.ofO] at h
   obtain⟨rfl,rfl⟩:=h
   obtain⟨cv,w',h1,h2⟩:=allocA_sound (P:=P) hT hR hid ho hC hs
   exact⟨cv,w',.inl (by simp[execOp,hop,h1]),h2⟩
 .rename_i e x hop
  cases hs:boxA T e alt id (ev G a x) J with
  |none=>simp[hs,St.ofO] at h
  |some y=>
   obtain⟨v',J1⟩:=y
   simp[hs,St.ofO] at h
   obtain⟨rfl,rfl⟩:=h
   have hb:ev G a x≠.bad:=by intro e;rw[e] at hs;simp[boxA,AV.cells,sH,AV.one] at hs
   obtain⟨cv,w',h1,h2⟩:=boxA_sound (P:=P) hR hid ho hC (E x hb) hs
   exact⟨cv,w',.inl (by simp[execOp,hop,h1]),h2⟩
 .rename_i t ps hop
  split at h
  .rename_i hall
   cases hs:buildA T alt t (uM G a ps) with
   |none=>simp[hs,St.ofV] at h
   |some y=>
    simp[hs,St.ofV] at h
    obtain⟨rfl,rfl⟩:=h
    obtain⟨p1,p2⟩:=parts ps hall
    obtain⟨cv,h1,h2⟩:=buildA_sound (P:=P) hT p1 p2 hs
    exact⟨cv,w,.inl (by simp only[execOp,hop,Sem.run_bind];rw[h1];rfl),C,hR,Ext0.refl _ _ _ _,h2⟩
  .simp[St.ofV] at h
 .rename_i t len ps hop
  have partsB:∀(ps:Array (Nat×Operand)),(uB G alt a ps).all (fun p=>p.2.good)=true->(uB G alt a ps).length=(ps.map fun(i,x)=>(i,ca.eval x)).size/\
    ∀(k:Nat) (p:Nat×AV) (q:Nat×Value),(uB G alt a ps)[k]? =some p->(ps.map fun(i,x)=>(i,ca.eval x))[k]? =some q->p.1=q.1/\VRel C (own0 C J) w p.2 q.2:=by
   intro ps hall
   refine⟨by simp[uB],fun k p q hp hq=>?_⟩
   simp only[uB,List.getElem?_map,Array.getElem?_toList] at hp
   simp only[Array.getElem?_map] at hq
   cases hk:ps[k]? with
   |none=>simp[hk] at hp
   |some y=>
    simp[hk] at hp hq
    subst hp;subst hq
    refine⟨rfl,(E _ (good_ne ?_)).weakS alt⟩
    simp only[uB,List.all_map,List.all_eq_true] at hall
    exact AV.weakS_good (hall y (Array.mem_toList_iff.2 (Array.mem_of_getElem? hk)))
  split at h
  .rename_i hall
   cases hs:bsA T t alt id len (uB G alt a ps) J with
   |none=>simp[hs,St.ofO] at h
   |some y=>
    obtain⟨v',J1⟩:=y
    simp[hs,St.ofO] at h
    obtain⟨rfl,rfl⟩:=h
    obtain⟨p1,p2⟩:=partsB ps hall
    obtain⟨cv,w',h1,h2⟩:=dZ (P:=P) hT hR hid ho hC p1 p2 hs
    exact⟨cv,w',.inl (by simp only[execOp,hop,Sem.run_bind];rw[h1];rfl),h2⟩
  .simp[St.ofO] at h
 .rename_i t x y hop
  split at h
  .rename_i J1 hs
   split at hs
   .rename_i hg
    simp only[Bool.and_eq_true] at hg
    simp at h
    obtain⟨rfl,rfl⟩:=h
    obtain⟨w',h1,h2,h3⟩:=storeA_sound (P:=P) (·≠id) hT hR (E x (good_ne hg.1)) (E y (good_ne hg.2)) hs
    exact⟨undef,w',.inr ⟨by simp[execOp,hop,h1],rfl⟩,C,h2,h3,.any⟩
   .cases hs
  .cases h
 .rename_i t l c hop
  cases hs:makeA T t alt id (ev G a l) (ev G a c) J with
  |none=>simp[hs,St.ofO] at h
  |some y=>
   obtain⟨v',J1⟩:=y
   simp[hs,St.ofO] at h
   obtain⟨rfl,rfl⟩:=h
   have hb:ev G a l≠.bad:=by intro e;rw[e] at hs;unfold makeA at hs;split at hs<;>simp_all
   have hb':ev G a c≠.bad:=by intro e;rw[e] at hs;unfold makeA at hs;split at hs<;>simp_all
   obtain⟨cv,w',h1,h2⟩:=makeA_sound (P:=P) hT hR hid ho hC (E l hb) (E c hb') hs
   exact⟨cv,w',.inl (by simp[execOp,hop,h1]),h2⟩
 .rename_i t x lo hi hop
  cases hs:cutA T J t (ev G a x) (lo.map (ev G a)) (hi.map (ev G a)) with
  |none=>simp[hs,St.ofV] at h
  |some y=>
   simp[hs,St.ofV] at h
   obtain⟨rfl,rfl⟩:=h
   have hb:ev G a x≠.bad:=by intro e;rw[e] at hs;unfold cutA at hs;split at hs<;>simp_all [lowA,highA]
   have hlo:(lo.map (ev G a)=none/\lo.map ca.eval=none)\/∃y cy,lo.map (ev G a)=some y/\lo.map ca.eval=some cy/\VRel C (own0 C J) w y cy:=by
    cases lo with
    |none=>exact .inl ⟨rfl,rfl⟩
    |some y=>
     refine .inr ⟨_,_,rfl,rfl,E y (fun e=>?_)⟩
     rw[Option.map_some,e] at hs
     unfold cutA at hs;split at hs<;>simp_all [lowA,highA]
   have hhi:(hi.map (ev G a)=none/\hi.map ca.eval=none)\/∃y cy,hi.map (ev G a)=some y/\hi.map ca.eval=some cy/\VRel C (own0 C J) w y cy:=by
    cases hi with
    |none=>exact .inl ⟨rfl,rfl⟩
    |some y=>
     refine .inr ⟨_,_,rfl,rfl,E y (fun e=>?_)⟩
     have hm:(some y).map (ev G a)=some .bad:=by rw[Option.map_some,e]
     rw[hm] at hs
     unfold cutA at hs;split at hs<;>simp_all [lowA,highA]
   obtain⟨cv,h1,h2⟩:=cutA_sound (P:=P) hT hR (E x hb) hlo hhi hs
   exact⟨cv,w,.inl (by simp[execOp,hop,h1]),C,hR,Ext0.refl _ _ _ _,h2⟩
 .rename_i args ats hop
  split at h
  .rename_i s x t t' ha hat
   split at h
   .rename_i htt
    subst htt
    have e1:args= #[s,x]:=by rw[<- Array.toArray_toList (xs:=args),ha]
    have e2:ats= #[t,t]:=by rw[<- Array.toArray_toList (xs:=ats),hat]
    subst e1;subst e2
    cases alt
    case true=>
     simp only[if_true] at h
     cases hs:jM T t (ev G a s) (ev G a x) J with
     |none=>simp[hs,St.ofO] at h
     |some y=>
      obtain⟨v',J1⟩:=y
      simp[hs,St.ofO] at h
      obtain⟨rfl,rfl⟩:=h
      have hb:ev G a s≠.bad:=by
       intro e;rw[e] at hs;unfold jM at hs
       split at hs
       .rename_i e' _
        cases he:T e' with
        |none=>simp[he] at hs
        |some ti=>cases hx:srcA ti J (ev G a x) with
         |none=>simp[he,hx] at hs
         |some E=>simp[he,hx,AV.noRoom] at hs
       .cases hs
      have hb':ev G a x≠.bad:=by
       intro e;rw[e] at hs;unfold jM at hs
       split at hs
       .rename_i e' _
        cases he:T e' with
        |none=>simp[he] at hs
        |some ti=>simp[he,srcA] at hs
       .cases hs
      obtain⟨cv,w',h1,h2⟩:=appendF_sound (P:=P) (ty:=o.type) hT hR hid ho hC (E s hb) (E x hb') hs
      exact⟨cv,w',.inl (by simp[execOp,hop,resolve,invoke,builtin,h1]),h2⟩
    simp only[Bool.false_eq_true,if_false] at h
    cases hs:kF T t id (ev G a s) (ev G a x) J with
    |none=>simp[hs,St.ofO] at h
    |some y=>
     obtain⟨v',J1⟩:=y
     simp[hs,St.ofO] at h
     obtain⟨rfl,rfl⟩:=h
     have hb:ev G a s≠.bad:=by
      intro e;rw[e] at hs;unfold kF at hs
      split at hs
      .rename_i e' _
       cases he:T e' with
       |none=>simp[he] at hs
       |some ti=>cases hx:srcA ti J (ev G a x) with
        |none=>simp[he,hx] at hs
        |some E=>simp[he,hx] at hs
      .cases hs
     have hb':ev G a x≠.bad:=by
      intro e;rw[e] at hs;unfold kF at hs
      split at hs
      .rename_i e' _
       cases he:T e' with
       |none=>simp[he] at hs
       |some ti=>simp[he,srcA] at hs
      .cases hs
     obtain⟨cv,w',h1,h2⟩:=dD (P:=P) (ty:=o.type) hT hR hid ho hC (E s hb) (E x hb') hs
     exact⟨cv,w',.inl (by simp[execOp,hop,resolve,invoke,builtin,h1]),h2⟩
   .have e1:args= #[s,x]:=by rw[<- Array.toArray_toList (xs:=args),ha]
    have e2:ats= #[t,t']:=by rw[<- Array.toArray_toList (xs:=ats),hat]
    subst e1;subst e2
    cases alt
    case true=>simp at h
    simp only[Bool.false_eq_true,if_false] at h
    cases hs:wV T t t' id (ev G a s) (ev G a x) J with
    |none=>simp[hs,St.ofO] at h
    |some y=>
     obtain⟨v',J1⟩:=y
     simp[hs,St.ofO] at h
     obtain⟨rfl,rfl⟩:=h
     obtain⟨hb,hb'⟩:=appendZ_ne hs
     obtain⟨cv,w',h1,h2⟩:=appendZ_sound (P:=P) (ty:=o.type) hT hR hid ho hC (E s hb) (E x hb') hs
     exact⟨cv,w',.inl (by simp[execOp,hop,resolve,invoke,builtin,h1]),h2⟩
  .cases h
 .rename_i f args _ hop
  unfold callA at h
  split at h
  .split at h<;>cases h
  .cases h
 .rename_i x hop
  split at h
  .cases hs:nilA T o.type id (ev G a x) J with
   |none=>simp[hs,St.ofO] at h
   |some y=>
    obtain⟨v',J1⟩:=y
    simp[hs,St.ofO] at h
    obtain⟨rfl,rfl⟩:=h
    unfold nilA at hs
    split at hs
    .rename_i e he hk
     cases hte:T e with
     |none=>simp[hte] at hs
     |some ti=>
      simp[hte] at hs
      obtain⟨rfl,rfl⟩:=hs
      have hx:=E x (by rw[he];simp)
      rw[he] at hx
      generalize hcx:ca.eval x=cx at hx
      cases hx
      obtain⟨g1,g2⟩:=hR.newv (ty:=e) (sz:=ti.sz) hid ho hC
      exact⟨.slice none 0 0,w,.inl (by simp[execOp,hop,hcx]),_,g1,g2,.sl0 (b:=0) (sz:=0) (by simp[setC])⟩
    .cases hs
  .cases hs:stepP T G (.assign x) a J with
   |none=>simp[hs,St.ofV] at h
   |some y=>
    simp[hs,St.ofV] at h
    obtain⟨rfl,rfl⟩:=h
    exact pure_case _ _ hop hs
 .rename_i op _ _ _ _ _ _ _ _ _ _
  cases hs:stepP T G o.op a J with
  |none=>simp[hs,St.ofV] at h
  |some y=>
   simp[hs,St.ofV] at h
   obtain⟨rfl,rfl⟩:=h
   exact pure_case _ _ rfl hs

end Go.Abs
