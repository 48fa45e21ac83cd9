/- Code and functions: rules for the abstract run. -/
import Derived.Test.YtolmjhgondilhaaGreatNAbs12
set_option linter.unusedSimpArgs false
set_option linter.unusedVariables false
namespace Go.Abs
open Go Go.RowKit

inductive Ex where
 |normal|exit (id:Nat)|ret

def Ex.to:Ex->Exit
 |.normal=>.normal
 |.exit id=>.exit id
 |.ret=>.ret

def CPost (G:Globs)(n:Nat)(K:Nat->Prop)(C:Phi)(J:AHeap)(w:World)(Q:Ex->AAct->AHeap->Prop)(e:Exit)(ca':Act)(w':World):Prop:=
 ∃x C' a' J',e=Ex.to x/\Q x a' J'/\R G C' J' w'/\ARel C' J' w' n a' ca'/\Ext K C J w C' J' w'

def AWP (P:Program)(G:Globs)(n N:Nat)(c:Code)(Q:Ex->AAct->AHeap->Prop)(a:AAct)(J:AHeap):Prop:=
 N<=J.next->∀C w ca,R G C J w->ARel C J w n a ca->c.wp P (CPost G n (·<N) C J w Q) ca w

variable {P:Program} {G:Globs} {n N:Nat} {Q:Ex->AAct->AHeap->Prop} {a:AAct} {J:AHeap}

theorem AWP.mono {c:Code}{Q':Ex->AAct->AHeap->Prop}(h:AWP P G n N c Q a J)(hq:∀x a J,Q x a J->Q' x a J):AWP P G n N c Q' a J:=
 fun hN C w ca hR hA=>wp_mono (h hN C w ca hR hA) fun e ca' w' ⟨x,C',a',J',h1,h2,h3⟩=>⟨x,C',a',J',h1,hq _ _ _ h2,h3⟩

theorem kG {c:Code}(l:List Nat)(h:AWP P G n N c Q (a.keep l) J):AWP P G n N c Q a J:=
 fun hN C w ca hR hA=>h hN C w ca hR (hA.keep l)

theorem Wsk (h:Q .normal a J):AWP P G n N .skip Q a J:=
 fun _ C w ca hR hA=>wp_skip ⟨.normal,C,a,J,rfl,h,hR,hA,Ext.refl _ _ _ _⟩

theorem zK {id:Nat}(h:Q (.exit id) a J):AWP P G n N (.exit id) Q a J:=
 fun _ C w ca hR hA=>wp_exit ⟨.exit id,C,a,J,rfl,h,hR,hA,Ext.refl _ _ _ _⟩

theorem Wr (h:Q .ret a J):AWP P G n N .ret Q a J:=
 fun _ C w ca hR hA=>wp_ret ⟨.ret,C,a,J,rfl,h,hR,hA,Ext.refl _ _ _ _⟩

def thenQ (K:AAct->AHeap->Prop)(Q:Ex->AAct->AHeap->Prop):Ex->AAct->AHeap->Prop
 |.normal,a,J=>K a J
 |e,a,J=>Q e a J

theorem CPost.le {K:Nat->Prop}{C C':Phi}{J':AHeap}{w w' w'':World}{e:Exit}{ca:Act}(h:CPost G n K C' J' w' Q e ca w'')(he:Ext K C J w C' J' w'):CPost G n K C J w Q e ca w'':=by
 obtain⟨x,C2,a2,J2,h1,h2,h3,h4,h5⟩:=h
 exact⟨x,C2,a2,J2,h1,h2,h3,h4,he.trans h5⟩

theorem kP {x y:Code}(h:AWP P G n N x (thenQ (fun a J=>AWP P G n N y Q a J) Q) a J):AWP P G n N (.seq x y) Q a J:=by
 intro hN C w ca hR hA
 refine wp_seq (wp_mono (h hN C w ca hR hA) ?_)
 rintro e ca' w' ⟨x,C',a',J',rfl,h2,h3,h4,h5⟩
 cases x with
 |normal=>
  show Code.wp P y _ ca' w'
  exact wp_mono (h2 (Nat.le_trans hN h5.nx) C' w' ca' h3 h4) fun e ca'' w'' hq=>hq.le h5
 |exit id=>exact⟨.exit id,C',a',J',rfl,h2,h3,h4,h5⟩
 |ret=>exact⟨.ret,C',a',J',rfl,h2,h3,h4,h5⟩

theorem AWP_cond {c:Operand}{x y:Code}(b:Bool)(hc:ev G a c=.bool b)(ht:b=true->AWP P G n N x Q a J)(hf:b=false->AWP P G n N y Q a J):AWP P G n N (.cond c x y) Q a J:=by
 intro hN C w ca hR hA
 have h1:=ev_rel hR hA c (by rw[hc];simp)
 rw[hc] at h1
 generalize hcv:ca.eval c=cv at h1
 cases h1
 exact wp_cond_split hcv (fun e=>ht e hN C w ca hR hA) (fun e=>hf e hN C w ca hR hA)

def blockQ (id:Nat)(Q:Ex->AAct->AHeap->Prop):Ex->AAct->AHeap->Prop
 |.exit id',a,J=>if id'=id then Q .normal a J else Q (.exit id') a J
 |e,a,J=>Q e a J

theorem Wbl {id:Nat}{c:Code}(h:AWP P G n N c (blockQ id Q) a J):AWP P G n N (.block id c) Q a J:=by
 intro hN C w ca hR hA
 refine wp_block (wp_mono (h hN C w ca hR hA) ?_)
 rintro e ca' w' ⟨x,C',a',J',rfl,h2,h3,h4,h5⟩
 cases x with
 |normal=>exact⟨.normal,C',a',J',rfl,h2,h3,h4,h5⟩
 |ret=>exact⟨.ret,C',a',J',rfl,h2,h3,h4,h5⟩
 |exit id'=>
  show Exit.inBlock id _ (.exit id') ca' w'
  simp only[Exit.inBlock,blockQ] at h2 ⊢
  split
  .rename_i e
   rw[if_pos e] at h2
   exact⟨.normal,C',a',J',rfl,h2,h3,h4,h5⟩
  .rename_i e
   rw[if_neg e] at h2
   exact⟨.exit id',C',a',J',rfl,h2,h3,h4,h5⟩

theorem AWP_loop {c:Code}(I:Nat->AAct->AHeap->Prop)(m:Nat)(h0:I m a J)
  (round:∀m a J,I m a J->AWP P G n N c (thenQ (fun a' J'=>∃m',m'<m/\I m' a' J') Q) a J):AWP P G n N (.loop c) Q a J:=by
 intro hN C w ca hR hA
 have key:∀(m:Nat) (a:AAct) (J:AHeap),I m a J->N<=J.next->∀C w ca,R G C J w->ARel C J w n a ca->∀(b:Frame) (k:List Item) (cs:List Frame),
   ∃e a' w',CPost G n (·<N) C J w Q e a' w'/\Arrives P (lone (b.at ca (.code c::.inLoop c::k)) cs w) b k cs e a' w':=by
  intro m
  induction m using Nat.strongRecOn with
  |_ m ih=>
   intro a J hI hN C w ca hR hA b k cs
   obtain⟨e,a₁,w₁,⟨x,C',a',J',rfl,h2,h3,h4,h5⟩,harr⟩:=round m a J hI hN C w ca hR hA b (.inLoop c::k) cs
   cases x with
   |normal=>
    obtain⟨m',hlt,hI'⟩:=h2
    obtain⟨e₂,a₂,w₂,hq₂,harr₂⟩:=ih m' hlt a' J' hI' (Nat.le_trans hN h5.nx) C' w₁ a₁ h3 h4 b k cs
    exact⟨e₂,a₂,w₂,hq₂.le h5,.of_steps (Steps.trans harr (.one step_inLoop)) harr₂⟩
   |exit id=>exact⟨_,a₁,w₁,⟨.exit id,C',a',J',rfl,h2,h3,h4,h5⟩,.pass (x:=.inLoop c) rfl (fun _ _=>.inl (by simp[Ex.to])) harr⟩
   |ret=>exact⟨_,a₁,w₁,⟨.ret,C',a',J',rfl,h2,h3,h4,h5⟩,.pass (x:=.inLoop c) rfl (fun _ _=>.inl (by simp[Ex.to])) harr⟩
 intro b k cs
 obtain⟨e,a',w',hq,harr⟩:=key m a J h0 hN C w ca hR hA b k cs
 exact⟨e,a',w',hq,.of_steps (.one step_loop) harr⟩

theorem Lift.bump {J J0 fr}(h:Lift J J0 fr)(k:Nat):Lift (J.bump k) (J0.bump k) fr:=⟨by simp[AHeap.bump,h.1],h.2.imp fun par hp=>⟨hp.vis,hp.hid,hp.frs⟩⟩
def Phi.bump (C:Phi)(k:Nat):Phi:={C with fl:=C.fl.bump k}
theorem R.bump {G C J w}(hR:R G C J w)(k:Nat)(K:Nat->Prop):R G (C.bump k) (J.bump k) w/\Ext K C J w (C.bump k) (J.bump k) w/\Free (C.bump k) (J.bump k) J.next 0 k:=by
 obtain⟨h1,h2,h3⟩:=hR.base.bump k K
 refine⟨⟨h1,hR.lift.bump k⟩,⟨h2,fun d hd=>⟨hd,rfl⟩,by simp[AHeap.bump]⟩,fun j _ hj=>?_⟩
 have:=h3 j hj
 rw[hR.nxt] at this
 exact this

theorem AWP_region {T:Types}(hT:TOk P T)(alts:List Nat){id:Nat}{ops:Array Oper}{K:AAct->AHeap->Prop}
  (h:AOps P T G n alts (ops.toList.map (·.dst)) J.next K 0 ops.toList a (J.bump ops.size)):AWP P G n N (.region id ops false) (thenQ K Q) a J:=by
 intro hN C w ca hR hA
 obtain⟨h1,h2,h3⟩:=hR.bump ops.size (·<N)
 have hA1:=hA.mono h2
 have h4:=AOps_sound hT ops ops.toList 0 rfl a (J.bump ops.size) h _ w ca h1 hA1 (by simp[AHeap.bump]) h3
 rw[show ops.toList.length=ops.size from rfl,<- List.range_eq_range'] at h4
 refine wp_region (dG h4 ?_)
 rintro e ca' w' ⟨rfl,C',a',J',g1,g2,g3,g4⟩
 exact⟨.normal,C',a',J',rfl,g1,g2,g3,h2.trans (g4.le fun o ho=>Nat.lt_of_lt_of_le ho hN)⟩

def resA (T:Types)(J:AHeap)(a:AAct):List ResultVar->Option (List AV)
 |[]=>some []
 |.tmp t::rs=>(resA T J a rs).map fun r=>a.get t::r
 |.cell t ty::rs=>(loadA T J ty (a.get t)).bind fun v=>(resA T J a rs).map fun r=>v::r

def resV (tmps:Array Value):ResultVar->Sem Value
 |.tmp t=>pure (tmps.getD t undef)
 |.cell t ty=>do loadVar ty (<- asAddr (tmps.getD t undef))

def tupA:List AV->AV
 |[v]=>v
 |vs=>.tup vs

theorem dP {P T G C J w n a ca}(hT:TOk P T)(hR:R G C J w)(hA:ARel C J w n a ca):∀(rs:List ResultVar) (vs:List AV),resA T J a rs=some vs->
  ∃cvs,(rs.mapM (resV ca.tmps)).run P w=.ok cvs w/\vs.length=cvs.length/\
   ∀(i:Nat) (x:AV) (u:Value),vs[i]? =some x->cvs[i]? =some u->VRel C (own C J) w x u
 |[],vs,h=>by simp[resA] at h;subst h;exact⟨[],by simp,rfl,by simp⟩
 |r::rs,vs,h=>by
  have cons:∀(x:AV) (u:Value) (vs:List AV) (cvs:List Value),VRel C (own C J) w x u->vs.length=cvs.length->(∀(i:Nat) (x:AV) (u:Value),vs[i]? =some x->cvs[i]? =some u->VRel C (own C J) w x u)->
    (x::vs).length=(u::cvs).length/\∀(i:Nat) (y:AV) (z:Value),(x::vs)[i]? =some y->(u::cvs)[i]? =some z->VRel C (own C J) w y z:=by
   intro x u vs cvs h1 h2 h3
   refine⟨by simp[h2],fun i y z hy hz=>?_⟩
   cases i with
   |zero=>simp at hy hz;subst hy;subst hz;exact h1
   |succ i=>exact h3 i y z (by simpa using hy) (by simpa using hz)
  cases r with
  |tmp t=>
   simp only[resA] at h
   cases hr:resA T J a rs with
   |none=>simp[hr] at h
   |some vs'=>
    simp[hr] at h
    subst h
    obtain⟨cvs,h1,h2,h3⟩:=dP hT hR hA rs vs' hr
    exact⟨ca.tmps.getD t undef::cvs,by simp only[List.mapM_cons,Sem.run_bind,Sem.run_pure,Result.andThen_ok,resV];rw[h1];rfl,cons _ _ _ _ (hA.rel t) h2 h3⟩
  |cell t ty=>
   simp only[resA] at h
   cases hv:loadA T J ty (a.get t) with
   |none=>simp[hv] at h
   |some v=>
   cases hr:resA T J a rs with
   |none=>simp[hv,hr] at h
   |some vs'=>
    simp[hv,hr] at h
    subst h
    obtain⟨cvs,h1,h2,h3⟩:=dP hT hR hA rs vs' hr
    obtain⟨cv,g1,g2⟩:=loadA_sound (P:=P) hT hR.base (hA.rel t) (loadA_lift hR.lift hv)
    have g3:(do loadVar ty (<- asAddr (ca.tmps.getD t undef)):Sem Value).run P w=.ok cv w:=by
     generalize ca.tmps.getD t undef=q at g1
     cases q with
     |pointer p=>cases p with
      |none=>simp[Instr.loadAt,Instr.sureAddr,stuck,Sem.run] at g1
      |some p=>simpa [Instr.loadAt,Instr.sureAddr,asAddr] using g1
     |_=>simp[Instr.loadAt,Instr.sureAddr,stuck,Sem.run] at g1
    exact⟨cv::cvs,by simp only[List.mapM_cons,Sem.run_bind,resV] at g3 ⊢;rw[g3];simp only[Result.andThen_ok,Sem.run_bind];rw[h1];rfl,cons _ _ _ _ g2 h2 h3⟩

theorem results_run {P:Program}{w:World}(fn:Func)(tmps:Array Value)(cvs:List Value)
  (h:(fn.results.toList.mapM (resV tmps)).run P w=.ok cvs w):
  (results fn tmps).run P w=.ok (if h:cvs.toArray.size=1 then cvs.toArray[0] else .tuple cvs.toArray) w:=by
 have e:results fn tmps=(do let vs <- fn.results.mapM (resV tmps);pure (if h:vs.size=1 then vs[0] else .tuple vs)):=rfl
 rw[e,Sem.run_bind,Array.mapM_eq_mapM_toList,<- bind_pure_comp,Sem.run_bind,h]
 rfl

variable {T:Types}

theorem ACalls_body (hT:TOk P T){f:FuncId}{fn:Func}{c:Code}{args:List AV}{R':AV->AHeap->Prop}(hf:P.funcs[f]? =some fn)(hname:(fn.name== "runtime.NumGoroutine") =false)(hb:fn.body=some c)
  (hargs:args.length<=fn.ntmps)
  (h:AWP P G fn.ntmps J.next c (fun x a' J'=>match x with
   |.exit _=>False
   |_=>∃vs,resA T J' a' fn.results.toList=some vs/\R' (tupA vs) J') ((List.range args.length).zip args) J):ACalls P G f args J R':=by
 refine⟨⟨fn,hf,hname,by simp[hb]⟩,fun C w vs hR hargsR=>?_⟩
 refine calls_of_wp hf hb ?_
 have hA:ARel C J w fn.ntmps ((List.range args.length).zip args) {tmps:=vs++Array.replicate (fn.ntmps-vs.size) undef,defers:=[]}:=by
  refine⟨?_,rfl,fun t=>?_⟩
  .simp;rw[<- hargsR.1];omega
  .have key:∀(l:List AV) (k t:Nat),AAct.get ((List.range' k l.length).zip l) t=if k<=t/\t<k+l.length then l.getD (t-k) .any else .any:=by
    intro l
    induction l with
    |nil=>intro k t;simp[AAct.get]
    |cons x l ih=>
     intro k t
     simp only[List.length_cons,List.range'_succ,List.zip_cons_cons,AAct.get]
     by_cases e:t=k
     .subst e;simp
     .rw[if_neg e,ih]
      by_cases e2:k+1<=t/\t<k+1+l.length
      .rw[if_pos e2,if_pos (by omega),show t-k=(t-(k+1))+1 by omega];simp
      .rw[if_neg e2,if_neg (by omega)]
   rw[List.range_eq_range',key]
   by_cases e:t<args.length
   .rw[if_pos (by omega)]
    have ht:t<vs.size:=by rw[<- hargsR.1];exact e
    have h1:args[t]? =some args[t]:=by simp[e]
    have h2:vs[t]? =some vs[t]:=by simp[ht]
    have h3:args.getD (t-0) .any=args[t]:=by simp[List.getD,h1]
    rw[h3,Array.getD_eq_getD_getElem?,Array.getElem?_append_left ht,h2]
    exact hargsR.2 t _ _ h1 h2
   .rw[if_neg (by omega)];exact .any
 refine wp_mono (h (Nat.le_refl _) C w _ hR hA) ?_
 rintro e ca' w' ⟨x,C',a',J',rfl,h2,h3,h4,h5⟩
 have fin:(∃vs,resA T J' a' fn.results.toList=some vs/\R' (tupA vs) J')->ca'.defers=[]/\∃v,(results fn ca'.tmps).run P w'=.ok v w'/\RetPost G C J w R' (.returned v) w':=by
  rintro⟨vs',g1,g2⟩
  obtain⟨cvs,k1,k2,k3⟩:=dP (P:=P) hT h3 h4 fn.results.toList vs' g1
  refine⟨h4.defers,_,results_run fn ca'.tmps cvs k1,_,tupA vs',C',J',rfl,g2,h3,h5,?_⟩
  by_cases e:cvs.toArray.size=1
  .rw[dif_pos e]
   match vs',cvs,k2,e with
   |[x],[u],_,_=>exact k3 0 x u rfl rfl
   |[],[u],h,_=>simp at h
   |x::y::l,[u],h,_=>simp at h
  .rw[dif_neg e]
   have:tupA vs'=.tup vs':=by
    match vs',k2 with
    |[],_=>rfl
    |[x],h=>simp at h e;omega
    |x::y::l,_=>rfl
   rw[this]
   exact .tup (by simpa using k2) fun i x u hx hu=>k3 i x u hx (by simpa using hu)
 cases x with
 |normal=>exact fin h2
 |ret=>exact fin h2
 |exit id=>exact h2.elim

end Go.Abs
