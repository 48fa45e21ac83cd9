/- Regions, code, functions: from the abstract run to the machine's. -/
import Derived.Test.YtolmjhgondilhaaGreatNAbsL2
set_option linter.unusedSimpArgs false
set_option linter.unusedVariables false
namespace Go.Abs
open Go Go.RowKit

theorem upon_mono {P:Program}{o:Oper}{a:Act}{next next':Act->World->Prop}{Q Q':Exit->Act->World->Prop}(hn:∀a w,next a w->next' a w)(hq:∀e a w,Q e a w->Q' e a w){r:Result Next}
  (h:o.upon P a next Q r):o.upon P a next' Q' r:=by
 have lets:LetsOut Q->LetsOut Q':=fun⟨a,w,h⟩=>⟨a,w,hq _ _ _ h⟩
 unfold Oper.upon at h ⊢
 split<;>simp only at h
 .exact hn _ _ h
 .exact hn _ _ h
 .exact hn _ _ h
 .refine h.mono fun e w' h'=>?_
  cases e with
  |returned v=>exact hn _ _ h'
  |panicked c=>exact hq _ _ _ h'
  |outgrown=>exact lets h'
 .exact h.mono fun v w' h'=>hn _ _ h'
 .exact hq _ _ _ h

theorem dG {P:Program}{ops:Array Oper}{Q Q':Exit->Act->World->Prop}:∀{l:List Nat} {a:Act} {w:World},wpOps P ops Q l a w->(∀e a w,Q e a w->Q' e a w)->wpOps P ops Q' l a w:=by
 intro l
 induction l with
 |nil=>intro a w h hq;exact hq _ _ _ h
 |cons i l ih=>
  intro a w h hq
  simp only[wpOps] at h ⊢
  split
  .rename_i ho;rw[ho] at h;exact ih h hq
  .rename_i o ho
   rw[ho] at h
   simp only at h
   split
   .rename_i hw
    rw[if_pos hw] at h
    exact h.imp (fun h=>upon_mono (fun _ _ h=>ih h hq) hq h) fun⟨h1,a,w,h2⟩=>⟨h1,a,w,hq _ _ _ h2⟩
   .rename_i hw
    rw[if_neg hw] at h
    exact ih h hq

theorem dI {P T G C J w n a ca alt id o f args}(hR:R G C J w)(hA:ARel C J w n a ca)(h:stepO T G alt id o a J=.call f args)(hf:mZ P f):
  ∃vs,(execOp ca.eval o).run P w=.ok (.enter f vs) w/\ArgsRel C (own C J) w args vs:=by
 unfold stepO at h
 split at h
 case h_9=>
  rename_i f' args' _ hop
  unfold callA at h
  split at h
  .rename_i fid first cap hf'
   split at h
   .rename_i hall
    simp at h
    obtain⟨rfl,rfl⟩:=h
    have h1:=ev_rel hR hA f' (by rw[hf'];simp)
    rw[hf'] at h1
    generalize hcf:ca.eval f'=cf at h1
    cases h1 with
    |clo hl hv hl' hv'=>
     rename_i vfs vcs
     have h2:=evs_rel hR hA args' hall
     obtain⟨fn,g1,g2,g3⟩:=hf
     have g2':¬fn.name= "runtime.NumGoroutine" :=by simpa using g2
     have g3':¬fn.body=none:=by rw[<- Option.isNone_iff_eq_none,g3];simp
     refine⟨vfs++(args'.map ca.eval++vcs),?_,ArgsRel.append ⟨hl,hv⟩ (ArgsRel.append (by have:=h2.weak;rwa [List.map_map] at this) ⟨hl',hv'⟩)⟩
     simp[execOp,hop,resolve,hcf,Deferred.ofValue,invoke,callFunc,g1,g2',g3']
   .cases h
  .cases h
 all_goals
  (try simp only[St.ofO,St.ofV] at h)
  repeat' (first|(cases h;done)|split at h)

theorem getD_toB {arr:Array Value}{t:Nat}{b:Bool}(h:arr.getD t undef=.bool b):arr[t]? =some (.bool b):=by
 rw[Array.getD_eq_getD_getElem?] at h
 cases hx:arr[t]? with
 |none=>rw[hx] at h;simp[undef] at h
 |some v=>rw[hx] at h;simp at h;rw[h]

def Free (C:Phi)(J:AHeap)(base i m:Nat):Prop:=∀j,i<=j->j<m->C.fl.objs (base+j)=none/\C.nm (base+j)=none

theorem Free.ext {C J w C' J' w' base i m}{K:Nat->Prop}(h:Free C J base i m)(he:Ext K C J w C' J' w')(hK:∀j,i+1<=j->j<m->K (base+j)):Free C' J' base (i+1) m:=by
 intro j h1 h2
 have h3:=h j (by omega) h2
 have h4:=he.base.keep _ (hK j h1 h2)
 exact⟨h4.2 h3.1,h4.1.trans h3.2⟩

theorem RegPost.le {G n C J w Q e ca' w' C0 J0 w0}{K K0:Nat->Prop}(h:RegPost G n K C J w Q e ca' w')(he:Ext K0 C0 J0 w0 C J w)(hK:∀o,K0 o->K o):RegPost G n K0 C0 J0 w0 Q e ca' w':=by
 obtain⟨h1,C',a',J',h2,h3,h4,h5⟩:=h
 exact⟨h1,C',a',J',h2,h3,h4,he.trans (h5.le hK)⟩

theorem AOps_sound {P T G n alts base Q}(hT:TOk P T)(ops:Array Oper):∀(l:List Oper) (i:Nat),ops.toList.drop i=l->∀(a:AAct) (J:AHeap),AOps P T G n alts (ops.toList.map (·.dst)) base Q i l a J->
  ∀C w ca,R G C J w->ARel C J w n a ca->base+ops.size<=J.next->Free C J base i ops.size->wpOps P ops (RegPost G n (·<base) C J w Q) (List.range' i l.length) ca w:=by
 intro l
 induction l with
 |nil=>
  intro i _ a J h C w ca hR hA _ _
  exact⟨rfl,C,a,J,h,hR,hA,Ext.refl _ _ _ _⟩
 |cons o l ih=>
  intro i hl a J h C w ca hR hA hn hF
  have ho:ops.toList[i]? =some o:=by
   have:=congrArg (·[0]?) hl
   simpa using this
  have ho':ops[i]? =some o:=by simpa using ho
  have hi:i<ops.size:=(Array.getElem?_eq_some_iff.1 ho').1
  have hl':ops.toList.drop (i+1)=l:=by
   rw[<- List.tail_drop,hl];rfl
  simp only[List.length_cons,List.range'_succ,wpOps,ho']
  obtain⟨hd,hg⟩:=h
  have hd':∀x,o.dst=some x->x<n:=by intro x hx;rw[hx] at hd;simpa [dstOk] using hd
  have hid:base+i<J.next:=by omega
  have hfree:=hF i (Nat.le_refl _) hi

  have run:∀(a:AAct),ARel C J w n a ca->(match stepO T G (alts.contains i) (base+i) o a J with
    |.val v J'=>AOps P T G n alts (ops.toList.map (·.dst)) base Q (i+1) l (a.put o.dst v) J'
    |.call f args=>ACalls P G f args J fun r J'=>AOps P T G n alts (ops.toList.map (·.dst)) base Q (i+1) l (a.put o.dst r) J'
    |.bad=>False)->o.wp P ca w (wpOps P ops (RegPost G n (·<base) C J w Q) (List.range' (i+1) l.length)) (RegPost G n (·<base) C J w Q):=by
   intro a hA h
   split at h
   .rename_i v J' hs
    obtain⟨cv,w',hrun,C',h1,h2,h3⟩:=stepO_val (P:=P) hT hR hA hid hfree.1 hfree.2 hs
    have hnext:=ih (i+1) hl' (a.put o.dst v) J' h C' w' (ca.put o.dst cv) h1 ((hA.mono h2).put hd' h3) (Nat.le_trans hn h2.nx) (hF.ext h2 fun j hj _=>by show base+j≠base+i;omega)
    have hmono:wpOps P ops (RegPost G n (·<base) C J w Q) (List.range' (i+1) l.length) (ca.put o.dst cv) w':=
     dG hnext fun e ca' w'' hq=>hq.le (h2.le fun o ho=>by show o≠base+i;have:o<base:=ho;omega) fun o ho=>ho
    unfold Oper.wp
    rcases hrun with hrun|⟨hrun,rfl⟩
    .rw[hrun];exact hmono
    .rw[hrun];exact hmono
   .rename_i f args hs
    obtain⟨vs,hrun,hargs⟩:=dI (P:=P) hR hA hs h.1
    unfold Oper.wp
    rw[hrun]
    refine(h.2 C w vs hR hargs).mono ?_
    rintro e w' ⟨v,r,C',J',rfl,h1,h2,h3,h4⟩
    have hnext:=ih (i+1) hl' (a.put o.dst r) J' h1 C' w' (ca.put o.dst v) h2 ((hA.mono h3).put hd' h4) (Nat.le_trans hn h3.nx) (hF.ext h3 fun j _ hj=>by show base+j<J.next;omega)
    exact dG hnext fun e ca' w'' hq=>hq.le (h3.le fun o ho=>by show o<J.next;have:o<base:=ho;omega) fun o ho=>ho
   .exact h.elim

  have skip:∀(a:AAct),ARel C J w n a ca->AOps P T G n alts (ops.toList.map (·.dst)) base Q (i+1) l (a.put o.dst (.tup [])) J->wpOps P ops (RegPost G n (·<base) C J w Q) (List.range' (i+1) l.length) (ca.put o.dst undef) w:=by
   intro a hA h
   exact ih (i+1) hl' (a.put o.dst (.tup [])) J h C w (ca.put o.dst undef) hR (hA.put hd' VRel.und) hn fun j h1 h2=>hF j (by omega) h2
  cases hgd:o.guard with
  |none=>
   simp only[hgd] at hg
   rw[if_pos (by simp[Region.wanted,hgd])]
   exact .inl (run a hA hg)
  |some jw=>
   obtain⟨j,want⟩:=jw
   simp only[hgd] at hg
   split at hg
   .rename_i t ht
    split at hg
    .rename_i b hb
     have h1:=hA.rel t
     rw[hb] at h1
     have h2:ca.tmps[t]? =some (.bool b):=by
      generalize hcv:ca.tmps.getD t undef=cv at h1
      cases h1
      exact getD_toB hcv
     have hy:yielded ops ca.tmps j=some b:=by
      have ht':(ops[j]?).bind (·.dst)=some t:=by
       rw[List.getElem?_map] at ht
       cases hj:ops.toList[j]? with
       |none=>simp[hj] at ht
       |some oj=>
        simp[hj] at ht
        have:ops[j]? =some oj:=by simpa using hj
        simp[this,ht]
      simp[yielded,ht',h2]
     have hput:∀b',b=b'->ARel C J w n ((t,.bool b')::a) ca:=by
      intro b' e
      subst e
      refine⟨hA.size,hA.defers,fun k=>?_⟩
      simp only[AAct.get]
      split
      .rename_i e;subst e
       have:=hA.rel k
       rwa [hb] at this
      .exact hA.rel k
     by_cases e:b=want
     .subst e
      rw[if_pos (by simp[Region.wanted,hgd,hy])]
      exact .inl (run _ (hput b rfl) (hg.1 rfl))
     .rw[if_neg (by simp[Region.wanted,hgd,hy,e])]
      have e':b= !want:=by cases b<;>cases want<;>simp_all
      exact skip _ (hput _ e') (hg.2 e')
    .rename_i hb
     have h1:=hA.rel t
     rw[hb] at h1
     have hcv:=h1.und_eq
     have hy:yielded ops ca.tmps j=none:=by
      have ht':(ops[j]?).bind (·.dst)=some t:=by
       rw[List.getElem?_map] at ht
       cases hj:ops.toList[j]? with
       |none=>simp[hj] at ht
       |some oj=>
        simp[hj] at ht
        have:ops[j]? =some oj:=by simpa using hj
        simp[this,ht]
      simp only[yielded,ht',Option.bind_some]
      rw[Array.getD_eq_getD_getElem?] at hcv
      cases hq:ca.tmps[t]? with
      |none=>rfl
      |some x=>rw[hq] at hcv;simp only[Option.getD_some] at hcv;subst hcv;rfl
     rw[if_neg (by simp[Region.wanted,hgd,hy])]
     exact skip _ hA hg
    .exact hg.elim
   .exact hg.elim

end Go.Abs
