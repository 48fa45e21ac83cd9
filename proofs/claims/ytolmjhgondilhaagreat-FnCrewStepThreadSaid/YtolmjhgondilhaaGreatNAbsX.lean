/- The rules by which a walk goes through code. -/
import Derived.Test.YtolmjhgondilhaaGreatNAbsR
set_option linter.unusedSimpArgs false
set_option linter.unusedVariables false
namespace Go.Abs
open Go

@[simp] theorem E0_o (o:Nat):E0 o=none:=rfl

section
variable {P:Program} {T:Types} {G:Globs} {n N:Nat} {Q:Ex->AAct->AHeap->Prop} {a:AAct} {J:AHeap}

theorem jC (hT:TOk P T)(alts l:List Nat)(I:AAct->AHeap->Prop){id:Nat}{ops:List Oper}{y:Code}
    (h:∀K:AAct->AHeap->Prop,(∀a J,I (a.keep l) J->K a J)->AOz P T G n alts (ops.map (·.dst)) J.next K 0 ops a (J.bump ops.length) .mk .mk)
    (k:∀a J,I a J->AWP P G n N y Q a J):AWP P G n N (.seq (.region id ops.toArray false) y) Q a J:=
  kP (dE hT alts (h _ fun a J hi=>kG l (k _ J hi)))
theorem gO (hT:TOk P T)(hm:P.follows .mixedOrders=true)(alts hs ord l:List Nat)(I:AAct->AHeap->Prop){id:Nat}{ops:List Oper}{y:Code}
    (hc:gM alts ops.toArray hs (fun _=>[]) ord=true)
    (h:∀K:AAct->AHeap->Prop,(∀a J,I (a.keep l) J->K a J)->ADz P T G n alts (ops.map (·.dst)) J.next hs K (pickL ops ord) a (J.bump ops.length) .mk .mk)
    (k:∀a J,I a J->AWP P G n N y Q a J):AWP P G n N (.seq (.region id ops.toArray true) y) Q a J:=
  kP (AWP_drawl hT hm alts hs ord hc (h _ fun a J hi=>kG l (k _ J hi)))
def wtL:List (Nat×List Nat)->Nat->List Nat
  |[],_=>[]
  |(j,l)::r,i=>if i=j then l else wtL r i
@[simp] theorem wtL_nil (i:Nat):wtL [] i=[]:=rfl
@[simp] theorem wtL_cons (j:Nat)(l:List Nat)(r:List (Nat×List Nat))(i:Nat):wtL ((j,l)::r) i=if i=j then l else wtL r i:=rfl
theorem AWP_sy (hT:TOk P T)(hm:P.follows .mixedOrders=true)(alts hs ord:List Nat)(wt:List (Nat×List Nat))(l:List Nat)(I:AAct->AHeap->Prop){id:Nat}{ops:List Oper}{y:Code}
    (hc:gM alts ops.toArray hs (wtL wt) ord=true)
    (h:∀K:AAct->AHeap->Prop,(∀a J,I (a.keep l) J->K a J)->ADy P T G n alts (ops.map (·.dst)) J.next hs (wtL wt) K (pickL ops ord) [] a (J.bump ops.length) .mk .mk)
    (k:∀a J,I a J->AWP P G n N y Q a J):AWP P G n N (.seq (.region id ops.toArray true) y) Q a J:=
  kP (AWP_drawy hT hm alts hs (wtL wt) ord hc (h _ fun a J hi=>kG l (k _ J hi)))
theorem AWP_ry (hT:TOk P T)(hm:P.follows .mixedOrders=true)(alts hs ord:List Nat)(wt:List (Nat×List Nat))(l:List Nat)(I:AAct->AHeap->Prop){id:Nat}{ops:List Oper}{K:AAct->AHeap->Prop}
    (hc:gM alts ops.toArray hs (wtL wt) ord=true)
    (h:∀K:AAct->AHeap->Prop,(∀a J,I (a.keep l) J->K a J)->ADy P T G n alts (ops.map (·.dst)) J.next hs (wtL wt) K (pickL ops ord) [] a (J.bump ops.length) .mk .mk)
    (k:∀a J,I (a.keep l) J->K a J):AWP P G n N (.region id ops.toArray true) (thenQ K Q) a J:=
  AWP_drawy hT hm alts hs (wtL wt) ord hc (h _ k)
theorem AWP_syC (hT:TOk P T)(hm:P.follows .mixedOrders=true)(alts hs ord:List Nat)(wt:List (Nat×List Nat))(l:List Nat)(I:AAct->AHeap->Prop){id:Nat}{ops:List Oper}{y:Code}
    (hc:dX true alts ops.toArray hs (wtL wt) ord=true) (hcl:closedB T G n alts hs (wtL wt) ops.toArray ord=true)
    (h:∀K:AAct->AHeap->Prop,(∀a J,I (a.keep l) J->K a J)->ADy P T G n alts (ops.map (·.dst)) J.next hs (wtL wt) K (pickL ops ord) [] a (J.bump ops.length) .mk .mk)
    (k:∀a J,I a J->AWP P G n N y Q a J):AWP P G n N (.seq (.region id ops.toArray true) y) Q a J:=
  kP (AWP_drawyC hT hm alts hs (wtL wt) ord hc hcl (h _ fun a J hi=>kG l (k _ J hi)))
theorem hG (hT:TOk P T)(alts l:List Nat)(I:AAct->AHeap->Prop){id:Nat}{ops:List Oper}{K:AAct->AHeap->Prop}
    (h:∀K:AAct->AHeap->Prop,(∀a J,I (a.keep l) J->K a J)->AOz P T G n alts (ops.map (·.dst)) J.next K 0 ops a (J.bump ops.length) .mk .mk)
    (k:∀a J,I (a.keep l) J->K a J):AWP P G n N (.region id ops.toArray false) (thenQ K Q) a J:=
  dE hT alts (h _ k)
theorem oF (hT:TOk P T)(hm:P.follows .mixedOrders=true)(alts hs ord l:List Nat)(I:AAct->AHeap->Prop){id:Nat}{ops:List Oper}{K:AAct->AHeap->Prop}
    (hc:gM alts ops.toArray hs (fun _=>[]) ord=true)
    (h:∀K:AAct->AHeap->Prop,(∀a J,I (a.keep l) J->K a J)->ADz P T G n alts (ops.map (·.dst)) J.next hs K (pickL ops ord) a (J.bump ops.length) .mk .mk)
    (k:∀a J,I (a.keep l) J->K a J):AWP P G n N (.region id ops.toArray true) (thenQ K Q) a J:=
  AWP_drawl hT hm alts hs ord hc (h _ k)
theorem Wsq {x y:Code}(l:List Nat)(h:∀K:AAct->AHeap->Prop,(∀a J,Rc G n N (fun a J=>AWP P G n N y Q a J) (a.keep l) J->K a J)->AWP P G n N x (thenQ K Q) a J):AWP P G n N (.seq x y) Q a J:=
  kP (h _ fun a J ⟨b,U,h1,h2⟩=>kG l (Wre h1 h2))
theorem Wth {c:Code}(h:AWP P G n N c (thenQ (fun a J=>Q .normal a J) Q) a J):AWP P G n N c Q a J:=AWP_toThen h
theorem zR {S E:Type}{step:S->Option (Flow S E)}{c:Code}(l:List Nat)(Inv:S->AAct->AHeap->Prop)(Out:E->Ex->AAct->AHeap->Prop){s0:S}{e:E}(hs:loopM step s0=some e)
    (h0:Rc G n N (Inv s0) (a.keep l) J)
    (round:∀s fl a J,step s=some fl->Inv s a J->∀(K:AAct->AHeap->Prop) (OO:Ex->AAct->AHeap->Prop),(∀s' a J,fl=.next s'->Rc G n N (Inv s') (a.keep l) J->K a J)->(∀e' x a J,fl=.done e'->Out e' x a J->OO x a J)->AWP P G n N c (thenQ K OO) a J)
    (hq:∀x a J,Out e x a J->Q x a J):AWP P G n N (.loop c) Q a J:=by
  obtain⟨k,hk⟩:=loopM_ex hs
  refine AWP_loop (fun m a J=>∃s,loopN step m s=some e/\Rc G n N (Inv s) (a.keep l) J) k ⟨s0,hk,h0⟩ ?_
  rintro m a J ⟨s,h1,b,U,h2,h3⟩
  cases m with
  |zero=>cases h1
  | succ m=>
    simp only[loopN] at h1
    cases hst:step s with
    |none=>simp[hst] at h1
    | some fl=>
      rw[hst] at h1
      refine kG l (Wre h2 ((round s fl b U hst h3 (fun a' J'=>∃s',fl=.next s'/\Rc G n N (Inv s') (a'.keep l) J') (fun x a' J'=>∃e',fl=.done e'/\Out e' x a' J') (fun s' a J h k=>⟨s',h,k⟩) (fun e' x a J h k=>⟨e',h,k⟩)).mono fun x a' J' hx=>?_))
      cases x with
      | normal=>
        obtain⟨s',rfl,h4⟩:=hx
        exact⟨m,Nat.lt_succ_self m,s',h1,h4⟩
      | exit id=>
        obtain⟨e',rfl,h4⟩:=hx
        cases h1
        exact hq _ _ _ h4
      | ret=>
        obtain⟨e',rfl,h4⟩:=hx
        cases h1
        exact hq _ _ _ h4

theorem AWP_end {c:Code}(l:List Nat)(h:∀K:AAct->AHeap->Prop,(∀a J,Rc G n N (fun a J=>Q .normal a J) (a.keep l) J->K a J)->AWP P G n N c (thenQ K Q) a J):AWP P G n N c Q a J:=by
  intro hN C w ca hR hA
  refine wp_mono (h _ (fun _ _ h=>h) hN C w ca hR hA) ?_
  rintro e ca' w' ⟨x,C',a',J',rfl,h2,h3,h4,h5⟩
  cases x with
  | normal=>
    obtain⟨b,U,hr,hq⟩:=h2
    obtain⟨C2,k1,k2,k3⟩:=hr (Nat.le_trans hN h5.nx) C' w' ca' h3 (h4.keep l)
    exact⟨.normal,C2,b,U,rfl,hq,k1,k2,h5.trans k3⟩
  |exit id=>exact⟨.exit id,C',a',J',rfl,h2,h3,h4,h5⟩
  |ret=>exact⟨.ret,C',a',J',rfl,h2,h3,h4,h5⟩

theorem Rc.fin {I:AAct->AHeap->Prop}{U:AHeap}(hs:AHeap.Sub U J)(h:I a U):Rc G n N I a J:=⟨a,U,.sub hs,h⟩
theorem Rc.rw {I:AAct->AHeap->Prop}{l:List Nat}{X:AAct}(hx:a.keep l=X)(h:Rc G n N I X J):Rc G n N I (a.keep l) J:=hx▸h
theorem Rc.kp {I:AAct->AHeap->Prop}(l:List Nat)(X:AAct)(hx:a.keep l=X)(h:Rc G n N I X J):Rc G n N I a J:=zH (.keep l) (hx▸h)
end

/-! ghost steps in heaps as lists; X: a walk's goal or a state's -/
section
variable {G:Globs} {n N0:Nat} {a:AAct} {B:Nat->Option AObj} {L:OL} {N:Nat} {X:AAct->AHeap->Prop}
theorem gUnp (hX:∀{a J a1 J1},Ref G n N0 a J a1 J1->X a1 J1->X a J){o r i ty sz:Nat}{es:List (List AV)}{ob:AObj}{row:List AV}(L':OL)(ho:lk L (B o) o=some ob)(hr:ob.rows[r]? =some row)(hi:row[i]? =some (.osl ty sz es))
    (hL:st (st L N (some ⟨ty,sz,es⟩)) o (some ⟨ob.ty,ob.sz,ob.rows.set r (row.set i (.sl N 0 es.length))⟩)=L') (h:X a (hp B L' (N+1))):X a (hp B L N):=by
  refine hX (Ref.unp (J:=hp B L N) ho hr hi) ?_
  rw[hp_bump,hp_put,hp_put,hpN,hL];exact h
theorem gPk (hX:∀{a J a1 J1},Ref G n N0 a J a1 J1->X a1 J1->X a J){o r i d k:Nat}{ob obd:AObj}{row:List AV}(L':OL)(ho:lk L (E0 o) o=some ob)(hr:ob.rows[r]? =some row)(hi:row[i]? =some (.sl d 0 k))(hd:lk L (E0 d) d=some obd)(hn:k<=obd.rows.length)(hod:o≠d)
    (h1:∀p∈dl L d,¬p.1=d) (hL:st (dl L d) o (some ⟨ob.ty,ob.sz,ob.rows.set r (row.set i (.osl obd.ty obd.sz (obd.rows.take k)))⟩)=L') (h:X a (hp E0 L' N)):X a (hp E0 L N):=by
  refine hX (Ref.pk (J:=hp E0 L N) ho hr hi hd hn hod) ?_
  rw[hp_killE _ _ _ h1,hp_put,hL];exact h
theorem gPk0 (hX:∀{a J a1 J1},Ref G n N0 a J a1 J1->X a1 J1->X a J){o r i:Nat}{ob:AObj}{row:List AV}{x:AV}(ty sz:Nat)(L':OL)(ho:lk L (B o) o=some ob)(hr:ob.rows[r]? =some row)(hi:row[i]? =some x)(hx:x=.nilsl\/x=.esl)
    (hL:st L o (some ⟨ob.ty,ob.sz,ob.rows.set r (row.set i (.osl ty sz []))⟩)=L') (h:X a (hp B L' N)):X a (hp B L N):=by
  refine hX (Ref.pk0 (J:=hp B L N) ty sz ho hr hi hx) ?_
  rw[hp_put,hL];exact h
theorem gNilS (hX:∀{a J a1 J1},Ref G n N0 a J a1 J1->X a1 J1->X a J)(t ty sz:Nat)(L':OL)(a':AAct)(hx:a.get t=.nilsl\/a.get t=.esl)(hL:st L N (some ⟨ty,sz,[]⟩)=L')(l:List Nat)(ha:AAct.keep ((t,.sl N 0 0)::a) l=a')(h:X a' (hp B L' (N+1))):X a (hp B L N):=by
  refine hX (Ref.nilS (J:=hp B L N) t ty sz hx) (hX (Ref.keep l) ?_)
  rw[hp_bump,hp_put,hpN,hL,ha];exact h
theorem gFrz (hX:∀{a J a1 J1},Ref G n N0 a J a1 J1->X a1 J1->X a J)(d:Nat)(D:List Nat)(L':OL)(a':AAct)(ha:(a.map fun p=>(p.1,thawA (fun o=>D.contains o) (hp B L N) d p.2))=a')(hL:(hp B L N).cut (fun o=>D.contains o)=hp B L' N)(h:X a' (hp B L' N)):X a (hp B L N):=by
  refine hX (Ref.frz (J:=hp B L N) d fun o=>D.contains o) ?_
  rw[ha,hL];exact h
theorem gWkC (hX:∀{a J a1 J1},Ref G n N0 a J a1 J1->X a1 J1->X a J){o r i:Nat}{ob:AObj}{row:List AV}{x:AV}(L':OL)(ho:lk L (B o) o=some ob)(hr:ob.rows[r]? =some row)(hi:row[i]? =some x)(hx:x=.nilsl\/x=.esl)
    (hL:st L o (some ⟨ob.ty,ob.sz,ob.rows.set r (row.set i (.fsl []))⟩)=L') (h:X a (hp B L' N)):X a (hp B L N):=by
  refine hX (Ref.wkC (J:=hp B L N) ho hr hi hx) ?_
  rw[hp_put,hL];exact h
theorem gDrop (hX:∀{a J a1 J1},Ref G n N0 a J a1 J1->X a1 J1->X a J)(L':OL)(hs:AHeap.Sub (hp B L' N) (hp B L N))(h:X a (hp B L' N)):X a (hp B L N):=hX (.sub hs) h
end

theorem cutL {B:Nat->Option AObj}{L:OL}{N:Nat}{D:Nat->Bool}(h:∀o,D o=true->B o=none):(hp B L N).cut D=hp B (L.filter fun p=> !D p.1) N:=by
  simp only[hp,AHeap.cut,AHeap.mk.injEq,and_true]
  funext o
  induction L with
  | nil=>
    simp only[List.filter_nil,lk]
    split
    . rename_i e;exact(h o e).symm
    . rfl
  | cons p L ih=>
    obtain⟨i,x⟩:=p
    by_cases hD:D i=true
    . rw[List.filter_cons_of_neg (by simp[hD])]
      rw[<- ih]
      by_cases e:o=i
      . subst e;simp[hD]
      . rw[vC _ _ _ _ _ e]
    . rw[List.filter_cons_of_pos (by simp[hD])]
      by_cases e:o=i
      . subst e;simp[hD]
      . rw[vC _ _ _ _ _ e,vC _ _ _ _ _ e];exact ih
theorem cut_take {O:Type}{f:O->List AV}{l r:List O}{b:Int}(h:cutx l 0 b=some r):(eL f l).take r.length=eL f r:=by
  obtain⟨⟨h1,h2,h3⟩,rfl⟩:=cutx_iff.1 h
  simp only[Int.toNat_zero,List.drop_zero,encL_take,List.length_take]
  congr 1
  rw[Nat.min_eq_left (by omega)]
theorem cutA_sl {T:Types}{t e:TypeId}{ti:TI}(h:T.kind t=some (.slice e))(he:T e=some ti){O:Type}{l r:List O}{lo hi:Option AV}{a b:Int}(ha:lowA lo=some a)(hb:highA l.length hi=some b)(hv:cutx l a b=some r){J:AHeap}{o:Nat}(hs:(J.objs o).map AObj.sz=some ti.sz):
    cutA T J t (.sl o 0 l.length) lo hi=some (.sl o a.toNat r.length):=by
  obtain⟨⟨h1,h2,h3⟩,rfl⟩:=cutx_iff.1 hv
  unfold cutA
  rw[h]
  cases hx:J.objs o with
  |none=>simp[hx] at hs
  | some ob=>
    simp[hx] at hs
    simp only[ha,hb,he,hx,Option.bind_some,hs,h1,h2,h3,and_self,if_true,Nat.zero_add,List.length_drop,List.length_take]
    congr 2
    omega
theorem srcA_slv {ti:TI}{O:Type}{f:O->List AV}{J:AHeap}{o:Nat}{ty:TypeId}{l r:List O}{a b:Int}(hl:∀x,(f x).all AV.lin1=true)(hv:cutx l a b=some r)(h:J.objs o=some ⟨ty,ti.sz,eL f l⟩):srcA ti J (.sl o a.toNat r.length)=some (eL f r):=by
  obtain⟨⟨h1,h2,h3⟩,rfl⟩:=cutx_iff.1 hv
  have e1:((eL f l).drop a.toNat).take ((l.take b.toNat).drop a.toNat).length=eL f ((l.take b.toNat).drop a.toNat):=by
    simp only[encL_drop,encL_take]
    congr 1
    rw[List.drop_take,List.length_take,List.length_drop,List.take_eq_take_iff]
    omega
  have hl':((eL f ((l.take b.toNat).drop a.toNat)).all fun e=>e.all AV.lin1)=true:=by simp only[eL,List.all_map,List.all_eq_true];exact fun x _=>hl x
  unfold srcA
  simp only[h,Option.bind_some]
  rw[e1,if_pos ⟨⟨trivial,by simp;omega⟩,hl'⟩]
theorem appA_slv {T:Types}{t e:TypeId}{ti:TI}(h:T.kind t=some (.slice e))(he:T e=some ti)(h0:0<ti.sz){O:Type}{f:O->List AV}{l l' m r:List O}{b:Int}(hc:cutx l 0 b=some l')(hv:appx ti.bytes l' m=some r){J:AHeap}{o:Nat}{x:AV}(id:Nat)
    (ho:J.objs o=some ⟨e,ti.sz,eL f l⟩) (hx:srcA ti J x=some (eL f m)):kF T t id (.sl o 0 l'.length) x J=some (.sl id 0 r.length,(J.kill o).put id ⟨e,ti.sz,eL f r⟩):=by
  obtain⟨⟨h1,h2⟩,rfl⟩:=appx_iff.1 hv
  have ht:=cut_take (f:=f) hc
  have hlen:l'.length<=l.length:=by
    obtain⟨⟨g1,g2,g3⟩,rfl⟩:=cutx_iff.1 hc
    simp only[List.length_drop,List.length_take];omega
  unfold kF
  rw[h]
  simp only[he,hx,ho,Option.bind_some,encL_len,h0,h1,h2,hlen,and_self,if_true,ht,encL_append,List.length_append]
theorem lk_notin {M:OL}{d:Option AObj}{k:Nat}(h:∀p∈M,¬p.1=k):lk M d k=d:=by
  induction M with
  |nil=>rfl
  | cons q M ih=>
    obtain⟨j,z⟩:=q
    have:¬j=k:=h (j,z) (by simp)
    rw[vC _ _ _ _ _ (fun e=>this e.symm)]
    exact ih fun p hp=>h p (by simp[hp])
theorem hp_over_c (L M:OL)(N N' o:Nat)(x:Option AObj)(h:∀p∈M,¬p.1=o):hp (hp E0 L N).objs ((o,x)::M) N'=hp (hp E0 (st L o x) N).objs M N':=by
  simp only[hp,AHeap.mk.injEq,and_true]
  funext k
  simp only[lk]
  by_cases e:k=o
  . subst e
    rw[if_pos rfl,lk_notin h,lk_st,if_pos rfl]
  . rw[if_neg e,lk_st,if_neg e]
theorem hoS (L M:OL)(N N' o:Nat)(x:AObj)(h:∀p∈M,¬p.1=o):hp (hp E0 L N).objs ((o,some x)::M) N'=hp (hp E0 (st L o (some x)) N).objs M N':=hp_over_c L M N N' o (some x) h
theorem hoN (L M:OL)(N N' o:Nat)(h:∀p∈M,¬p.1=o)(h2:∀p∈dl L o,¬p.1=o):hp (hp E0 L N).objs ((o,none)::M) N'=hp (hp E0 (dl L o) N).objs M N':=by
  rw[hp_over_c L M N N' o none h]
  have:=hp_killE L N o h2
  rw[hp_kill] at this
  rw[this]
theorem hp_tail {L:OL}{o N:Nat}:hp E0 (L++[(o,none)]) N=hp E0 L N:=by
  simp only[hp,AHeap.mk.injEq,and_true]
  funext i
  induction L with
  |nil=>simp only[List.nil_append,lk];split<;>rfl
  | cons p L ih=>
    obtain⟨k,y⟩:=p
    simp only[List.cons_append,lk]
    split
    . rfl
    . exact ih
theorem cutD {L L':OL}{N:Nat}{D:List Nat}(h:L.filter (fun p=> !D.contains p.1)=L'):(hp E0 L N).cut (fun o=>D.contains o)=hp E0 L' N:=by
  rw[cutL (B:=E0) fun _ _=>rfl,h]
theorem sF {O:Type}(f:O->List AV){l:List O}{i:Int}{v:O}(h:idx l i=some v):(eL f l)[i.toNat]? =some (f v):=by
  rw[encL_get,(zG h).2.2];rfl
theorem gset {O:Type}{f:O->List AV}{l:List O}{i:Int}{v:O}(h:idx l i=some v)(row:List AV):((eL f l).set i.toNat row)[i.toNat]? =some row:=by
  have:=(List.getElem?_eq_some_iff.1 (zG h).2.2).1
  rw[List.getElem?_set_self (by simpa using this)]
theorem gsetW {W:List (List AV)}{r:Nat}{row0:List AV}(h:W[r]? =some row0)(row:List AV):(W.set r row)[r]? =some row:=by
  rw[List.getElem?_set_self (List.getElem?_eq_some_iff.1 h).1]
theorem winL {l:List AV}{i:Nat}{c:AV}(h:l[i]? =some c):i+1<=l.length:=(List.getElem?_eq_some_iff.1 h).1
theorem winS {l:List AV}{i:Nat}{c:AV}(h:l[i]? =some c)(x v:AV):List.take i (l.set i x)++v::List.drop (i+1) (l.set i x)=l.set i v:=by
  have hl:=(List.getElem?_eq_some_iff.1 h).1
  rw[List.take_set_of_le (Nat.le_refl i),List.drop_set_of_lt (Nat.lt_succ_self i),List.set_eq_take_append_cons_drop,if_pos hl]
theorem gsetC {W:List AV}{r:Nat}{x0:AV}(h:W[r]? =some x0)(x:AV):(W.set r x)[r]? =some x:=by
  rw[List.getElem?_set_self (List.getElem?_eq_some_iff.1 h).1]
theorem xG {P:Program}{G:Globs}{f:FuncId}{args:List AV}{J:AHeap}{Q Q1:AV->AHeap->Prop}{L:OL}(hL:∀p∈L,J.objs p.1=p.2)(h:(∀p∈L,p.2.isSome=true->p.1<J.next)->ACalls P G f args (hp E0 L J.next) Q1)
    (hq:∀r J1,Q1 r J1->∃L' M,J1=hp E0 L' M/\(∀p∈L,∃q∈L',q.1=p.1)/\(∀p∈L',(∃q∈L,q.1=p.1)\/J.next<=p.1)/\Q r (hp J.objs L' M)) (he:mZ P f):ACalls P G f args J Q:=by
  have hlk:∀(L:OL) (o:Nat),(∀p∈L,J.objs p.1=p.2)->lk L (E0 o) o=if L.any (·.1==o) then J.objs o else none:=by
    intro L o hL
    induction L with
    |nil=>rfl
    | cons p L ih=>
      obtain⟨i,x⟩:=p
      by_cases e:o=i
      . subst e
        have:=hL (o,x) (by simp)
        simp only at this
        simp[this]
      . rw[vC _ _ _ _ _ e,ih fun p hp=>hL p (by simp[hp])]
        have e2:List.any ((i,x)::L) (fun p=>p.1==o)=L.any (fun p=>p.1==o):=by
          rw[List.any_cons]
          cases hq:(((i,x):Nat×Option AObj).1==o) with
          |false=>rfl
          |true=>exact absurd (eq_of_beq hq).symm e
        rw[e2]
  have hcut:(J.cut fun o=> !(fun o=>L.any (·.1==o)) o)=hp E0 L J.next:=by
    simp only[AHeap.cut,hp,AHeap.mk.injEq,and_true]
    funext o
    rw[hlk L o hL]
    by_cases h:L.any (·.1==o)=true<;>simp[h]
  refine⟨he,fun C w vs hR hA=>?_⟩
  have hlt:∀p∈L,p.2.isSome=true->p.1<J.next:=by
    intro p hp hs
    rcases Nat.lt_or_ge p.1 J.next with h1|h1
    . exact h1
    . have:=hL p hp
      rw[(hR.ids p.1 h1).1] at this
      rw[<- this] at hs;cases hs
  have hfr:=ACalls_frame (J:=J) (fun o=>L.any (·.1==o)) (by rw[hcut];exact h hlt)
  refine(hfr.2 C w vs hR hA).mono ?_
  rintro e w' ⟨v,r,C',J',rfl,⟨J1,k1,k2,k3,k4⟩,h3,h4,h5⟩
  obtain⟨L',M,q1,q2,q3,q4⟩:=hq r J1 k1
  subst q1
  have hlk':∀(L':OL) (o:Nat) (d:Option AObj),(∃q∈L',q.1=o)->lk L' d o=lk L' none o:=by
    intro L' o d h
    induction L' with
    |nil=>obtain⟨q,hq,_⟩:=h;cases hq
    | cons p L' ih=>
      obtain⟨i,x⟩:=p
      by_cases e:o=i
      . subst e;simp
      . rw[vC _ _ _ _ _ e,vC _ _ _ _ _ e]
        refine ih ?_
        obtain⟨q,hq,e'⟩:=h
        rcases List.mem_cons.1 hq with rfl|hq
        . exact absurd e'.symm e
        . exact⟨q,hq,e'⟩
  have hout:∀(L':OL) (o:Nat) (d:Option AObj),(¬∃q∈L',q.1=o)->lk L' d o=d:=fun L' o d h=>lk_out fun p hp e=>h ⟨p,hp,e⟩
  have heq:J'=hp J.objs L' M:=by
    rw[k4]
    simp only[hp,AHeap.mk.injEq,and_true]
    funext o
    by_cases hin:∃q∈L',q.1=o
    . rw[hlk' L' o (E0 o) hin,hlk' L' o (J.objs o) hin]
      cases hv:lk L' none o with
      |some x=>rfl
      | none=>
        obtain⟨q,hq,rfl⟩:=hin
        rcases q3 q hq with⟨p,hp,e⟩|hge
        . have:L.any (fun x=>x.1==q.1)=true:=List.any_eq_true.2 ⟨p,hp,by simp[e]⟩
          simp[this]
        . simp[k2 q.1 hge]
    . rw[hout L' o (E0 o) hin,hout L' o (J.objs o) hin]
      have:L.any (fun x=>x.1==o)=false:=by
        cases h:L.any (fun x=>x.1==o) with
        |false=>rfl
        | true=>
          obtain⟨p,hp,e⟩:=List.any_eq_true.1 h
          obtain⟨q,hq,e'⟩:=q2 p hp
          exact absurd ⟨q,hq,e'.trans (by simpa using e)⟩ hin
      simp[this]
  exact⟨v,r,C',J',rfl,by rw[heq];exact q4,h3,h4,h5⟩

theorem APure_fn {P:Program}{G:Globs}{f:FuncId}{args:List AV}{r:AV}(h:∀N,ACalls P G f args (hp E0 [] N) fun r' J'=>∃d,thawA (fun _=>true) J' d r'=r)(hb:Below 0 r):APure P G f args r:=APure_of h hb

end Go.Abs
