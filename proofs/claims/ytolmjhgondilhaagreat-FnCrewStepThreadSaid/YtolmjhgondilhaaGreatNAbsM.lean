/- Walks over mirrors: typed rows, heaps as lists of objects, loops, results that are let go. -/
import Derived.Test.YtolmjhgondilhaaGreatNAbsZ
import Derived.Test.YtolmjhgondilhaaGreatNMon
set_option linter.unusedSimpArgs false
set_option linter.unusedVariables false
namespace Go.Abs
open Go

section
variable {P:Program} {G:Globs} {n N:Nat} {Q:Ex->AAct->AHeap->Prop} {a:AAct} {J:AHeap} {c:Code}

end

/-! heaps as lists of objects over a base -/
abbrev OL:=List (Nat×Option AObj)
attribute [simp] Nat.add_assoc
def lk:OL->Option AObj->Nat->Option AObj
 |[],d,_=>d
 |(i,x)::L,d,o=>if o=i then x else lk L d o
@[simp] theorem lk_nil (d:Option AObj)(o:Nat):lk [] d o=d:=rfl
@[simp] theorem lk_hit (i:Nat)(x:Option AObj)(L:OL)(d:Option AObj):lk ((i,x)::L) d i=x:=by simp[lk]
@[simp] theorem vC (i:Nat)(x:Option AObj)(L:OL)(d:Option AObj)(o:Nat)(h:o≠i):lk ((i,x)::L) d o=lk L d o:=by simp[lk,h]
def st:OL->Nat->Option AObj->OL
 |[],o,x=>[(o,x)]
 |(i,y)::L,o,x=>if o=i then(i,x)::L else(i,y)::st L o x
@[simp] theorem st_nil (o:Nat)(x:Option AObj):st [] o x=[(o,x)]:=rfl
@[simp] theorem st_hit (i:Nat)(x y:Option AObj)(L:OL):st ((i,y)::L) i x=(i,x)::L:=by simp[st]
@[simp] theorem st_miss (i:Nat)(x y:Option AObj)(L:OL)(o:Nat)(h:o≠i):st ((i,y)::L) o x=(i,y)::st L o x:=by simp[st,h]
theorem lk_st (L:OL)(o:Nat)(x d:Option AObj)(o':Nat):lk (st L o x) d o'=if o'=o then x else lk L d o':=by
 induction L with
 |nil=>simp[lk]
 |cons p L ih=>
  obtain⟨i,y⟩:=p
  simp only[st]
  split
  .rename_i h;subst h;simp only[lk];split<;>rfl
  .rename_i h
   simp only[lk,ih]
   by_cases h1:o'=i
   .subst h1;rw[if_pos rfl,if_pos rfl,if_neg (fun e=>h e.symm)]
   .rw[if_neg h1,if_neg h1]
def hp (B:Nat->Option AObj)(L:OL)(N:Nat):AHeap:=⟨fun o=>lk L (B o) o,N⟩
@[simp] theorem hp_objs (B:Nat->Option AObj)(L:OL)(N o:Nat):(hp B L N).objs o=lk L (B o) o:=rfl
@[simp] theorem hpN (B:Nat->Option AObj)(L:OL)(N:Nat):(hp B L N).next=N:=rfl
@[simp] theorem hp_put (B:Nat->Option AObj)(L:OL)(N o:Nat)(x:AObj):(hp B L N).put o x=hp B (st L o (some x)) N:=by
 simp only[hp,AHeap.put,AHeap.mk.injEq,and_true]
 funext i
 rw[lk_st]
theorem hp_kill (B:Nat->Option AObj)(L:OL)(N o:Nat):(hp B L N).kill o=hp B (st L o none) N:=by
 simp only[hp,AHeap.kill,AHeap.mk.injEq,and_true]
 funext i
 rw[lk_st]
def dl:OL->Nat->OL
 |[],_=>[]
 |(i,y)::L,o=>if o=i then L else(i,y)::dl L o
@[simp] theorem dl_nil (o:Nat):dl [] o=[]:=rfl
@[simp] theorem dl_hit (i:Nat)(y:Option AObj)(L:OL):dl ((i,y)::L) i=L:=by simp[dl]
@[simp] theorem dl_miss (i:Nat)(y:Option AObj)(L:OL)(o:Nat)(h:o≠i):dl ((i,y)::L) o=(i,y)::dl L o:=by simp[dl,h]
@[simp] theorem hp_killE (L:OL)(N o:Nat)(h:∀p∈dl L o,¬p.1=o):(hp E0 L N).kill o=hp E0 (dl L o) N:=by
 rw[hp_kill]
 simp only[hp,AHeap.mk.injEq,and_true]
 funext k
 rw[lk_st]
 have key:∀(L:OL),(∀p∈dl L o,¬p.1=o)->(if k=o then none else lk L none k)=lk (dl L o) none k:=by
  intro L hL
  induction L with
  |nil=>simp[dl]
  |cons p L ih=>
   obtain⟨i,y⟩:=p
   by_cases e:o=i
   .subst e
    rw[dl_hit] at hL ⊢
    by_cases e2:k=o
    .subst e2
     rw[if_pos rfl]
     clear ih
     induction L with
     |nil=>rfl
     |cons q L ih2=>
      obtain⟨j,z⟩:=q
      have:¬j=k:=hL (j,z) (by simp)
      rw[vC _ _ _ _ _ (fun e=>this e.symm)]
      exact ih2 fun p hp=>hL p (by simp[hp])
    .rw[if_neg e2,vC _ _ _ _ _ e2]
   .rw[dl_miss _ _ _ _ e] at hL ⊢
    by_cases e3:k=i
    .subst e3
     rw[lk_hit,lk_hit,if_neg (fun h=>e h.symm)]
    .rw[vC _ _ _ _ _ e3,vC _ _ _ _ _ e3]
     exact ih fun p hp=>hL p (by simp[hp])
 exact key L h
@[simp] theorem hp_bump (B:Nat->Option AObj)(L:OL)(N k:Nat):(hp B L N).bump k=hp B L (N+k):=rfl
@[simp] theorem hp_over_nil (B:Nat->Option AObj)(L:OL)(N M:Nat):hp (hp B L N).objs [] M=hp B L M:=rfl
theorem zU {B:Nat->Option AObj}{x:Option AObj}{o N:Nat}{L:OL}(h:B o=none)(hL:∀p∈L,p.1≠o):AHeap.Sub (hp B L N) (hp B ((o,x)::L) N):=by
 refine⟨rfl,fun i=>?_⟩
 simp only[hp_objs,lk]
 split
 .rename_i e
  subst e
  right
  clear x
  induction L with
  |nil=>simpa [lk] using h
  |cons p L ih=>
   obtain⟨k,y⟩:=p
   rw[vC _ _ _ _ _ (fun e=>hL (k,y) (by simp) e.symm)]
   exact ih fun p hp=>hL p (by simp[hp])
 .exact .inl rfl
theorem AHeap.Sub.trans {a b c:AHeap}(h:AHeap.Sub a b)(k:AHeap.Sub b c):AHeap.Sub a c:=
 ⟨h.1.trans k.1,fun o=>(h.2 o).elim (fun e=>(k.2 o).imp (e.trans) (e.trans)) .inr⟩
theorem zM {B:Nat->Option AObj}{x:Option AObj}{o N:Nat}{L L':OL}(h:AHeap.Sub (hp B L' N) (hp B L N)):AHeap.Sub (hp B ((o,x)::L') N) (hp B ((o,x)::L) N):=by
 refine⟨rfl,fun i=>?_⟩
 simp only[hp_objs,lk]
 split
 .exact .inl rfl
 .exact h.2 i

/-! typed rows -/
def eL {O:Type}(f:O->List AV)(l:List O):List (List AV):=l.map f
@[simp] theorem encL_len {O:Type}(f:O->List AV)(l:List O):(eL f l).length=l.length:=by simp[eL]
@[simp] theorem encL_get {O:Type}(f:O->List AV)(l:List O)(k:Nat):(eL f l)[k]? =l[k]?.map f:=by simp[eL]
@[simp] theorem encL_take {O:Type}(f:O->List AV)(l:List O)(k:Nat):(eL f l).take k=eL f (l.take k):=by simp[eL,List.map_take]
@[simp] theorem encL_drop {O:Type}(f:O->List AV)(l:List O)(k:Nat):(eL f l).drop k=eL f (l.drop k):=by simp[eL,List.map_drop]
@[simp] theorem encL_append {O:Type}(f:O->List AV)(l m:List O):eL f l++eL f m=eL f (l++m):=by simp[eL]
@[simp] theorem nil_encL {O:Type}(f:O->List AV):([]=eL f ([]:List O))<->True:=iff_true_intro rfl
@[simp] theorem encL_nil_iff {O:Type}(f:O->List AV):(eL f ([]:List O)=[])<->True:=iff_true_intro rfl
theorem eN {O:Type}(f:O->List AV):eL f []=[]:=rfl
theorem yO {O:Type}(f:O->List AV)(l:List O)(x:O)(R:List (List AV)):eL f l++(f x::R)=eL f (l++[x])++R:=by simp[eL]
theorem zY {O:Type}(f:O->List AV)(l:List O)(k:Nat)(x:O):(eL f l).set k (f x)=eL f (l.set k x):=by simp[eL]
theorem encL_rep {O:Type}(f:O->List AV)(n:Nat)(x:O):List.replicate n (f x)=eL f (List.replicate n x):=by simp[eL]
theorem yE {O:Type}{f:O->List AV}{D J d}(h:∀x,(f x).map (thawA D J d)=f x)(l:List O):(eL f l).map (fun e=>e.map (thawA D J d))=eL f l:=by
 simp only[eL,List.map_map]
 exact List.map_congr_left fun x _=>h x
theorem kZ {O:Type}{N:Nat}{f:O->List AV}(h:∀x,∀y∈f x,Below N y)(l:List O):∀e∈eL f l,∀x∈e,Below N x:=by
 intro e he
 simp only[eL,List.mem_map] at he
 obtain⟨x,_,rfl⟩:=he
 exact h x
theorem encL_all {O:Type}{f:O->List AV}{k:Nat}(h:∀x,(f x).length=k)(l:List O):(eL f l).all (fun e=>e.length==k)=true:=by
 simp[eL,h]

/-! the operations, typed -/
section
variable (T:Types) (k:IntKind) (a b:Int)
@[simp] theorem ibin_add:ibin .add k a b=some (.int k (iadd k a b)):=rfl
@[simp] theorem ibin_sub:ibin .sub k a b=some (.int k (isub k a b)):=rfl
@[simp] theorem ibin_mul:ibin .mul k a b=some (.int k (imul k a b)):=rfl
@[simp] theorem ibin_and:ibin .and k a b=some (.int k (iand k a b)):=rfl
@[simp] theorem ibin_or:ibin .or k a b=some (.int k (ior k a b)):=rfl
@[simp] theorem ibin_xor:ibin .xor k a b=some (.int k (ixor k a b)):=rfl
@[simp] theorem ibin_andNot:ibin .andNot k a b=some (.int k (iandNot k a b)):=rfl
@[simp] theorem ibin_eql:ibin .eql k a b=some (.bool (ieq a b)):=rfl
@[simp] theorem ibin_neq:ibin .neq k a b=some (.bool (ine a b)):=rfl
@[simp] theorem ibin_lss:ibin .lss k a b=some (.bool (ilt a b)):=rfl
@[simp] theorem ibin_leq:ibin .leq k a b=some (.bool (ile a b)):=rfl
@[simp] theorem ibin_gtr:ibin .gtr k a b=some (.bool (igt a b)):=rfl
@[simp] theorem ibin_geq:ibin .geq k a b=some (.bool (ige a b)):=rfl
@[simp] theorem ibin_quo:ibin .quo k a b=(quox k a b).map (.int k):=by simp only[ibin,quox];split<;>rfl
@[simp] theorem ibin_rem:ibin .rem k a b=(remx a b).map (.int k):=by simp only[ibin,remx];split<;>rfl
@[simp] theorem ibin_shl:ibin .shl k a b=(shlx k a b).map (.int k):=by simp only[ibin,shlx];split<;>rfl
@[simp] theorem ibin_shr:ibin .shr k a b=(shrx k a b).map (.int k):=by simp only[ibin,shrx];split<;>rfl
@[simp] theorem unA_not (x:Bool):unA .not (.bool x)=some (.bool (bnot x)):=rfl
@[simp] theorem unA_neg:unA .neg (.int k a)=some (.int k (ineg k a)):=rfl
@[simp] theorem maxA_int (k':IntKind):maxA (.int k a) (.int k' b)=some (.int k (imax a b)):=rfl
@[simp] theorem minA_int (k':IntKind):minA (.int k a) (.int k' b)=some (.int k (imin a b)):=rfl
end
theorem jS {T:Types}{t e:TypeId}(h:T.kind t=some (.slice e)){O:Type}(f:O->List AV)(l:List O):lenA T t (.fsl (eL f l))=some (.int .i64 (ilen l)):=by
 unfold lenA;rw[h];simp[ilen]
theorem vD {T:Types}{t e:TypeId}(h:T.kind t=some (.slice e)){O:Type}(o r:Nat)(l:List O):lenA T t (.sl o r l.length)=some (.int .i64 (ilen l)):=by
 unfold lenA;rw[h];simp[ilen]
theorem vF {T:Types}{t e:TypeId}{ti:TI}(h:T.kind t=some (.slice e))(he:T e=some ti){O:Type}{f:O->List AV}(hf:∀x,(f x).length=ti.sz){l:List O}{i:Int}{v:O}(hv:idx l i=some v)(J:AHeap)(k:IntKind):
  zQ T J t (.fsl (eL f l)) (.int k i)=some (.fptr (f v) 0):=by
 obtain⟨h0,h1⟩:=idx_iff.1 hv
 unfold zQ;rw[h]
 simp[he,h1,h0,hf]
theorem cH {T:Types}{t e:TypeId}{ti:TI}(h:T.kind t=some (.slice e))(he:T e=some ti){O:Type}{l:List O}{i:Int}{v:O}(hv:idx l i=some v){J:AHeap}{o:Nat}(hs:(J.objs o).map AObj.sz=some ti.sz)(k:IntKind):
  zQ T J t (.sl o 0 l.length) (.int k i)=some (.ptr o i.toNat 0):=by
 obtain⟨h0,h1,_⟩:=zG hv
 unfold zQ;rw[h]
 cases hx:J.objs o with
 |none=>simp[hx] at hs
 |some ob=>simp[hx] at hs;simp[he,hs,h0,h1,hx]
theorem jO {ti:TI}{O:Type}{f:O->List AV}(hf:∀x,(f x).length=ti.sz)(J:AHeap)(l:List O):srcA ti J (.fsl (eL f l))=some (eL f l):=by
 unfold srcA;simp[encL_all hf]
theorem fG {ti:TI}{es:List (List AV)}(hf:(es.all fun e=>e.length==ti.sz)=true)(J:AHeap):srcA ti J (.fsl es)=some es:=by
 unfold srcA;simp[hf]
theorem wW {ti:TI}{O:Type}{f:O->List AV}{J:AHeap}{o:Nat}{ty:TypeId}{l:List O}(hl:∀x,(f x).all AV.lin1=true)(h:J.objs o=some ⟨ty,ti.sz,eL f l⟩):srcA ti J (.sl o 0 l.length)=some (eL f l):=by
 have hl':((eL f l).all fun e=>e.all AV.lin1)=true:=by simp only[eL,List.all_map,List.all_eq_true];exact fun x _=>hl x
 have e1:((eL f l).drop 0).take l.length=eL f l:=by simp
 unfold srcA;simp only[h,Option.bind_some,e1,hl',encL_len,Nat.zero_add,Nat.le_refl,and_self,if_true]
@[simp] theorem srcA_nil (ti:TI)(J:AHeap):srcA ti J .nilsl=some []:=rfl
@[simp] theorem srcA_esl (ti:TI)(J:AHeap):srcA ti J .esl=some []:=rfl
theorem cC {T:Types}{t e:TypeId}{ti:TI}(h:T.kind t=some (.slice e))(he:T e=some ti)(h0:0<ti.sz){O:Type}{f:O->List AV}{l m r:List O}(hv:appx ti.bytes l m=some r){J:AHeap}{o:Nat}{x:AV}(id:Nat)
  (ho:J.objs o=some ⟨e,ti.sz,eL f l⟩) (hx:srcA ti J x=some (eL f m)):kF T t id (.sl o 0 l.length) x J=some (.sl id 0 r.length,(J.kill o).put id ⟨e,ti.sz,eL f r⟩):=by
 obtain⟨⟨h1,h2⟩,rfl⟩:=appx_iff.1 hv
 unfold kF
 rw[h]
 simp[he,hx,ho,h0,h1,h2]
theorem appA_esl {T:Types}{t e:TypeId}{ti:TI}(h:T.kind t=some (.slice e))(he:T e=some ti)(h0:0<ti.sz){O:Type}{f:O->List AV}{m r:List O}(hv:appx ti.bytes [] m=some r){J:AHeap}{x:AV}(id:Nat)
  (hx:srcA ti J x=some (eL f m)):kF T t id .esl x J=some (.sl id 0 r.length,J.put id ⟨e,ti.sz,eL f r⟩):=by
 obtain⟨⟨h1,h2⟩,rfl⟩:=appx_iff.1 hv
 unfold kF
 rw[h]
 simp only[List.length_nil,Nat.zero_add] at h1 h2
 simp[he,hx,h0,h1,h2]
theorem appF_nil {T:Types}{t e:TypeId}{ti:TI}(h:T.kind t=some (.slice e))(he:T e=some ti)(h0:0<ti.sz){O:Type}{f:O->List AV}{m r:List O}(hv:appx ti.bytes [] m=some r){J:AHeap}{s x:AV}(hs:s.noRoom=true)
  (hx:srcA ti J x=some (eL f m)):jM T t s x J=some (.fsl (eL f r),J):=by
 obtain⟨⟨h1,h2⟩,rfl⟩:=appx_iff.1 hv
 unfold jM
 rw[h]
 simp only[List.length_nil,Nat.zero_add] at h1 h2
 simp only[he,hx,hs,Option.bind_some,encL_len,h0,h1,h2,and_self,if_true,List.nil_append]
theorem makA_sl {T:Types}{t e:TypeId}{ti:TI}(h:T.kind t=some (.slice e))(he:T e=some ti)(h0:0<ti.sz){O:Type}{f:O->List AV}{n:Int}{z:O}{r:List O}(hz:ti.zero=f z)(hv:makex ti.bytes n z=some r)(J:AHeap)(id:Nat)(k k':IntKind):
  makeA T t false id (.int k n) (.int k' n) J=some (.sl id 0 r.length,J.put id ⟨e,ti.sz,eL f r⟩):=by
 obtain⟨⟨h1,h2,h3,h4⟩,rfl⟩:=makex_iff.1 hv
 have hr:=encL_rep f n.toNat z
 unfold makeA
 rw[h]
 simp only[he,h0,h1,h2,h3,h4,hz,hr,Option.bind_some,true_and,and_self,if_true,Bool.false_eq_true,if_false,List.length_replicate]
theorem makA_fsl {T:Types}{t e:TypeId}{ti:TI}(h:T.kind t=some (.slice e))(he:T e=some ti)(h0:0<ti.sz){O:Type}{f:O->List AV}{n:Int}{z:O}{r:List O}(hz:ti.wz=f z)(hv:makex ti.bytes n z=some r)(J:AHeap)(id:Nat)(k k':IntKind):
  makeA T t true id (.int k n) (.int k' n) J=some (.fsl (eL f r),J):=by
 obtain⟨⟨h1,h2,h3,h4⟩,rfl⟩:=makex_iff.1 hv
 have hr:=encL_rep f n.toNat z
 unfold makeA
 rw[h]
 simp only[he,h0,h1,h2,h3,h4,hz,hr,Option.bind_some,true_and,and_self,if_true,Bool.false_eq_true,if_false,List.length_replicate]
theorem cutA_fsl {T:Types}{t e:TypeId}{ti:TI}(h:T.kind t=some (.slice e))(he:T e=some ti){O:Type}{f:O->List AV}(hf:∀x,(f x).length=ti.sz){l r:List O}{lo hi:Option AV}{a b:Int}(ha:lowA lo=some a)(hb:highA l.length hi=some b)(hv:cutx l a b=some r)(J:AHeap):
  cutA T J t (.fsl (eL f l)) lo hi=some (.fsl (eL f r)):=by
 obtain⟨⟨h1,h2,h3⟩,rfl⟩:=cutx_iff.1 hv
 unfold cutA
 rw[h]
 have hall:=encL_all hf l
 simp only[ha,he,encL_len,hb,Option.bind_some,hall,h1,h2,h3,and_self,if_true,encL_take,encL_drop]

@[simp] theorem noRoom_nil:AV.nilsl.noRoom=true:=rfl
@[simp] theorem noRoom_esl:AV.esl.noRoom=true:=rfl
@[simp] theorem srcA_fnil (ti:TI)(J:AHeap):srcA ti J (.fsl [])=some []:=by simp[srcA]

/-! small steps of a walk -/
theorem AWP_toThen {P:Program}{G:Globs}{n N:Nat}{c:Code}{Q:Ex->AAct->AHeap->Prop}{a:AAct}{J:AHeap}(h:AWP P G n N c (thenQ (fun a J=>Q .normal a J) Q) a J):AWP P G n N c Q a J:=
 h.mono fun x a J hq=>by cases x<;>exact hq
theorem kN {P:Program}{G:Globs}{n N:Nat}{c:Code}{K:AAct->AHeap->Prop}{Q:Ex->AAct->AHeap->Prop}{a:AAct}{J:AHeap}
  (h:∀K',(∀a J,K a J->K' a J)->AWP P G n N c (thenQ K' Q) a J):AWP P G n N c (thenQ K Q) a J:=h K fun _ _ h=>h
def SumP {A B:Type}(e:Sum A B)(p:A->Prop)(q:B->Prop):Prop:=
 match e with
 |.inl a=>p a
 |.inr b=>q b
theorem SumP.l {A B:Type}{a:A}{p:A->Prop}{q:B->Prop}(h:p a):SumP (.inl a) p q:=h
theorem SumP.r {A B:Type}{b:B}{p:A->Prop}{q:B->Prop}(h:q b):SumP (.inr b) p q:=h
theorem SumP.gr {A B:Type}{b:B}{p:A->Prop}{q:B->Prop}(h:SumP (.inr b) p q):q b:=h
theorem lk_out {L:OL}{d:Option AObj}{o:Nat}(h:∀p∈L,¬p.1=o):lk L d o=d:=by
 induction L with
 |nil=>rfl
 |cons p L ih=>
  obtain⟨i,x⟩:=p
  rw[vC _ _ _ _ _ (fun e=>h (i,x) (by simp) e.symm)]
  exact ih fun q hq=>h q (by simp[hq])
theorem zE {O:Type}{l m:List O}{i:Int}{v:O}(h:setx l i v=some m):m.length=l.length:=by
 obtain⟨_,rfl⟩:=setx_iff.1 h;simp
end Go.Abs
