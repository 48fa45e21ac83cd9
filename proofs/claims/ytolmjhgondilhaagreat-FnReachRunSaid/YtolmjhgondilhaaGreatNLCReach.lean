/- laws.FnReachRun's mirror: true for each code. -/
import Derived.Test.YtolmjhgondilhaaGreatNLCRest
set_option linter.unusedSimpArgs false
set_option linter.unusedVariables false
set_option maxHeartbeats 8000000
namespace Go.Abs
open Go

def rT (R:List Bool)(x:Int):Prop:=0≤x∧R[x.toNat]? =some true
theorem nextOf_in {l:List gQuad}(hc:kG false l){k:Nat}(hk:k<l.length):∃L,uX l[k] k=some L∧L.length≤2∧(l[k].Op≠10→l[k].Op≠4→((k:Int)+1)∈L)∧(l[k].Op=4∨l[k].Op=5→l[k].N∈L)∧∀x∈L,0≤x∧x<l.length:=by
 have hl:=hc.1.2
 have hq:=hc.2.1 _ (List.getElem_mem hk)
 have hlast:=hc.2.2
 generalize hqq:l[k]=q at*
 have e1:iadd .i64 (k:Int) 1=(k:Int)+1:=zU _ _ (by omega)
 have hn:q.Op≠10→q.Op≠4→(k:Int)+1<l.length:=by
  intro h1 h2
  rcases Nat.lt_or_ge (k+1) l.length with h|h
  ·omega
  ·have:k=l.length-1:=by omega
   have hg:=hlast q (by rw[← this,List.getElem?_eq_getElem hk,hqq])
   rcases hg with hg|hg
   ·exact absurd hg h1
   ·exact absurd hg h2
 have hN:q.Op=4∨q.Op=5→0≤q.N∧q.N<l.length:=by
  intro h
  rcases hq with k'|k'|k'|k'|k'|k'|k'|k'|k'|k'<;>first|(exfalso;have:=k'.1;omega)|exact⟨k'.2.2.2.2.1,k'.2.2.2.2.2⟩
 unfold uX
 rw[e1]
 by_cases h1:q.Op=10
 ·rw[if_pos (by rw[zM];exact h1)]
  exact⟨_,rfl,by simp,fun h=>absurd h1 h,fun h=>by omega,by simp⟩
 rw[if_neg (by rw[zM];exact h1)]
 by_cases h2:q.Op=4
 ·rw[if_pos (by rw[zM];exact h2)]
  exact⟨_,rfl,by simp,fun _ h=>absurd h2 h,fun h=>by simp,fun x hx=>by simp at hx;rw[hx];exact hN (.inl h2)⟩
 rw[if_neg (by rw[zM];exact h2),yU,bS',yU,bS']
 have hk1:=hn h1 h2
 split
 ·rename_i h3
  simp only[Bool.and_eq_true,zM] at h3
  refine⟨_,rfl,by simp,fun _ _=>by simp,fun _=>by simp,fun x hx=>?_⟩
  simp at hx
  rcases hx with rfl|rfl
  ·exact hN (.inr h3.1)
  ·exact⟨by omega,hk1⟩
 rename_i h3
 split
 ·rename_i h4
  simp only[Bool.and_eq_true,zM] at h4
  refine⟨_,rfl,by simp,fun _ _=>by simp,fun _=>by simp,fun x hx=>?_⟩
  simp at hx
  rcases hx with rfl|rfl
  ·exact⟨by omega,hk1⟩
  ·exact hN (.inr h4.1)
 rename_i h4
 refine⟨_,rfl,by simp,fun _ _=>by simp,fun h=>?_,fun x hx=>by simp at hx;rw[hx];exact⟨by omega,hk1⟩⟩
 simp only[Bool.and_eq_true,zM,zD,yI,not_and] at h3 h4
 have:=h3 (by omega)
 have:=h4 (by omega)
 simp only[List.mem_singleton]
 omega
theorem rT_set {R:List Bool}{x y:Int}(hx:0≤x∧x<R.length)(h:rT R y):rT (R.set x.toNat true) y:=by
 refine⟨h.1,?_⟩
 by_cases e:x.toNat=y.toNat
 ·rw[← e,List.getElem?_set_self (by omega)]
 ·rw[List.getElem?_set_ne e];exact h.2
theorem rT_self {R:List Bool}{x:Int}(hx:0≤x∧x<R.length):rT (R.set x.toNat true) x:=⟨hx.1,by rw[List.getElem?_set_self (by omega)]⟩
theorem reachL2 {n:Nat}(hn:n≤600){L:List Int}(hL:L.length≤2)(hLr:∀x∈L,0≤x∧x<n){R:List Bool}{W:List Int}(hR:R.length=n)(hW:2*R.count false+W.length≤1300):
  Ok (loopM (vL L) (0,R,W)) (fun e=>e.1.length=n∧2*e.1.count false+e.2.length≤2*R.count false+W.length∧(∀x,rT R x→rT e.1 x)∧(∀x∈W,x∈e.2)∧(∀x∈e.2,x∈W∨0≤x∧x<n)∧(∀x∈L,rT e.1 x)∧∀x,rT e.1 x→rT R x∨x∈e.2):=by
 refine Ok.loop (fun s=>∃i:Nat,i≤L.length∧s.1=(i:Int)∧s.2.1.length=n∧2*s.2.1.count false+s.2.2.length≤2*R.count false+W.length∧(∀x,rT R x→rT s.2.1 x)∧(∀x∈W,x∈s.2.2)∧(∀x∈s.2.2,x∈W∨0≤x∧x<n)∧(∀x∈L.take i,rT s.2.1 x)∧∀x,rT s.2.1 x→rT R x∨x∈s.2.2) (fun s=>L.length-s.1.toNat) _ ⟨0,by omega,rfl,hR,Nat.le_refl _,fun _ h=>h,fun _ h=>h,fun _ h=>.inl h,by simp,fun _ h=>.inl h⟩ ?_
 rintro⟨s1,Q,V⟩ ⟨i,hi,h1,h2,h3,h4,h5,h6,h7,h8⟩
 simp only at h1 h2 h3 h4 h5 h6 h7 h8
 subst h1
 unfold vL
 dsimp only
 rw[iadd1 (by omega)]
 refine Ok.ite (fun hlt=>?_) fun hge=>?_
 ·rw[zD,zC] at hlt
  have hlt':i<L.length:=by omega
  have hr:=hLr _ (List.getElem_mem hlt')
  have hm:L.take (i+1)=L.take i++[L[i]]:=by rw[List.take_add_one,List.getElem?_eq_getElem hlt'];rfl
  rw[zT (List.getElem?_eq_getElem hlt'),bS']
  generalize L[i]=x at hr hm
  have hq:x.toNat<Q.length:=by omega
  have hg:=List.getElem?_eq_getElem hq
  have hix:idx Q x=some Q[x.toNat]:=by
   have:=zT hg
   rwa [Int.toNat_of_nonneg hr.1] at this
  rw[hix,bS']
  refine Ok.ite (fun hb=>?_) fun hb=>?_
  ·have hf:Q[x.toNat]=false:=by simpa [bnot] using hb
   refine Ok.bind (Ok.set (by omega)) fun Q' eQ=>Ok.bind (Ok.app (by simp;omega)) fun V' eV=>Ok.pure ⟨⟨i+1,by omega,rfl,by rw[eQ];simp[h2],?_,?_,?_,?_,?_,?_⟩,by simp only;omega⟩
   ·rw[eQ,eV]
    simp only[List.length_append,List.length_singleton]
    have hc:=List.count_set (a:=true) (b:=false) hq
    rw[hf] at hc
    simp at hc
    have hpos:0<Q.count false:=List.count_pos_iff.2 (by rw[← hf];exact List.getElem_mem hq)
    omega
   ·intro y hy;rw[eQ];exact rT_set (by omega) (h4 y hy)
   ·intro y hy;rw[eV];exact List.mem_append_left _ (h5 y hy)
   ·intro y hy
    rw[eV] at hy
    rcases List.mem_append.1 hy with hy|hy
    ·exact h6 y hy
    ·simp at hy;rw[hy];exact .inr hr
   ·intro y hy
    rw[eQ]
    rw[hm] at hy
    rcases List.mem_append.1 hy with hy|hy
    ·exact rT_set (by omega) (h7 y hy)
    ·simp at hy;rw[hy];exact rT_self (by omega)
   ·intro y hy
    rw[eQ] at hy
    rw[eV]
    by_cases e:x.toNat=y.toNat
    ·right
     have:y=x:=by have:=hy.1;omega
     rw[this];simp
    ·rcases h8 y ⟨hy.1,by rw[← List.getElem?_set_ne e];exact hy.2⟩ with h|h
     ·exact .inl h
     ·exact .inr (List.mem_append_left _ h)
  ·have ht:Q[x.toNat]=true:=by
    cases hx:Q[x.toNat]
    ·rw[hx] at hb;exact absurd rfl hb
    ·rfl
   refine Ok.pure ⟨⟨i+1,by omega,rfl,h2,h3,h4,h5,h6,?_,h8⟩,by simp only;omega⟩
   intro y hy
   rw[hm] at hy
   rcases List.mem_append.1 hy with hy|hy
   ·exact h7 y hy
   ·simp at hy;rw[hy];exact⟨hr.1,by rw[hg,ht]⟩
 ·rw[zD,zC] at hge
  have:i=L.length:=by omega
  subst this
  rw[List.take_length] at h7
  exact Ok.pure ⟨h2,h3,h4,h5,h6,h7,h8⟩
theorem dT {l:List gQuad}(hc:kG false l):∃R,vD l=some R∧R.length=l.length∧rT R 0∧∀(k:Nat) (hk:k<l.length) L,rT R k→uX l[k] k=some L→∀x∈L,rT R x:=by
 have hl:=hc.1
 unfold vD
 rw[fZ,kK hc,bS',if_neg (by simp[bnot])]
 have hm:makex 1 (ilen l) false=some (List.replicate l.length false):=by
  unfold makex ilen
  rw[if_pos (by unfold maxLen;omega)]
  simp
 rw[hm,bS']
 have h00:(List.replicate l.length false)[(0:Nat)]? =some false:=by rw[List.getElem?_replicate,if_pos (by omega)]
 have hix:idx (List.replicate l.length false) 0=some false:=zT h00
 have hset:setx (List.replicate l.length false) 0 true=some ((List.replicate l.length false).set 0 true):=gZ true hix
 rw[hix,bS',hset,bS',bS']
 have hcnt:((List.replicate l.length false).set 0 true).count false+1=l.length:=by
  have:=count_set (List.replicate l.length false) 0 h00
  rw[this];simp
 have key:Ok (loopM (vM l) ((List.replicate l.length false).set 0 true,[0])) (fun R=>R.length=l.length∧rT R 0∧∀(k:Nat) (hk:k<l.length) L,rT R k→uX l[k] k=some L→∀x∈L,rT R x):=by
  refine Ok.loop (fun s:List Bool×List Int=>s.1.length=l.length∧2*s.1.count false+s.2.length≤1300∧rT s.1 0∧(∀x∈s.2,0≤x∧x<l.length)∧∀(k:Nat) (hk:k<l.length) L,rT s.1 k→(k:Int)∈s.2∨(uX l[k] k=some L→∀x∈L,rT s.1 x)) (fun s:List Bool×List Int=>2*s.1.count false+s.2.length) _ ⟨by simp,by simp only[List.length_singleton];omega,⟨by omega,by show((List.replicate l.length false).set 0 true)[(0:Nat)]? =some true;rw[List.getElem?_set_self (by rw[List.length_replicate];omega)]⟩,fun x hx=>by(have:x=0:=by simpa using hx);omega,fun k hk L hr=>?_⟩ ?_
  ·left
   by_cases hk0:k=0
   ·subst hk0;simp
   ·exfalso
    have:=hr.2
    simp only[Int.toNat_natCast] at this
    rw[List.getElem?_set_ne (by omega),List.getElem?_replicate] at this
    split at this<;>cases this
  rintro⟨R,W⟩ ⟨h1,h2,h3,h4,h5⟩
  simp only at h1 h2 h3 h4 h5
  unfold vM
  dsimp only
  refine Ok.ite (fun hw=>?_) fun hw=>?_
  ·rw[yI,zC] at hw
   have hW:W≠[]:=by rintro rfl;simp at hw
   obtain⟨V,x,rfl⟩:∃V x,W=V++[x]:=⟨W.dropLast,W.getLast hW,(List.dropLast_concat_getLast hW).symm⟩
   have hil:isub .i64 (ilen (V++[x])) 1=(V.length:Int):=by
    simp only[List.length_append,List.length_singleton] at h2
    rw[zC,List.length_append,List.length_singleton,yE _ _ (by omega)]
    omega
   have hx:idx (V++[x]) (V.length:Int)=some x:=zT (by simp)
   have hcut:cutx (V++[x]) 0 (V.length:Int)=some V:=by
    rw[cutx_iff]
    exact⟨⟨by omega,by omega,by rw[List.length_append,List.length_singleton];omega⟩,by simp⟩
   have hxr:=h4 x (by simp)
   have hxl:x.toNat<l.length:=by omega
   have hxi:idx l x=some l[x.toNat]:=by
    have:=zT (List.getElem?_eq_getElem hxl)
    rwa [Int.toNat_of_nonneg hxr.1] at this
   obtain⟨L,e1,e2,e3,e4,e5⟩:=nextOf_in hc hxl
   rw[Int.toNat_of_nonneg hxr.1] at e1
   simp only[List.length_append,List.length_singleton] at h2
   rw[hil,hx,bS',hcut,bS',hxi,bS',e1,bS']
   refine Ok.bind (reachL2 (by omega) e2 e5 h1 (by omega)) fun e he=>?_
   obtain⟨Q,U⟩:=e
   obtain⟨a1,a2,a3,a4,a5,a6,a7⟩:=he
   simp only at a1 a2 a3 a4 a5 a6 a7 ⊢
   refine Ok.pure ⟨⟨a1,by simp only;omega,a3 0 h3,?_,?_⟩,by simp only[List.length_append,List.length_singleton];omega⟩
   ·intro y hy
    rcases a5 y hy with h|h
    ·exact h4 y (by simp[h])
    ·exact h
   ·intro k hk M hr
    rcases a7 k hr with h|h
    ·rcases h5 k hk M h with h|h
     ·rcases List.mem_append.1 h with h|h
      ·exact .inl (a4 _ h)
      ·simp at h
       right
       intro hM y hy
       have ek:x.toNat=k:=by omega
       subst ek
       rw[Int.toNat_of_nonneg hxr.1,e1] at hM
       cases hM
       exact a6 y hy
     ·exact .inr fun hM y hy=>a3 y (h hM y hy)
    ·exact .inl h
  ·have hW:W=[]:=by
    cases W with
    |nil=>rfl
    |cons a b=>exfalso;apply hw;rw[yI,zC];simp
   subst hW
   refine Ok.pure ⟨h1,h3,fun k hk L hr hM=>?_⟩
   rcases h5 k hk L hr with h|h
   ·simp at h
   ·exact h hM
 obtain⟨R,e,hR⟩:=key
 rw[e]
 exact⟨R,rfl,hR⟩
theorem step_reach {l:List gQuad}{t:gThread}{bx:List gBox}{q:gQuad}(h:Can l t bx q){R:List Bool}(hR:∀(k:Nat) (hk:k<l.length) L,rT R k→uX l[k] k=some L→∀x∈L,rT R x)(ht:rT R t.Pc):rT R (thrP q t bx).1.Pc:=by
 have hf:=h.fit
 have hk:t.Pc.toNat<l.length:=by have:=hf.2.2;omega
 have hq:l[t.Pc.toNat]=q:=by have:=h.at';rw[List.getElem?_eq_getElem hk] at this;exact Option.some.inj this
 have hpc:((t.Pc.toNat:Nat):Int)=t.Pc:=Int.toNat_of_nonneg hf.2.2.1
 obtain⟨L,e1,_,e3,e4,_⟩:=nextOf_in h.code hk
 have hcl:=hR t.Pc.toNat hk L (by rw[hpc];exact ht) e1
 rw[hq,hpc] at e3
 rw[hq] at e4
 refine h.cases (P:=fun r=>rT R r.1.Pc) ?_ ?_ ?_ ?_ ?_ ?_ ?_ ?_ ?_ ?_ ?_
 ·intro k1 _ _;exact hcl _ (e3 (by omega) (by omega))
 ·intro k1 _ _;exact hcl _ (e3 (by omega) (by omega))
 ·intro k1 _ _ _ _;exact hcl _ (e3 (by omega) (by omega))
 ·intro k1 _ _;exact hcl _ (e4 (by omega))
 ·intro k1 _ _ _
  simp only
  split
  ·exact hcl _ (e4 (by omega))
  ·exact hcl _ (e3 (by omega) (by omega))
 ·intro k1 _ _ b _ _
  split
  ·exact hcl _ (e3 (by omega) (by omega))
  ·exact ht
 ·intro k1 _ _ r x s _ _;exact hcl _ (e3 (by omega) (by omega))
 ·intro k1 _ _ r _ _;exact ht
 ·intro k1;exact hcl _ (e3 (by omega) (by omega))
 ·intro k1 _;exact hcl _ (e3 (by omega) (by omega))
 ·intro k1;exact ht
def AtR (c:gCrew):Prop:=∀(k:Nat) l t R,c.Codes[k]? =some l→c.Threads[k]? =some t→vD l=some R→rT R t.Pc
theorem AtR.step {c:gCrew}(h:CrewOk c)(hr:AtR c):AtR (crewS c):=by
 by_cases hi:c.Idle<c.Codes.length
 ·obtain⟨l,t,q,h1,h2,h3,h4,h5⟩:=h.now
  rw[sA hi h1 h2 h3]
  intro k l' t' R a1 a2 a3
  simp only[crewG] at a1 a2
  by_cases hk:c.Turn.toNat=k
  ·subst hk
   rw[List.getElem?_set_self (List.getElem?_eq_some_iff.1 h2).1] at a2
   rw[h1] at a1
   cases a1
   cases a2
   obtain⟨R',e,_,_,e4⟩:=dT h4.code
   rw[a3] at e
   cases e
   exact step_reach h4 e4 (hr _ l t R h1 h2 a3)
  ·rw[List.getElem?_set_ne hk] at a2
   exact hr k l' t' R a1 a2 a3
 ·rw[vE hi];exact hr
theorem AtR.steps {c:gCrew}(h:CrewOk c)(hr:AtR c)(n:Nat):AtR (crewN n c):=by
 induction n generalizing c with
 |zero=>exact hr
 |succ n ih=>exact ih h.step (hr.step h)
theorem fnReachRun_true (l m:List Int)(hb:Bytes l)(hl:l.length≤maxLen):sJ l m=some true:=by
 unfold sJ
 refine headC hb hl fun r z1 z2 z3 hC h0 hm=>?_
 rw[yI,zC] at hm
 have e1:remx (ilen m) 151=some ((m.length:Int) % 151):=by rw[zC,fH _ _ (by omega) (by omega)]
 rw[e1,bS',crewOf_val (by omega) z2 z3 hC (by omega),bS']
 generalize ((m.length:Int) % 151).toNat=n
 have hx:=hC.steps n
 have hA:AtR (crewN n (crew0 r.1 r.2)):=by
  refine AtR.steps hC (fun k l' t' R a1 a2 a3=>?_) n
  have hk:=(List.getElem?_eq_some_iff.1 a1).1
  obtain⟨R',e,_,e3,_⟩:=dT (hC.thr k l' t' a1 a2).1
  rw[a3] at e
  cases e
  have:t'=thr0:=by
   simp only[crew0] at a2
   exact(List.mem_replicate.1 (List.mem_of_getElem? a2)).2
  rw[this]
  exact e3
 have hcodes:(crewN n (crew0 r.1 r.2)).Codes=r.2:=crewN_codes n
 generalize crewN n (crew0 r.1 r.2)=x at*
 have hmany:=hx.many
 have hsame:=hx.same
 rw[hcodes] at hmany hsame
 rw[yD (step:=jD r) (s0:=((0:Int),x)) r.2.length (fun k=>((k:Int),x)) (.inl ()) rfl (fun k hk=>?_) ?_,bS']
 ·unfold jD
  dsimp only
  rw[if_neg (by rw[zD,zC];omega)]
 ·unfold jD
  dsimp only
  have a1:=List.getElem?_eq_getElem hk
  have a2:=List.getElem?_eq_getElem (l:=x.Threads) (i:=k) (by omega)
  have a1':x.Codes[k]? =some r.2[k]:=by rw[hcodes];exact a1
  obtain⟨c1,c2,c3⟩:=hx.thr k _ _ a1' a2
  obtain⟨R,e,e2,_,_⟩:=dT c1
  have hat:=hA k _ _ R a1' a2 e
  have hix:idx R (x.Threads[k]'(by omega)).Pc=some true:=by
   have:=zT hat.2
   rwa [Int.toNat_of_nonneg hat.1] at this
  rw[if_pos (by rw[zD,zC];omega),if_neg (by rw[wY,zC,zC];omega),zT a1,bS',e,bS',zT a2,bS',hix,bS',bS',if_neg (by simp[bnot]),iadd1 (by omega)]
end Go.Abs
