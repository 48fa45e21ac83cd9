/- Codes whose jumps are followed are valid. -/
import Derived.Test.YtolmjhgondilhaaGreatNOpV
import Derived.Test.YtolmjhgondilhaaGreatNOpF
import Derived.Test.YtolmjhgondilhaaGreatNCoT
set_option linter.unusedSimpArgs false
set_option linter.unusedVariables false
set_option maxHeartbeats 4000000
namespace Go.Abs
open Go

variable {Z:Bool}

inductive Jto (l:List gQuad):Int->Int->Prop
 |refl (a:Int):Jto l a a
 |tail {a x:Int} {q:gQuad} (h:Jto l a x) (hq:l[x.toNat]? =some q) (ho:q.Op=4):Jto l a q.N
theorem Ok.target {l:List gQuad}(hc:kH Z l){a:Int}(ha:0<=a/\a<l.length):Ok (tM l a) (fun r:Int=>(0<=r/\r<l.length)/\Jto l a r):=by
 unfold tM
 have hl:=hc.1
 refine Ok.bind (P:=fun e=>∀r:Int,e=.inr r->(0<=r/\r<l.length)/\Jto l a r) ?_ fun e he=>?_
 .refine Ok.loop (fun s=>∃i:Nat,s.2=(i:Int)/\i<=l.length/\(0<=s.1/\s.1<(l.length:Int))/\Jto l a s.1) (fun s=>l.length-s.2.toNat) _ ⟨0,rfl,by omega,ha,.refl a⟩ ?_
  rintro⟨x,i'⟩ ⟨i,h1,h2,h3,h4⟩
  simp only at h1 h3 h4
  subst h1
  unfold sR
  dsimp only
  refine Ok.ite (fun hi=>?_) fun hi=>Ok.pure fun r hr=>by cases hr
  rw[zD,zF] at hi
  refine Ok.bind (Ok.idx' h3) fun q hq=>?_
  refine Ok.ite (fun _=>Ok.pure fun r hr=>by cases hr;exact⟨h3,h4⟩) fun ho=>?_
  have ho4:q.Op=4:=by
   rw[wS] at ho;exact Classical.not_not.1 ho
  have hv:0<=q.N/\q.N<l.length:=by
   rcases hc.2.1 q (List.mem_of_getElem? hq) with h|h|h|h|h|h|h|h|h|h
   case inr.inr.inr.inl=>exact h.2.2.2.2
   all_goals (have:=h.1;omega)
  rw[iadd1 (by omega)]
  exact Ok.pure ⟨⟨i+1,rfl,by omega,hv,.tail h4 hq ho4⟩,by simp only;omega⟩
 .cases e with
  |inl _=>exact Ok.pure ⟨ha,.refl a⟩
  |inr r=>exact Ok.pure (he r rfl)
def jumpQ (l:List gQuad)(k:Nat)(q:gQuad):Prop:=∃p,l[k]? =some p/\((p.Op≠4/\p.Op≠5/\q=p)\/((p.Op=4\/p.Op=5)/\∃r:Int,(0<=r/\r<l.length)/\Jto l p.N r/\q=⟨p.Op,p.Dst,p.A,p.B,r⟩))
theorem QV.target {p:gQuad}{m m' r:Int}(hv:QV Z p m)(h1:p.Op=4\/p.Op=5)(h2:0<=r/\r<m'):QV Z ⟨p.Op,p.Dst,p.A,p.B,r⟩ m':=by
 rcases hv with h|h|h|h|h|h|h|h|h|h
 case inr.inr.inr.inl=>exact .inr (.inr (.inr (.inl ⟨h.1,h.2.1,h.2.2.1,h.2.2.2.1,h2⟩)))
 case inr.inr.inr.inr.inl=>exact .inr (.inr (.inr (.inr (.inl ⟨h.1,h.2.1,h.2.2.1,h.2.2.2.1,h2⟩))))
 all_goals (have:=h.1;omega)
theorem Ok.jump {l:List gQuad}(hc:kH Z l):Ok (pH l) (fun r=>r.2=true/\kH Z r.1/\r.1.length=l.length/\∀(k:Nat) (q:gQuad),r.1[k]? =some q->jumpQ l k q):=by
 unfold pH
 have hl:=hc.1
 rw[kM hc,bS',if_neg (by simp[bnot])]
 refine Ok.bind (P:=fun o=>o.length=l.length/\∀(k:Nat) (q:gQuad),o[k]? =some q->jumpQ l k q) ?_ fun o ho=>Ok.pure ⟨rfl,?_,ho.1,ho.2⟩
 .refine Ok.outs l.length _ (fun k hk o hl'=>?_) fun o hl'=>?_
  .unfold uR
   dsimp only
   rw[if_pos (by rw[zD,zF];omega),zV (List.getElem?_eq_getElem hk),bS',iadd1 (by omega)]
   simp only[if_or,bS']
   refine Ok.bind (P:=jumpQ l k) ?_ fun q hq=>?_
   .refine Ok.ite (fun h=>?_) fun h=>?_
    .rw[Bool.or_eq_true,zP,zP] at h
     have hv:0<=l[k].N/\l[k].N<l.length:=by
      rcases hc.2.1 _ (List.getElem_mem hk) with h|h|h|h|h|h|h|h|h|h
      case inr.inr.inr.inl=>exact h.2.2.2.2
      case inr.inr.inr.inr.inl=>exact h.2.2.2.2
      all_goals (have:=h.1;omega)
     exact Ok.bind (Ok.target hc hv) fun r hr=>Ok.pure ⟨_,List.getElem?_eq_getElem hk,.inr ⟨h,r,hr.1,hr.2,rfl⟩⟩
    .rw[Bool.or_eq_true,zP,zP] at h
     exact Ok.pure ⟨_,List.getElem?_eq_getElem hk,.inl ⟨fun e=>h (.inl e),fun e=>h (.inr e),rfl⟩⟩
   .rw[app1 _ _ (by omega)]
    exact Ok.pure ⟨q,hq,rfl⟩
  .unfold uR
   dsimp only
   rw[if_neg (by rw[zD,zF];omega)]
 .refine dA hc ho.1 fun k q hq=>?_
  obtain⟨p,hp,h⟩:=ho.2 k q hq
  have hk:k<l.length:=(List.getElem?_eq_some_iff.1 hp).1
  rw[List.getElem?_eq_getElem hk] at hp
  cases hp
  have hv:=hc.2.1 _ (List.getElem_mem hk)
  rcases h with⟨_,_,rfl⟩|⟨h1,r,h2,_,rfl⟩
  .exact⟨hv,mO hc hk⟩
  .exact⟨hv.target h1 h2,mO hc hk⟩
end Go.Abs

/- What is reached; squeezed codes are valid. -/
set_option linter.unusedSimpArgs false
set_option linter.unusedVariables false
set_option maxHeartbeats 4000000
namespace Go.Abs
open Go

variable {Z:Bool}

def seenB (seen:List Bool)(x:Int):Bool:=seen.getD x.toNat false
theorem seen_set {seen:List Bool}{x:Int}(hx:0<=x/\x<seen.length){y:Int}(hy:0<=y):seenB (seen.set x.toNat true) y=(decide (y=x)||seenB seen y):=by
 unfold seenB
 by_cases h:y=x
 .subst h
  have:y.toNat<seen.length:=by omega
  simp[List.getD_eq_getElem?_getD,this]
 .have:¬x.toNat=y.toNat:=by omega
  simp[List.getD_eq_getElem?_getD,List.getElem?_set,this,h]
theorem seen_get {seen:List Bool}{x:Int}{v:Bool}(h:seen[x.toNat]? =some v):seenB seen x=v:=by
 unfold seenB;simp[List.getD_eq_getElem?_getD,h]
theorem count_set:∀(l:List Bool) (k:Nat),l[k]? =some false->(l.set k true).count false+1=l.count false:=by
 intro l
 induction l with
 |nil=>intro k h;simp at h
 |cons a l ih=>
  intro k h
  cases k with
  |zero=>simp at h;subst h;simp
  |succ k=>
   have:=ih k (by simpa using h)
   simp only[List.set_cons_succ,List.count_cons]
   omega
def nY (l:List gQuad)(seen:List Bool)(n:Nat):Prop:=∀k,k<n->seenB seen (k:Int)=true->∀x∈nxt l k,seenB seen x=true
theorem Ok.spread {l:List gQuad}(hc:kH Z l){seen:List Bool}(h:seen.length=l.length):
  Ok (wY l seen) (fun e=>e.2.length=l.length/\(∀x:Int,0<=x->seenB seen x=true->seenB e.2 x=true)/\(e.1=true->e.2.count false<seen.count false)/\(e.1=false->nY l e.2 l.length)):=by
 unfold wY
 have hl:=hc.1
 refine Ok.bind (P:=fun e=>e.2.length=l.length/\(∀x:Int,0<=x->seenB seen x=true->seenB e.2 x=true)/\(e.1=true->e.2.count false<seen.count false)/\(e.1=false->nY l e.2 l.length)) ?_ fun e he=>Ok.pure he
 refine Ok.loop (fun s=>∃k:Nat,s.2.1=(k:Int)/\k<=l.length/\s.2.2.length=l.length/\(∀x:Int,0<=x->seenB seen x=true->seenB s.2.2 x=true)/\(s.1=true->s.2.2.count false<seen.count false)/\(s.1=false->s.2.2=seen/\nY l seen k)) (fun s=>l.length-s.2.1.toNat) _
  ⟨0,rfl,by omega,h,fun _ _ h=>h,by simp,fun _=>⟨rfl,fun k hk=>by omega⟩⟩ ?_
 rintro⟨fr,k',cur⟩ ⟨k,h1,h2,h3,h4,h5,h6⟩
 simp only at h1 h3 h4 h5 h6
 subst h1
 unfold sT
 dsimp only
 rw[iadd1 (by omega)]
 refine Ok.ite (fun hi=>?_) fun hi=>?_
 .rw[zD,zF] at hi
  have hk:k<l.length:=by omega
  have hkc:k<cur.length:=by omega
  rw[zV (List.getElem?_eq_getElem hkc),bS']
  refine Ok.ite (fun hb=>?_) fun hb=>?_
  .have hb':cur[k]=false:=by simpa [bnot] using hb
   refine Ok.pure ⟨⟨k+1,rfl,by omega,h3,h4,h5,fun hf=>⟨(h6 hf).1,fun j hj hs=>?_⟩⟩,by simp only;omega⟩
   rcases Nat.lt_or_ge j k with hjk|hjk
   .exact(h6 hf).2 j hjk hs
   .have:j=k:=by omega
    subst this
    have e:=(h6 hf).1
    rw[<- e,seen_get (v:=false) (by rw[<- hb'];exact List.getElem?_eq_getElem hkc)] at hs
    cases hs
  .rw[next_val hk (by omega),bS']
   obtain⟨n2,nin⟩:=nxt_in hc hk
   refine Ok.bind (P:=fun e:Bool×List Bool=>e.2.length=l.length/\(∀x:Int,0<=x->seenB seen x=true->seenB e.2 x=true)/\(e.1=true->e.2.count false<seen.count false)/\(e.1=false->e.2=seen/\nY l seen (k+1))) ?_ fun e he=>?_
   .refine Ok.loop (fun s=>∃i:Nat,s.2.1=(i:Int)/\i<=(nxt l k).length/\s.2.2.length=l.length/\(∀x:Int,0<=x->seenB seen x=true->seenB s.2.2 x=true)/\(s.1=true->s.2.2.count false<seen.count false)/\(s.1=false->s.2.2=seen/\nY l seen k/\∀x∈(nxt l k).take i,seenB seen x=true)) (fun s=>(nxt l k).length-s.2.1.toNat) _
     ⟨0,rfl,by omega,h3,h4,h5,fun hf=>⟨(h6 hf).1,(h6 hf).2,by simp⟩⟩ ?_
    rintro⟨fr2,i',c2⟩ ⟨i,g1,g2,g3,g4,g5,g6⟩
    simp only at g1 g3 g4 g5 g6
    subst g1
    unfold sS
    dsimp only
    rw[iadd1 (by omega)]
    refine Ok.ite (fun hi2=>?_) fun hi2=>?_
    .rw[zD,zF] at hi2
     have hi3:i<(nxt l k).length:=by omega
     rw[zV (List.getElem?_eq_getElem hi3),bS']
     have hx:=nin _ (List.getElem_mem hi3)
     generalize hxe:(nxt l k)[i]=x at hx
     refine Ok.bind (Ok.idx' (by omega)) fun v hv=>?_
     refine Ok.ite (fun hb2=>?_) fun hb2=>?_
     .have hvf:v=false:=by simpa [bnot] using hb2
      subst hvf
      refine Ok.bind (Ok.set (by omega)) fun c3 hc3=>Ok.pure ⟨⟨i+1,rfl,by omega,by rw[hc3];simp[g3],?_,?_,fun h=>by cases h⟩,by simp only;omega⟩
      .intro y hy hs
       rw[hc3,seen_set (by omega) hy,g4 y hy hs];simp
      .intro _
       have:=count_set c2 x.toNat hv
       simp only
       rw[hc3]
       cases fr2 with
       |true=>have:=g5 rfl;omega
       |false=>rw[(g6 rfl).1] at this ⊢;omega
     .have hvt:v=true:=by simpa [bnot] using hb2
      subst hvt
      refine Ok.pure ⟨⟨i+1,rfl,by omega,g3,g4,g5,fun hf=>⟨(g6 hf).1,(g6 hf).2.1,fun y hy=>?_⟩⟩,by simp only;omega⟩
      rw[List.take_add_one,List.getElem?_eq_getElem hi3,hxe] at hy
      rcases List.mem_append.1 hy with hy|hy
      .exact(g6 hf).2.2 y hy
      .simp at hy;subst hy
       have e:=(g6 hf).1
       rw[<- e]
       exact seen_get hv
    .rw[zD,zF] at hi2
     have:i=(nxt l k).length:=by omega
     subst this
     refine Ok.pure ⟨g3,g4,g5,fun hf=>⟨(g6 hf).1,fun j hj hs=>?_⟩⟩
     rcases Nat.lt_or_ge j k with hjk|hjk
     .exact(g6 hf).2.1 j hjk hs
     .have:j=k:=by omega
      subst this
      have:=(g6 hf).2.2
      rw[List.take_length] at this
      exact this
   .obtain⟨e1,e2⟩:=e
    exact Ok.pure ⟨⟨k+1,rfl,by omega,he⟩,by simp only;omega⟩
 .rw[zD,zF] at hi
  have:k=l.length:=by omega
  subst this
  exact Ok.pure ⟨h3,h4,h5,fun hf=>by
   have:=h6 hf
   simp only at this ⊢
   rw[this.1];exact this.2⟩
theorem codeReach_o_eq:uV=nT:=rfl
theorem Ok.reach {l:List gQuad}(hc:kH Z l):Ok (nT l) (fun seen=>seen.length=l.length/\seenB seen 0=true/\nY l seen l.length):=by
 unfold nT
 have hl:=hc.1
 rw[kM hc,bS',if_neg (by simp[bnot])]
 have hm:makex 1 (ilen l) false=some (List.replicate l.length false):=by
  unfold makex ilen
  rw[if_pos (by unfold maxLen;omega)]
  simp
 rw[hm,bS']
 refine Ok.bind (Ok.idx (by simp;omega)) fun v hv=>?_
 refine Ok.bind (Ok.set (by simp;omega)) fun s0 hs0=>?_
 refine Ok.bind (P:=fun seen=>seen.length=l.length/\seenB seen 0=true/\nY l seen l.length) ?_ fun e he=>Ok.pure he
 refine Ok.loop (fun s=>s.length=l.length/\seenB s 0=true) (fun s=>s.count false) _ ⟨by rw[hs0];simp,by rw[hs0,seen_set (by simp;omega) (by omega)];simp⟩ ?_
 rintro s ⟨h1,h2⟩
 unfold gJ
 refine Ok.bind (Ok.spread hc h1) fun e he=>?_
 refine Ok.ite (fun hb=>Ok.pure ⟨⟨he.1,he.2.1 0 (by omega) h2⟩,he.2.2.1 hb⟩) fun hb=>Ok.pure ⟨he.1,he.2.1 0 (by omega) h2,he.2.2.2 (by simpa using hb)⟩
end Go.Abs

/- Squeezed codes are valid. -/
set_option linter.unusedSimpArgs false
set_option linter.unusedVariables false
set_option maxHeartbeats 4000000
namespace Go.Abs
open Go

variable {Z:Bool}

def idleB (l:List gQuad)(k:Nat):Bool:=match l[k]? with
 |none=>false
 |some q=>if q.Op=4\/q.Op=5 then decide (q.N=(k:Int)+1) else if q.Op=2 then decide (q.Dst=q.A) else false
theorem idle_val {l:List gQuad}{k:Nat}(hk:k<l.length)(hl:l.length<=1000):oP l[k] (k:Int)=some (idleB l k):=by
 unfold oP idleB
 rw[List.getElem?_eq_getElem hk]
 dsimp only
 have e1:iadd .i64 (k:Int) 1=(k:Int)+1:=zS _ _ (by omega)
 have hj:(if ieq l[k].Op 4=true then some (ieq l[k].Op 4) else some (ieq l[k].Op 5))=some (decide (l[k].Op=4\/l[k].Op=5)):=by
  by_cases h:l[k].Op=4
  .simp[ieq,h]
  .simp[ieq_d,h]
 rw[hj,bS',e1]
 by_cases h:l[k].Op=4\/l[k].Op=5
 .rw[decide_eq_true h,if_pos rfl,if_pos h,ieq_d]
 .rw[decide_eq_false h,if_neg (by simp),if_neg h]
  by_cases h2:l[k].Op=2
  .rw[if_pos ((zP _ _).2 h2),if_pos h2,ieq_d]
  .rw[if_neg (by rw[zP];exact h2),if_neg h2]
def keepL (l:List gQuad)(seen:List Bool):List Bool:=(List.range l.length).map fun k:Nat=>seenB seen (k:Int)&& !(idleB l k)
theorem keep_get {l:List gQuad}{seen:List Bool}{k:Nat}(hk:k<l.length):(keepL l seen)[k]? =some (seenB seen (k:Int)&& !(idleB l k)):=by simp[keepL,hk]
theorem keep_len (l:List gQuad)(seen:List Bool):(keepL l seen).length=l.length:=by simp[keepL]
def kc (keep:List Bool)(k:Nat):Nat:=(keep.take k).count true
theorem kc_succ {keep:List Bool}{k:Nat}{v:Bool}(h:keep[k]? =some v):kc keep (k+1)=kc keep k+(if v=true then 1 else 0):=by
 unfold kc
 rw[List.take_add_one,h,List.count_append]
 cases v<;>simp
theorem kc_mono (keep:List Bool){j k:Nat}(h:j<=k):kc keep j<=kc keep k:=by
 unfold kc
 exact List.Sublist.count_le _ (by
  have:keep.take j=(keep.take k).take j:=by rw[List.take_take,Nat.min_eq_left h]
  rw[this]
  exact List.take_sublist _ _)
theorem kc_le (keep:List Bool)(k:Nat):kc keep k<=k:=by
 unfold kc
 exact Nat.le_trans List.count_le_length (by simp;omega)
theorem kept_behind {l:List gQuad}(hc:kH Z l){seen:List Bool}(hcl:nY l seen l.length):∀(m k:Nat),k+m=l.length->k<l.length->seenB seen (k:Int)=true->∃j,k<=j/\j<l.length/\(keepL l seen)[j]? =some true:=by
 intro m
 induction m with
 |zero=>intro k h1 h2;omega
 |succ m ih=>
  intro k h1 h2 hs
  cases hi:idleB l k with
  |false=>exact⟨k,Nat.le_refl _,h2,by rw[keep_get h2,hs,hi];rfl⟩
  |true=>
   have hx:((k:Int)+1)∈nxt l k/\k+1<l.length:=by
    have hlast:=mO hc h2
    have hv:=hc.2.1 _ (List.getElem_mem h2)
    unfold idleB at hi
    unfold nxt
    rw[List.getElem?_eq_getElem h2] at hi ⊢
    dsimp only at hi ⊢
    split at hi
    .rename_i ho
     have hN:l[k].N=(k:Int)+1:=by simpa using hi
     have hb:0<=l[k].N/\l[k].N<l.length:=by
      rcases hv with h|h|h|h|h|h|h|h|h|h
      case inr.inr.inr.inl=>exact h.2.2.2.2
      case inr.inr.inr.inr.inl=>exact h.2.2.2.2
      all_goals (have:=h.1;omega)
     refine⟨?_,by omega⟩
     rw[if_neg (by omega)]
     rcases ho with ho|ho
     .rw[if_pos ho,hN];simp
     .rw[if_neg (by omega),if_neg (by omega),if_neg (by omega)];simp
    .split at hi
     .rename_i ho
      refine⟨?_,?_⟩
      .rw[if_neg (by omega),if_neg (by omega),if_neg (by omega),if_neg (by omega)];simp
      .have:k+1≠l.length:=fun e=>by have:=hlast e;omega
       omega
     .cases hi
   have hs2:=hcl k h2 hs _ hx.1
   obtain⟨j,h3,h4,h5⟩:=ih (k+1) (by omega) hx.2 (by rw[<- hs2];rfl)
   exact⟨j,by omega,h4,h5⟩
theorem place_val {keep:List Bool}{a:Int}(ha:0<=a/\a<=keep.length)(hl:keep.length<=1000):qS keep a=some ((kc keep a.toNat:Nat):Int):=by
 unfold qS
 rw[yC (step:=xW keep a) (s0:=((0:Int),(0:Int))) a.toNat (fun i=>(((kc keep i:Nat):Int),(i:Int))) ((kc keep a.toNat:Nat):Int) (by simp[kc]) (fun i hi=>?_) ?_,bS']
 .unfold xW
  dsimp only
  rw[if_neg (by rw[zD];omega)]
 .unfold xW
  dsimp only
  have hik:i<keep.length:=by omega
  have:=kc_le keep i
  rw[if_pos (by rw[zD];omega),zV (List.getElem?_eq_getElem hik),bS',iadd1 (by omega),iadd1 (by omega),kc_succ (List.getElem?_eq_getElem hik)]
  cases keep[i]<;>rfl
def squQ (l:List gQuad)(keep:List Bool)(k:Nat):gQuad:=match l[k]? with
 |none=>⟨0,0,0,0,0⟩
 |some q=>if q.Op=4\/q.Op=5 then⟨q.Op,q.Dst,q.A,q.B,((kc keep q.N.toNat:Nat):Int)⟩ else q
def squP (l:List gQuad)(keep:List Bool)(o:List gQuad):Prop:=o.length=kc keep l.length/\∀(j:Nat) (q:gQuad),o[j]? =some q->∃k,k<l.length/\keep[k]? =some true/\kc keep k=j/\q=squQ l keep k
theorem Ok.squeeze {l:List gQuad}(hc:kH Z l):Ok (wJ l) (fun r=>r.2=true/\kH Z r.1/\∃seen,nT l=some seen/\seen.length=l.length/\seenB seen 0=true/\nY l seen l.length/\squP l (keepL l seen) r.1):=by
 unfold wJ
 have hl:=hc.1
 rw[kM hc,bS',if_neg (by simp[bnot]),codeReach_o_eq]
 obtain⟨seen,hv,hs1,hs2,hs3⟩:=Ok.reach hc
 rw[hv,bS']
 have hmix:∀k,k<=l.length->(keepL l seen).take k++seen.drop k=(keepL l seen).take k++seen.drop k:=fun _ _=>rfl
 rw[yC (step:=yX l) (s0:=((0:Int),seen)) l.length (fun k=>((k:Int),(keepL l seen).take k++seen.drop k)) (keepL l seen) (by simp) (fun k hk=>?_) ?_,bS']
 .have klen:=keep_len l seen
  generalize hkeep:keepL l seen=keep at klen
  have kget:∀k,k<l.length->keep[k]? =some (seenB seen (k:Int)&& !(idleB l k)):=fun k hk=>by rw[<- hkeep];exact keep_get hk
  refine Ok.bind (P:=fun o=>squP l keep o) ?_ fun o ho=>Ok.pure ⟨rfl,?_,seen,rfl,hs1,hs2,hs3,by rw[hkeep];exact ho⟩
  .refine Ok.loop (fun s=>∃k:Nat,s.1=(k:Int)/\k<=l.length/\s.2.1=keep/\s.2.2.length=kc keep k/\∀(j:Nat) (q:gQuad),s.2.2[j]? =some q->∃i,i<k/\keep[i]? =some true/\kc keep i=j/\q=squQ l keep i) (fun s=>l.length-s.1.toNat) _ ⟨0,rfl,by omega,rfl,by simp[kc],by simp⟩ ?_
   rintro⟨k',kp,o⟩ ⟨k,h1,h2,h3,h4,h5⟩
   simp only at h1 h3 h4 h5
   subst h1 h3
   unfold uJ
   dsimp only
   rw[iadd1 (by omega)]
   have hkl:=kc_le kp k
   refine Ok.ite (fun hi=>?_) fun hi=>?_
   .rw[zD,zF] at hi
    have hk:k<l.length:=by omega
    have hkk:k<kp.length:=by omega
    rw[zV (List.getElem?_eq_getElem hk),bS',zV (List.getElem?_eq_getElem hkk),bS']
    simp only[if_or,bS']
    refine Ok.ite (fun hb=>?_) fun hb=>?_
    .have hf:kp[k]=false:=by simpa [bnot] using hb
     refine Ok.pure ⟨⟨k+1,rfl,by omega,rfl,?_,fun j q hq=>?_⟩,by simp only;omega⟩
     .rw[kc_succ (List.getElem?_eq_getElem hkk),hf];simpa using h4
     .obtain⟨i,a1,a2⟩:=h5 j q hq
      exact⟨i,by omega,a2⟩
    .have ht:kp[k]=true:=by simpa [bnot] using hb
     refine Ok.bind (P:=fun q=>q=squQ l kp k) ?_ fun q hq=>?_
     .unfold squQ
      rw[List.getElem?_eq_getElem hk]
      dsimp only
      refine Ok.ite (fun h=>?_) fun h=>?_
      .rw[Bool.or_eq_true,zP,zP] at h
       have hv:0<=l[k].N/\l[k].N<l.length:=by
        rcases hc.2.1 _ (List.getElem_mem hk) with h|h|h|h|h|h|h|h|h|h
        case inr.inr.inr.inl=>exact h.2.2.2.2
        case inr.inr.inr.inr.inl=>exact h.2.2.2.2
        all_goals (have:=h.1;omega)
       rw[place_val (by omega) (by omega),if_pos h]
       exact Ok.pure rfl
      .rw[Bool.or_eq_true,zP,zP] at h
       rw[if_neg h]
       exact Ok.pure rfl
     .rw[app1 _ _ (by omega)]
      refine Ok.pure ⟨⟨k+1,rfl,by omega,rfl,?_,fun j x hx=>?_⟩,by simp only;omega⟩
      .rw[kc_succ (List.getElem?_eq_getElem hkk),ht];simp[h4]
      .rcases Nat.lt_or_ge j o.length with hj|hj
       .rw[List.getElem?_append_left hj] at hx
        obtain⟨i,a1,a2⟩:=h5 j x hx
        exact⟨i,by omega,a2⟩
       .rw[List.getElem?_append_right hj] at hx
        have e0:j-o.length=0:=by
         rcases Nat.eq_zero_or_pos (j-o.length) with h|h
         .exact h
         .rw[List.getElem?_eq_none (by simp;omega)] at hx;cases hx
        rw[e0] at hx
        simp at hx
        subst hx
        exact⟨k,by omega,by rw[List.getElem?_eq_getElem hkk,ht],by omega,hq⟩
   .rw[zD,zF] at hi
    have:k=l.length:=by omega
    subst this
    exact Ok.pure ⟨h4,h5⟩
  .show kH Z o
   obtain⟨hol,hoq⟩:=ho
   have beh:∀k,k<l.length->seenB seen (k:Int)=true->kc keep k<kc keep l.length:=by
    intro k hk hs
    obtain⟨j,h1,h2,h3⟩:=kept_behind hc hs3 (l.length-k) k (by omega) hk hs
    rw[hkeep] at h3
    have e1:=kc_succ h3
    have e2:=kc_mono keep h1
    have e3:=kc_mono keep (show j+1<=l.length by omega)
    simp at e1
    omega
   have hpos:=beh 0 (by omega) hs2
   have hle:=kc_le keep l.length
   have sn:∀k,keep[k]? =some true->k<l.length->seenB seen (k:Int)=true:=by
    intro k h1 h2
    rw[kget k h2] at h1
    have:=Option.some.inj h1
    rw[Bool.and_eq_true] at this
    exact this.1
   refine⟨by omega,fun q hq=>?_,fun q hq=>?_⟩
   .obtain⟨j,hj⟩:=List.mem_iff_getElem?.1 hq
    obtain⟨k,hk,k1,k2,rfl⟩:=hoq j q hj
    have hv:=hc.2.1 _ (List.getElem_mem hk)
    unfold squQ
    rw[List.getElem?_eq_getElem hk]
    dsimp only
    split
    .rename_i ho
     have hN:0<=l[k].N/\l[k].N<l.length:=by
      rcases hv with h|h|h|h|h|h|h|h|h|h
      case inr.inr.inr.inl=>exact h.2.2.2.2
      case inr.inr.inr.inr.inl=>exact h.2.2.2.2
      all_goals (have:=h.1;omega)
     have hmem:l[k].N∈nxt l k\/l[k].N=(k:Int)+1/\((k:Int)+1)∈nxt l k:=by
      unfold nxt
      rw[List.getElem?_eq_getElem hk]
      dsimp only
      rw[if_neg (by omega)]
      rcases ho with ho|ho
      .rw[if_pos ho];exact .inl (by simp)
      .rw[if_neg (by omega)]
       split
       .exact .inl (by simp)
       .split
        .exact .inl (by simp)
        .exact .inr ⟨by omega,by simp⟩
     have hsn:seenB seen l[k].N=true:=by
      rcases hmem with h|⟨h1,h2⟩
      .exact hs3 k hk (sn k k1 hk) _ h
      .rw[h1];exact hs3 k hk (sn k k1 hk) _ h2
     have:=beh l[k].N.toNat (by omega) (by rw[show((l[k].N.toNat:Nat):Int)=l[k].N by omega];exact hsn)
     exact hv.target ho (by omega)
    .rename_i ho
     rcases hv with h|h|h|h|h|h|h|h|h|h
     .exact .inl h
     .exact .inr (.inl h)
     .exact .inr (.inr (.inl h))
     .exact absurd (.inl h.1) ho
     .exact absurd (.inr h.1) ho
     .exact .inr (.inr (.inr (.inr (.inr (.inl h)))))
     .exact .inr (.inr (.inr (.inr (.inr (.inr (.inl h))))))
     .exact .inr (.inr (.inr (.inr (.inr (.inr (.inr (.inl h)))))))
     .exact .inr (.inr (.inr (.inr (.inr (.inr (.inr (.inr (.inl h))))))))
     .exact .inr (.inr (.inr (.inr (.inr (.inr (.inr (.inr (.inr h))))))))
   .obtain⟨k,hk,k1,k2,rfl⟩:=hoq _ q hq
    have hop:(squQ l keep k).Op=l[k].Op:=by
     unfold squQ
     rw[List.getElem?_eq_getElem hk]
     dsimp only
     split<;>rfl
    rw[hop]
    refine Classical.byContradiction fun hno=>?_
    have hx:((k:Int)+1)∈nxt l k:=by
     unfold nxt
     rw[List.getElem?_eq_getElem hk]
     dsimp only
     rw[if_neg (by omega),if_neg (by omega)]
     split
     .simp
     .split<;>simp
    have hk1:=(nxt_in hc hk).2 _ hx
    have:=beh (k+1) (by omega) (hs3 k hk (sn k k1 hk) _ hx)
    rw[kc_succ k1] at this
    simp at this
    omega
 .unfold yX
  dsimp only
  rw[if_neg (by rw[zD,zF];omega),List.take_of_length_le (by rw[keep_len];omega),List.drop_eq_nil_of_le (by omega),List.append_nil]
 .unfold yX
  dsimp only
  have hks:k<seen.length:=by omega
  have ht:((keepL l seen).take k).length=k:=by simp[keep_len];omega
  rw[if_pos (by rw[zD,zF];omega),List.drop_eq_getElem_cons hks,idx_cat _ _ _ k ht,bS',zV (List.getElem?_eq_getElem hk),bS',idle_val hk (by omega),bS']
  have hsv:seenB seen (k:Int)=seen[k]:=seen_get (List.getElem?_eq_getElem hks)
  simp only[jK,bS',setx_cat _ _ _ _ k ht]
  rw[iadd1 (by omega),List.take_add_one,keep_get hk,hsv,List.append_assoc]
  rfl
end Go.Abs

/- Optimized codes are valid; drawn codes. -/
set_option linter.unusedSimpArgs false
set_option linter.unusedVariables false
set_option maxHeartbeats 4000000
namespace Go.Abs
open Go

variable {Z:Bool}

theorem Ok.once {l:List gQuad}(hc:kH Z l):Ok (oO l) (kH Z):=by
 unfold oO
 refine Ok.bind (Ok.fold hc) fun a ha=>Ok.bind (Ok.copy ha.2) fun b hb=>Ok.bind (Ok.jump hb.2) fun c hcj=>Ok.bind (Ok.dead hcj.2.1) fun d hd=>Ok.bind (Ok.squeeze hd.2.1) fun e he=>Ok.pure he.2.1
theorem Ok.optimize {l:List gQuad}(hc:kH Z l){n:Int}(hn:0<=n/\n<=4):Ok (jV l n) (fun r=>r.2=true/\kH Z r.1):=by
 unfold jV
 have hl:=hc.1
 rw[kM hc,bS',if_neg (by simp[bnot]),xJ,bS',bS',decide_eq_true hn,if_neg (by simp[bnot])]
 have e0:appx 40 ([]:List gQuad) l=some l:=by
  rw[kS 40 [] _ (by simp;unfold maxLen;omega)];rfl
 rw[e0,bS']
 refine Ok.bind (P:=(kH Z)) ?_ fun y hy=>Ok.pure ⟨rfl,hy⟩
 refine Ok.loop (fun s=>∃i:Nat,s.2=(i:Int)/\(i:Int)<=n/\kH Z s.1) (fun s=>(n-s.2).toNat) _ ⟨0,rfl,by omega,hc⟩ ?_
 rintro⟨o,i'⟩ ⟨i,h1,h2,h3⟩
 simp only at h1 h3
 subst h1
 unfold vA
 dsimp only
 rw[iadd1 (by omega)]
 refine Ok.ite (fun hi=>?_) fun _=>Ok.pure h3
 rw[zD] at hi
 exact Ok.bind (Ok.once h3) fun r hr=>Ok.pure ⟨⟨i+1,rfl,by omega,hr⟩,by simp only;omega⟩
section
variable {b:List Int} (hb:Bytes b) (hl:b.length<=1048576)
include hb hl
theorem Ok.good {k:Int}{r:gL6Rd}(hr:Rd b k r)(hk:k<=400000):Ok (qP r) (fun q=>Rd b (k+81000) q.2/\kH true q.1):=by
 unfold qP
 refine Ok.bind (Ok.pick hb hl hr (by decide) (by omega)) fun q1 h1=>?_
 refine Ok.ite (fun _=>?_) fun _=>?_
 .exact Ok.bind (Ok.random hb hl h1.1 (by omega)) fun q h=>Ok.pure ⟨h.1.le (by omega),h.2⟩
 refine Ok.bind (Ok.stmts (Z:=true) hb hl h1.1 (by omega) (p:=2) (by decide)) fun q3 h3=>?_
 obtain⟨v,hv,hv2⟩:=h3.2.2.2
 refine Ok.bind (Ok.compile h3.2.2.1 h3.2.1 hv hv2) fun r4 h4=>?_
 refine Ok.ite (fun _=>?_) fun hlen=>?_
 .exact Ok.bind (Ok.random hb hl h3.1 (by omega)) fun q h=>Ok.pure ⟨h.1.le (by omega),h.2⟩
 rw[jJ,zF] at hlen
 refine Ok.bind (Ok.pick hb hl h3.1 (by decide) (by omega)) fun q6 h6=>?_
 rw[quox_eq _ _ (by omega) (by omega) (by omega),bS']
 have hc:kH true r4.1:=⟨⟨h4.2.1,by omega⟩,h4.2.2.2.1,h4.2.2.2.2⟩
 refine Ok.bind (Ok.optimize hc (by omega)) fun r8 h8=>Ok.pure ⟨h6.1.le (by omega),h8.2⟩
end
end Go.Abs
