/- Facts end; folded codes are valid. -/
import Derived.Test.YtolmjhgondilhaaGreatNOpV
set_option linter.unusedSimpArgs false
set_option linter.unusedVariables false
set_option maxHeartbeats 4000000
namespace Go.Abs
open Go

variable {Z:Bool}

def FK (f:gFact):Prop:=(f.Kind=0/\f.N=0)\/(f.Kind=1/\Wd f.N)\/(f.Kind=2/\f.N=0)
def hgt (f:gFact):Nat:=if f.Kind=0 then 2 else if f.Kind=1 then 1 else 0
def joinF (a b:gFact):gFact:=if a.Kind=0 then b else if b.Kind=0\/a=b then a else⟨2,0⟩
theorem join_val (a b:gFact):oT a b=some (joinF a b):=by
 unfold oT joinF
 by_cases h:a.Kind=0
 .rw[if_pos ((zP _ _).2 h),if_pos h]
 rw[if_neg (by rw[zP];exact h),if_neg h]
 simp only[if_or,bS']
 by_cases h2:b.Kind=0\/a=b
 .rw[if_pos (by rw[Bool.or_eq_true,zP];rcases h2 with h2|h2;exact .inl h2;exact .inr (decide_eq_true h2)),if_pos h2]
 .rw[if_neg (by rw[Bool.or_eq_true,zP];intro h3;rcases h3 with h3|h3;exact h2 (.inl h3);exact h2 (.inr (of_decide_eq_true h3))),if_neg h2]
theorem join_ok {a b:gFact}(ha:FK a)(hb:FK b):FK (joinF a b)/\(joinF a b≠a->hgt (joinF a b)<hgt a):=by
 obtain⟨ak,an⟩:=a
 obtain⟨bk,bn⟩:=b
 unfold joinF
 dsimp only
 split
 .rename_i h
  refine⟨hb,fun hne=>?_⟩
  unfold hgt FK at*
  dsimp only at*
  rcases ha with⟨a1,a2⟩|⟨a1,a2⟩|⟨a1,a2⟩
  .rcases hb with⟨b1,b2⟩|⟨b1,b2⟩|⟨b1,b2⟩
   .exact absurd (by rw[a1,a2,b1,b2]) hne
   .rw[if_neg (by omega),if_pos b1,if_pos a1];omega
   .rw[if_neg (by omega),if_neg (by omega),if_pos a1];omega
  .omega
  .omega
 .split
  .exact⟨ha,fun h=>absurd rfl h⟩
  .rename_i h1 h2
   refine⟨.inr (.inr ⟨rfl,rfl⟩),fun hne=>?_⟩
   rcases ha with⟨a1,a2⟩|⟨a1,a2⟩|⟨a1,a2⟩
   .exact absurd a1 h1
   .unfold hgt;dsimp only at*;rw[if_neg (by omega),if_neg (by omega),if_neg (by omega),if_pos a1];omega
   .dsimp only at*;exact absurd (by rw[a1,a2]) hne
def FR (row:List gFact):Prop:=row.length=12/\∀f∈row,FK f
def FM (n:Nat)(all:List (List gFact)):Prop:=all.length=n/\∀row∈all,FR row
theorem FR.set {row:List gFact}(h:FR row){f:gFact}(hf:FK f)(k:Nat):FR (row.set k f):=by
 refine⟨by simp[h.1],fun g hg=>?_⟩
 rcases List.mem_or_eq_of_mem_set hg with hg|rfl
 .exact h.2 g hg
 .exact hf
theorem FM.set {n:Nat}{all:List (List gFact)}(h:FM n all){row:List gFact}(hr:FR row)(k:Nat):FM n (all.set k row):=by
 refine⟨by simp[h.1],fun g hg=>?_⟩
 rcases List.mem_or_eq_of_mem_set hg with hg|rfl
 .exact h.2 g hg
 .exact hr
def wR (row:List gFact):Nat:=wsum hgt row
theorem set_same' {O:Type}{l:List O}{k:Nat}{x:O}(h:l[k]? =some x):l.set k x=l:=by
 obtain⟨hk,e⟩:=List.getElem?_eq_some_iff.1 h
 rw[<- e];exact List.set_getElem_self hk
theorem Ok.carry {n:Nat}{all:List (List gFact)}(h:FM n all){x:Int}(hx:0<=x/\x<n){facts:List gFact}(hf:FR facts):
  Ok (qW all x facts) (fun e=>FM n e.2/\wsum wR e.2<=wsum wR all/\(e.1=true->wsum wR e.2<wsum wR all)):=by
 unfold qW
 refine Ok.bind (P:=fun e=>FM n e.2/\wsum wR e.2<=wsum wR all/\(e.1=true->wsum wR e.2<wsum wR all)) ?_ fun e he=>Ok.pure he
 refine Ok.loop (fun s=>∃r:Nat,s.2.1=(r:Int)/\r<=12/\FM n s.2.2/\wsum wR s.2.2<=wsum wR all/\(s.1=true->wsum wR s.2.2<wsum wR all)) (fun s=>12-s.2.1.toNat) _ ⟨0,rfl,by omega,h,Nat.le_refl _,by simp⟩ ?_
 rintro⟨fr,r',cur⟩ ⟨r,h1,h2,h3,h4,h5⟩
 simp only at h1 h3 h4 h5
 subst h1
 unfold nK
 dsimp only
 rw[iadd1 (by omega)]
 have hlc:=h3.1
 refine Ok.ite (fun hi=>?_) fun hi=>Ok.pure ⟨h3,h4,h5⟩
 rw[zD] at hi
 refine Ok.bind (Ok.idx' (by omega)) fun row hrow=>?_
 have hR:=h3.2 row (List.mem_of_getElem? hrow)
 refine Ok.bind (Ok.idx (by have:=hf.1;omega)) fun v7 hv7=>?_
 refine Ok.bind (Ok.idx' (by have:=hR.1;omega)) fun v8 hv8=>?_
 have hK:=join_ok (hR.2 v8 (List.mem_of_getElem? hv8)) (hf.2 v7 hv7)
 rw[join_val,bS']
 refine Ok.ite (fun hb=>?_) fun hb=>?_
 .have hne:joinF v8 v7≠v8:=by simpa [bnot,eqD] using hb
  refine Ok.bind (Ok.set (by have:=hR.1;omega)) fun l10 h10=>?_
  refine Ok.bind (Ok.set (by omega)) fun l11 h11=>Ok.pure ⟨⟨r+1,rfl,by omega,?_,?_⟩,by simp only;omega⟩
  .simp only;rw[h11,h10];exact h3.set (hR.set hK.1 _) _
  .simp only
   have e1:=fF hgt (y:=joinF v8 v7) row (r:Int).toNat hv8
   have e2:=fF wR (y:=l10) cur x.toNat hrow
   have e3:=hK.2 hne
   rw[<- h10] at e1
   rw[<- h11] at e2
   unfold wR at e2 h4 ⊢
   omega
 .refine Ok.bind (Ok.set (by omega)) fun l12 h12=>Ok.pure ⟨⟨r+1,rfl,by omega,?_⟩,by simp only;omega⟩
  rw[set_same' hrow] at h12
  subst h12
  exact⟨h3,h4,h5⟩
theorem QV.regs {q:gQuad}{m:Int}(h:QV Z q m):(q.Op=2\/q.Op=3\/q.Op=5\/q.Op=6\/q.Op=9->Rg q.A)/\(q.Op=3->Rg q.B/\1<=q.N/\q.N<=12)/\(q.Op=1\/q.Op=2\/q.Op=3\/q.Op=7->Rg q.Dst)/\(q.Op=1->Wd q.N)/\(q.Op=4\/q.Op=5->0<=q.N/\q.N<m)/\1<=q.Op/\q.Op<=10:=by
 rcases h with h|h|h|h|h|h|h|h|h|h
 .exact⟨by omega,by omega,fun _=>h.2.1,fun _=>h.2.2.2.2,by omega,by omega⟩
 .exact⟨fun _=>h.2.2.1,by omega,fun _=>h.2.1,by omega,by omega,by omega⟩
 .exact⟨fun _=>h.2.2.1,fun _=>⟨h.2.2.2.1,h.2.2.2.2⟩,fun _=>h.2.1,by omega,by omega,by omega⟩
 .exact⟨by omega,by omega,by omega,by omega,fun _=>h.2.2.2.2,by omega⟩
 .exact⟨fun _=>h.2.2.1,by omega,by omega,by omega,fun _=>h.2.2.2.2,by omega⟩
 .exact⟨fun _=>h.2.2.1,by omega,by omega,by omega,by omega,by omega⟩
 .exact⟨by omega,by omega,fun _=>h.2.1,by omega,by omega,by omega⟩
 .exact⟨by omega,by omega,by omega,by omega,by omega,by omega⟩
 .exact⟨fun _=>h.2.2.1,by omega,by omega,by omega,by omega,by omega⟩
 .exact⟨by omega,by omega,by omega,by omega,by omega,by omega⟩
theorem Ok.fidx {row:List gFact}(h:FR row){a:Int}(ha:Rg a):Ok (Go.Abs.idx row a) FK:=by
 have:=h.1
 unfold Rg at ha
 exact(Ok.idx (by omega)).mono fun v hv=>h.2 v hv
theorem Ok.fset {row:List gFact}(h:FR row){a:Int}(ha:Rg a){f:gFact}(hf:FK f):Ok (setx row a f) FR:=by
 have:=h.1
 unfold Rg at ha
 exact(Ok.set (by omega)).mono fun v hv=>by rw[hv];exact h.set hf _
theorem Ok.result {q:gQuad}(hq:1<=q.N/\q.N<=12){a b:gFact}(ha:FK a)(hb:FK b):Ok (xK q a b) FK:=by
 unfold xK
 simp only[if_or,bS']
 refine Ok.ite (fun _=>Ok.pure (.inr (.inr ⟨rfl,rfl⟩))) fun h=>?_
 rw[Bool.or_eq_true,wS,wS] at h
 have wa:Wd a.N:=by rcases ha with h|h|h;omega;exact h.2;omega
 have wb:Wd b.N:=by rcases hb with h|h|h;omega;exact h.2;omega
 exact Ok.bind (Ok.apply hq wa wb) fun r hr=>Ok.pure (.inr (.inl ⟨rfl,hr.2⟩))
theorem l33After_o_eq:vS=dN:=rfl
theorem l33Edges_o_eq:vR=dM:=rfl
theorem Ok.factsAfter {q:gQuad}{m:Int}(hq:QV Z q m){row:List gFact}(h:FR row):Ok (dN q row) FR:=by
 unfold dN
 have e0:appx 16 ([]:List gFact) row=some row:=by
  rw[kS 16 [] _ (by rw[h.1];simp;unfold maxLen;omega)];rfl
 obtain⟨q1,q2,q3,q4,q5,q6⟩:=hq.regs
 rw[e0,bS']
 refine Ok.ite (fun ho=>?_) fun _=>?_
 .rw[zP] at ho
  refine Ok.bind (Ok.fidx h (q3 (by omega))) fun v _=>Ok.bind (Ok.fset h (q3 (by omega)) (.inr (.inl ⟨rfl,q4 ho⟩))) fun l hl=>Ok.pure hl
 refine Ok.ite (fun ho=>?_) fun _=>?_
 .rw[zP] at ho
  refine Ok.bind (Ok.fidx h (q1 (by omega))) fun u hu=>Ok.bind (Ok.fidx h (q3 (by omega))) fun v _=>Ok.bind (Ok.fset h (q3 (by omega)) hu) fun l hl=>Ok.pure hl
 refine Ok.ite (fun ho=>?_) fun _=>?_
 .rw[zP] at ho
  refine Ok.bind (Ok.fidx h (q3 (by omega))) fun v _=>Ok.bind (Ok.fset h (q3 (by omega)) (.inr (.inr ⟨rfl,rfl⟩))) fun l hl=>Ok.pure hl
 refine Ok.ite (fun ho=>?_) fun _=>Ok.pure h
 rw[zP] at ho
 refine Ok.bind (Ok.fidx h (q1 (by omega))) fun u hu=>Ok.bind (Ok.fidx h (q2 (by omega)).1) fun w hw=>Ok.bind (Ok.result (q2 ho).2 hu hw) fun x hx=>Ok.bind (Ok.fidx h (q3 (by omega))) fun v _=>Ok.bind (Ok.fset h (q3 (by omega)) hx) fun l hl=>Ok.pure hl
theorem Ok.edges {l:List gQuad}(hc:kH Z l){k:Nat}(hk:k<l.length){row:List gFact}(h:FR row):Ok (dM l row (k:Int)) (fun e=>e.length<=2/\∀x∈e,0<=x/\x<l.length):=by
 unfold dM
 have hl:=hc.1
 have hv:=hc.2.1 _ (List.getElem_mem hk)
 have hlast:=mO hc hk
 obtain⟨q1,q2,q3,q4,q5,q6⟩:=hv.regs
 rw[zV (List.getElem?_eq_getElem hk),bS',iadd1 (by omega)]
 refine Ok.bind (P:=fun g=>g=false->l[k].Op=5) ?_ fun g hg=>?_
 .refine Ok.ite (fun _=>Ok.pure (by simp)) fun ho=>?_
  have ho5:l[k].Op=5:=by rw[wS] at ho;exact Classical.not_not.1 ho
  exact Ok.bind (Ok.fidx h (q1 (by omega))) fun v _=>Ok.pure fun _=>ho5
 refine Ok.ite (fun _=>?_) fun hgf=>?_
 .rw[next_val hk (by omega)]
  exact Ok.pure (nxt_in hc hk)
 .have ho:=hg (by simpa using hgf)
  refine Ok.bind (Ok.fidx h (q1 (by omega))) fun v _=>?_
  refine Ok.ite (fun _=>Ok.pure ⟨by simp,fun x hx=>?_⟩) fun _=>Ok.pure ⟨by simp,fun x hx=>?_⟩
  .simp at hx;subst hx;exact q5 (.inr ho)
  .simp at hx;subst hx
   have:k+1≠l.length:=fun e=>by have:=hlast e;omega
   omega
theorem Ok.roundF {l:List gQuad}(hc:kH Z l){all:List (List gFact)}(h:FM l.length all):
  Ok (qV l all) (fun e=>FM l.length e.2/\(e.1=true->wsum wR e.2<wsum wR all)):=by
 unfold qV
 have hl:=hc.1
 refine Ok.bind (P:=fun e=>FM l.length e.2/\(e.1=true->wsum wR e.2<wsum wR all)) ?_ fun e he=>Ok.pure he
 refine Ok.loop (fun s=>∃k:Nat,s.2.1=(k:Int)/\k<=l.length/\FM l.length s.2.2/\wsum wR s.2.2<=wsum wR all/\(s.1=true->wsum wR s.2.2<wsum wR all)) (fun s=>l.length-s.2.1.toNat) _ ⟨0,rfl,by omega,h,Nat.le_refl _,by simp⟩ ?_
 rintro⟨fr,k',cur⟩ ⟨k,h1,h2,h3,h4,h5⟩
 simp only at h1 h3 h4 h5
 subst h1
 unfold nI
 dsimp only
 rw[iadd1 (by omega)]
 refine Ok.ite (fun hi=>?_) fun hi=>Ok.pure ⟨h3,h5⟩
 rw[zD,zF] at hi
 have hk:k<l.length:=by omega
 have hlc:=h3.1
 have hkc:k<cur.length:=by omega
 have hg:=List.getElem?_eq_getElem hkc
 have hR:=h3.2 _ (List.getElem_mem hkc)
 generalize cur[k]=row at hg hR
 have hset:setx cur (k:Int) row=some cur:=by
  rw[setx_iff];exact⟨by omega,(set_same' (k:=(k:Int).toNat) hg).symm⟩
 rw[zV hg,bS']
 refine Ok.bind (Ok.fidx hR (a:=0) (by decide)) fun v7 _=>?_
 refine Ok.ite (fun _=>?_) fun _=>?_
 .rw[hset]
  exact Ok.pure ⟨⟨k+1,rfl,by omega,h3,h4,h5⟩,by simp only;omega⟩
 rw[hset,bS',zV hg,bS',l33Edges_o_eq]
 refine Ok.bind (Ok.edges hc hk hR) fun ed hed=>?_
 rw[hset,bS',zV hg,bS',zV (List.getElem?_eq_getElem hk),bS',l33After_o_eq]
 refine Ok.bind (Ok.factsAfter (hc.2.1 _ (List.getElem_mem hk)) hR) fun af haf=>?_
 rw[hset,bS']
 refine Ok.bind (P:=fun e=>FM l.length e.2/\wsum wR e.2<=wsum wR all/\(e.1=true->wsum wR e.2<wsum wR all)) ?_ fun e he=>?_
 .refine Ok.loop (fun s=>∃i:Nat,s.2.1=(i:Int)/\i<=ed.length/\FM l.length s.2.2.1/\wsum wR s.2.2.1<=wsum wR all/\(s.1=true->wsum wR s.2.2.1<wsum wR all)/\s.2.2.2=ed) (fun s=>ed.length-s.2.1.toNat) _ ⟨0,rfl,by omega,h3,h4,h5,rfl⟩ ?_
  rintro⟨fr2,i',c2,ed'⟩ ⟨i,g1,g2,g3,g4,g5,g6⟩
  simp only at g1 g3 g4 g5 g6
  subst g1 g6
  unfold nH
  dsimp only
  have:=hed.1
  rw[iadd1 (by omega)]
  refine Ok.ite (fun hi2=>?_) fun hi2=>Ok.pure ⟨g3,g4,g5⟩
  rw[zD,zF] at hi2
  refine Ok.bind (Ok.idx (by omega)) fun x hx=>?_
  refine Ok.bind (Ok.carry g3 (hed.2 x hx) haf) fun e he=>?_
  refine Ok.ite (fun hb=>?_) fun hb=>?_
  .exact Ok.pure ⟨⟨i+1,rfl,by omega,he.1,by have:=he.2.1;simp only;omega,fun _=>by have:=he.2.2 hb;simp only;omega,rfl⟩,by simp only;omega⟩
  .exact Ok.pure ⟨⟨i+1,rfl,by omega,he.1,by have:=he.2.1;simp only;omega,fun hf=>by have:=g5 hf;have:=he.2.1;simp only;omega,rfl⟩,by simp only;omega⟩
 .obtain⟨e1,e2⟩:=e
  exact Ok.pure ⟨⟨k+1,rfl,by omega,he⟩,by simp only;omega⟩
theorem Ok.facts {l:List gQuad}(hc:kH Z l):Ok (mH l) (fun all=>FM l.length all):=by
 unfold mH
 have hl:=hc.1
 rw[kM hc,bS',if_neg (by simp[bnot])]
 have hm:makex 16 12 (⟨0,0⟩:gFact)=some (List.replicate 12 ⟨0,0⟩):=rfl
 have hz:FR (List.replicate 12 (⟨0,0⟩:gFact)):=⟨by simp,fun f hf=>by rw[List.eq_of_mem_replicate hf];exact .inl ⟨rfl,rfl⟩⟩
 rw[yC (step:=vZ l) (s0:=((0:Int),([]:List (List gFact)))) l.length (fun i=>((i:Int),List.replicate i (List.replicate 12 (⟨0,0⟩:gFact)))) (List.replicate l.length (List.replicate 12 (⟨0,0⟩:gFact))) rfl (fun i hi=>?_) ?_,bS']
 .refine Ok.bind (P:=FM l.length) ?_ fun y9 h9=>?_
  .refine Ok.loop (fun s=>∃r:Nat,s.1=(r:Int)/\r<=12/\FM l.length s.2) (fun s=>12-s.1.toNat) _ ⟨0,rfl,by omega,by simp,fun row hr=>by rw[List.eq_of_mem_replicate hr];exact hz⟩ ?_
   rintro⟨r',cur⟩ ⟨r,h1,h2,h3⟩
   simp only at h1 h3
   subst h1
   unfold mG
   dsimp only
   rw[iadd1 (by omega)]
   have:=h3.1
   refine Ok.ite (fun hi=>?_) fun hi=>Ok.pure h3
   rw[zD] at hi
   refine Ok.bind (Ok.idx (by omega)) fun row hrow=>?_
   have hR:=h3.2 row hrow
   refine Ok.bind (Ok.fidx hR (by unfold Rg;omega)) fun v _=>?_
   refine Ok.bind (Ok.fset hR (by unfold Rg;omega) (.inr (.inl ⟨rfl,by decide⟩))) fun l12 h12=>?_
   refine Ok.bind (Ok.set (by omega)) fun l13 h13=>Ok.pure ⟨⟨r+1,rfl,by omega,by rw[h13];exact h3.set h12 _⟩,by simp only;omega⟩
  .refine Ok.bind (P:=FM l.length) ?_ fun y h=>Ok.pure h
   refine Ok.loop (FM l.length) (wsum wR) _ h9 fun s hs=>?_
   unfold mF
   refine Ok.bind (Ok.roundF hc hs) fun e he=>?_
   exact Ok.ite (fun hb=>Ok.pure ⟨he.1,he.2 hb⟩) fun hb=>Ok.pure he.1
 .unfold vZ
  dsimp only
  rw[if_neg (by rw[zD,zF];omega)]
 .unfold vZ
  dsimp only
  rw[if_pos (by rw[zD,zF];omega),hm,bS',kS 24 _ _ (by simp;unfold maxLen;omega),bS',iadd1 (by omega),<- List.replicate_succ']
theorem Ok.has (l:List Int)(x:Int)(h:l.length<=1000):Ok (hU l x) (fun _=>True):=by
 unfold hU
 refine Ok.bind (P:=fun _=>True) ?_ fun e _=>by cases e<;>exact Ok.pure trivial
 refine Ok.loop (fun s=>∃k:Nat,s=(k:Int)/\k<=l.length) (fun s=>l.length-s.toNat) _ ⟨0,rfl,by omega⟩ ?_
 rintro _ ⟨k,rfl,hk⟩
 unfold gT
 dsimp only
 rw[iadd1 (by omega)]
 refine Ok.ite (fun hi=>?_) fun _=>Ok.pure trivial
 rw[zD,zF] at hi
 refine Ok.bind (Ok.idx (by omega)) fun v _=>Ok.ite (fun _=>Ok.pure trivial) fun _=>Ok.pure ⟨⟨k+1,rfl,by omega⟩,by omega⟩
theorem is_val (f:gFact)(n:Int):nJ f n=some (ieq f.Kind 1&&ieq f.N n):=by
 unfold nJ;rw[jK,bS']
theorem Ok.foldBin {q:gQuad}{m:Int}(hq:QV Z q m)(ho:q.Op=3){a b:gFact}(ha:FK a)(hb:FK b):Ok (fN q a b) (fun r=>QV Z r m):=by
 unfold fN nL
 obtain⟨q1,q2,q3,q4,q5,q6⟩:=hq.regs
 refine Ok.bind (Ok.result (q2 ho).2 ha hb) fun r1 h1=>?_
 have cA:QV Z ⟨2,q.Dst,q.A,0,0⟩ m:=.inr (.inl ⟨rfl,q3 (by omega),q1 (by omega),rfl,rfl⟩)
 have cB:QV Z ⟨2,q.Dst,q.B,0,0⟩ m:=.inr (.inl ⟨rfl,q3 (by omega),(q2 ho).1,rfl,rfl⟩)
 refine Ok.ite (fun hk=>?_) fun _=>?_
 .rw[zP] at hk
  refine Ok.pure (.inl ⟨rfl,q3 (by omega),rfl,rfl,?_⟩)
  rcases h1 with h|h|h
  .omega
  .exact h.2
  .omega
 simp only[is_val,bS',yF]
 have g:∀(c:Bool) (l:List Int) (x:Int),l.length<=1000->Ok (if c=true then hU l x else some false) (fun _=>True):=fun c l x h=>Ok.ite (fun _=>Ok.has l x h) fun _=>Ok.pure trivial
 refine Ok.bind (g _ _ _ (by simp)) fun g4 _=>Ok.ite (fun _=>Ok.pure cA) fun _=>?_
 refine Ok.bind (g _ _ _ (by simp)) fun g7 _=>Ok.ite (fun _=>Ok.pure cA) fun _=>?_
 refine Ok.bind (g _ _ _ (by simp)) fun g10 _=>Ok.ite (fun _=>Ok.pure cB) fun _=>?_
 refine Ok.bind (P:=fun _=>True) (Ok.ite (fun _=>Ok.pure trivial) fun _=>Ok.pure trivial) fun g12 _=>Ok.ite (fun _=>Ok.pure cB) fun _=>?_
 refine Ok.bind (P:=fun _=>True) (Ok.ite (fun _=>Ok.pure trivial) fun _=>Ok.pure trivial) fun g13 _=>?_
 refine Ok.bind (g _ _ _ (by simp)) fun g15 _=>Ok.ite (fun _=>Ok.pure (.inl ⟨rfl,q3 (by omega),rfl,rfl,by unfold Wd;dsimp only;omega⟩)) fun _=>Ok.pure hq
theorem Ok.foldQ {l:List gQuad}(hc:kH Z l){k:Nat}(hk:k<l.length){row:List gFact}(h:FR row):Ok (oU l[k] row (k:Int)) (fun q=>QV Z q l.length/\(k+1=l.length->q.Op=10\/q.Op=4)):=by
 unfold oU
 have hl:=hc.1
 have hq:=hc.2.1 _ (List.getElem_mem hk)
 have hlast:=mO hc hk
 obtain⟨q1,q2,q3,q4,q5,q6⟩:=hq.regs
 rw[iadd1 (by omega)]
 refine Ok.bind (Ok.fidx h (a:=0) (by decide)) fun v1 _=>?_
 refine Ok.ite (fun _=>Ok.pure ⟨hq,hlast⟩) fun _=>?_
 refine Ok.ite (fun ho=>?_) fun _=>?_
 .rw[zP] at ho
  refine Ok.bind (Ok.fidx h (q1 (by omega))) fun v2 h2=>Ok.ite (fun hk1=>?_) fun _=>Ok.pure ⟨hq,hlast⟩
  rw[zP] at hk1
  refine Ok.pure ⟨.inl ⟨rfl,q3 (by omega),rfl,rfl,?_⟩,fun e=>by have:=hlast e;omega⟩
  rcases h2 with h|h|h
  .omega
  .exact h.2
  .omega
 refine Ok.ite (fun ho=>?_) fun _=>?_
 .rw[zP] at ho
  refine Ok.bind (Ok.fidx h (q1 (by omega))) fun v3 h3=>Ok.bind (Ok.fidx h (q2 (by omega)).1) fun v4 h4=>?_
  exact Ok.bind (Ok.foldBin hq ho h3 h4) fun r hr=>Ok.pure ⟨hr,fun e=>by have:=hlast e;omega⟩
 refine Ok.ite (fun ho=>?_) fun _=>Ok.pure ⟨hq,hlast⟩
 rw[zP] at ho
 refine Ok.bind (Ok.fidx h (q1 (by omega))) fun v6 h6=>?_
 rw[is_val,bS']
 refine Ok.ite (fun _=>Ok.pure ⟨.inr (.inr (.inr (.inl ⟨rfl,rfl,rfl,rfl,q5 (.inr ho)⟩))),fun _=>.inr rfl⟩) fun _=>?_
 refine Ok.ite (fun _=>Ok.pure ⟨.inr (.inr (.inr (.inl ⟨rfl,rfl,rfl,rfl,?_⟩))),fun _=>.inr rfl⟩) fun _=>Ok.pure ⟨hq,hlast⟩
 have:k+1≠l.length:=fun e=>by have:=hlast e;omega
 dsimp only
 omega
theorem Ok.fold {l:List gQuad}(hc:kH Z l):Ok (pI l) (fun r=>r.2=true/\kH Z r.1):=by
 unfold pI
 have hl:=hc.1
 rw[kM hc,bS',if_neg (by simp[bnot])]
 refine Ok.bind (Ok.facts hc) fun all hall=>?_
 refine Ok.bind (P:=fun o=>o.length=l.length/\∀(k:Nat) (q:gQuad),o[k]? =some q->QV Z q l.length/\(k+1=l.length->q.Op=10\/q.Op=4)) ?_ fun o ho=>Ok.pure ⟨rfl,dA hc ho.1 ho.2⟩
 have:=hall.1
 refine Ok.outs l.length _ (fun k hk o hl'=>?_) fun o hl'=>?_
 .unfold uS
  dsimp only
  rw[if_pos (by rw[zD,zF];omega),zV (List.getElem?_eq_getElem hk),bS',iadd1 (by omega)]
  refine Ok.bind (Ok.idx (by omega)) fun row hrow=>?_
  refine Ok.bind (Ok.foldQ hc hk (hall.2 row hrow)) fun q hq=>?_
  rw[app1 _ _ (by omega)]
  exact Ok.pure ⟨q,hq,rfl⟩
 .unfold uS
  dsimp only
  rw[if_neg (by rw[zD,zF];omega)]
end Go.Abs

/- Copies end; codes that read copies are valid. -/
set_option linter.unusedSimpArgs false
set_option linter.unusedVariables false
set_option maxHeartbeats 4000000
namespace Go.Abs
open Go

variable {Z:Bool}

def CR (row:List Int):Prop:=row.length=12/\∀x∈row,Rg x
def CM (n:Nat)(all:List (List Int)):Prop:=all.length=n/\∀row∈all,row=[]\/CR row
def wC0 (k:Nat):List Int->Nat
 |[]=>0
 |x::l=>(if x=(k:Int) then 0 else 1)+wC0 (k+1) l
def wC (row:List Int):Nat:=if row=[] then 13 else wC0 0 row
theorem wC0_le:∀(l:List Int) (k:Nat),wC0 k l<=l.length:=by
 intro l
 induction l with
 |nil=>intro k;simp[wC0]
 |cons x l ih=>intro k;have:=ih (k+1);simp only[wC0,List.length_cons];split<;>omega
theorem wC0_set:∀(l:List Int) (k j:Nat) (x:Int),l[j]? =some x->x≠((k+j:Nat):Int)->wC0 k (l.set j ((k+j:Nat):Int))+1=wC0 k l:=by
 intro l
 induction l with
 |nil=>intro k j x h;simp at h
 |cons a l ih=>
  intro k j x h hne
  cases j with
  |zero=>simp at h;subst h;simp only[List.set_cons_zero,wC0,Nat.add_zero] at hne ⊢;rw[if_pos trivial,if_neg hne];omega
  |succ j=>
   have:=ih (k+1) j x (by simpa using h) (by rw[show k+1+j=k+(j+1) by omega];exact hne)
   rw[show k+1+j=k+(j+1) by omega] at this
   simp only[List.set_cons_succ,wC0]
   omega
theorem CR.set {row:List Int}(h:CR row){f:Int}(hf:Rg f)(k:Nat):CR (row.set k f):=by
 refine⟨by simp[h.1],fun g hg=>?_⟩
 rcases List.mem_or_eq_of_mem_set hg with hg|rfl
 .exact h.2 g hg
 .exact hf
theorem CM.set {n:Nat}{all:List (List Int)}(h:CM n all){row:List Int}(hr:row=[]\/CR row)(k:Nat):CM n (all.set k row):=by
 refine⟨by simp[h.1],fun g hg=>?_⟩
 rcases List.mem_or_eq_of_mem_set hg with hg|rfl
 .exact h.2 g hg
 .exact hr
theorem CR.ne {row:List Int}(h:CR row):row≠[]:=fun e=>by have:=h.1;rw[e] at this;cases this
theorem CR.w {row:List Int}(h:CR row):wC row=wC0 0 row/\wC row<=12:=by
 unfold wC
 rw[if_neg h.ne]
 exact⟨rfl,by have:=wC0_le row 0;rw[h.1] at this;exact this⟩
theorem Ok.cidx {row:List Int}(h:CR row){a:Int}(ha:Rg a):Ok (Go.Abs.idx row a) Rg:=by
 have:=h.1
 unfold Rg at ha
 exact(Ok.idx (by omega)).mono fun v hv=>h.2 v hv
theorem Ok.cset {row:List Int}(h:CR row){a:Int}(ha:Rg a){f:Int}(hf:Rg f):Ok (setx row a f) CR:=by
 have:=h.1
 unfold Rg at ha
 exact(Ok.set (by omega)).mono fun v hv=>by rw[hv];exact h.set hf _
theorem app8 (l:List Int)(h:l.length<=1000):appx 8 ([]:List Int) l=some l:=by
 rw[kS 8 [] l (by simp;unfold maxLen;omega)];rfl
theorem l34After_o_eq:vQ=dL:=rfl
theorem cG:tN=s_l34Self:=rfl
theorem self_val:s_l34Self=some (F12 fun r=>(r:Int)):=by
 unfold s_l34Self
 rw[yC (step:=oR) (s0:=((0:Int),([]:List Int))) 12 (fun i=>((i:Int),(List.range i).map fun r:Nat=>(r:Int))) (F12 fun r=>(r:Int)) rfl (fun i hi=>?_) ?_,bS']
 .rfl
 .unfold oR
  dsimp only
  rw[if_pos (by rw[zD];omega),kS 8 _ _ (by simp;unfold maxLen;omega),bS',iadd1 (by omega)]
  simp[List.range_succ]
theorem self_CR:CR (F12 fun r=>(r:Int)):=by
 refine⟨mY _,fun x hx=>?_⟩
 unfold F12 at hx
 obtain⟨r,hr,rfl⟩:=List.mem_map.1 hx
 have:=List.mem_range.1 hr
 unfold Rg;omega
theorem Ok.copiesAfter {q:gQuad}{m:Int}(hq:QV Z q m)(hm:m<=600){row:List Int}(h:CR row):Ok (dL q row) CR:=by
 unfold dL
 obtain⟨q1,q2,q3,q4,q5,q6⟩:=hq.regs
 rw[app8 _ (by rw[h.1];omega),bS',cE (hq.le hm),bS']
 refine Ok.ite (fun _=>Ok.pure h) fun hs=>?_
 rw[zD] at hs
 have hr:Rg (setsQ q):=by
  rcases sets_in hq with h|h
  .omega
  .exact h
 refine Ok.bind (P:=CR) ?_ fun y5 h5=>?_
 .refine Ok.loop (fun s=>∃r:Nat,s.1=(r:Int)/\r<=12/\CR s.2) (fun s=>12-s.1.toNat) _ ⟨0,rfl,by omega,h⟩ ?_
  rintro⟨r',cur⟩ ⟨r,h1,h2,h3⟩
  simp only at h1 h3
  subst h1
  unfold fM
  dsimp only
  rw[iadd1 (by omega)]
  refine Ok.ite (fun hi=>?_) fun hi=>Ok.pure h3
  rw[zD] at hi
  refine Ok.bind (Ok.cidx h3 (by unfold Rg;omega)) fun v _=>?_
  refine Ok.ite (fun _=>?_) fun _=>Ok.pure ⟨⟨r+1,rfl,by omega,h3⟩,by simp only;omega⟩
  exact Ok.bind (Ok.cset h3 (by unfold Rg;omega) (by unfold Rg;omega)) fun l7 h7=>Ok.pure ⟨⟨r+1,rfl,by omega,h7⟩,by simp only;omega⟩
 .refine Ok.bind (Ok.cidx h5 hr) fun v _=>Ok.bind (Ok.cset h5 hr hr) fun l9 h9=>?_
  refine Ok.ite (fun ho=>?_) fun _=>Ok.pure h9
  rw[zP] at ho
  exact Ok.bind (Ok.cidx h9 hr) fun v _=>Ok.bind (Ok.cset h9 hr (q1 (by omega))) fun l11 h11=>Ok.pure h11
theorem fH {O:Type}{l:List O}{x:Int}{row:O}(hx:0<=x/\x<l.length)(h:l[x.toNat]? =some row):setx l x row=some l:=by
 rw[setx_iff];exact⟨hx,(set_same' h).symm⟩
theorem idx_some {O:Type}{l:List O}{x:Int}{row:O}(hx:0<=x)(h:l[x.toNat]? =some row):Go.Abs.idx l x=some row:=by
 rw[idx_iff];exact⟨hx,h⟩
theorem Ok.carryC {n:Nat}{all:List (List Int)}(h:CM n all){x:Int}(hx:0<=x/\x<n){cop:List Int}(hf:CR cop):
  Ok (qU all x cop) (fun e=>CM n e.2/\wsum wC e.2<=wsum wC all/\(e.1=true->wsum wC e.2<wsum wC all)/\∃row,e.2[x.toNat]? =some row/\CR row):=by
 unfold qU
 have hln:=h.1
 refine Ok.bind (Ok.idx' (by omega)) fun row hrow=>?_
 refine Ok.ite (fun he=>?_) fun he=>?_
 .rw[zP,zF] at he
  have he':row=[]:=List.eq_nil_of_length_eq_zero (by omega)
  subst he'
  rw[app8 _ (by rw[hf.1];omega),bS']
  refine Ok.bind (Ok.set (by omega)) fun l3 h3=>Ok.pure ?_
  have e:=fF wC (y:=cop) all x.toNat hrow
  have e1:=hf.w.2
  have e2:wC []=13:=rfl
  dsimp only
  rw[h3]
  have hlt:x.toNat<all.length:=by omega
  exact⟨h.set (.inr hf) _,by omega,fun _=>by omega,cop,by simp[hlt],hf⟩
 .have hR:CR row:=by
   rcases h.2 row (List.mem_of_getElem? hrow) with rfl|h
   .exact absurd rfl he
   .exact h
  rw[fH (by omega) hrow,bS']
  refine Ok.bind (P:=fun e=>CM n e.2/\wsum wC e.2<=wsum wC all/\(e.1=true->wsum wC e.2<wsum wC all)/\∃row,e.2[x.toNat]? =some row/\CR row) ?_ fun e he=>Ok.pure he
  refine Ok.loop (fun s=>∃r:Nat,s.2.1=(r:Int)/\r<=12/\CM n s.2.2/\wsum wC s.2.2<=wsum wC all/\(s.1=true->wsum wC s.2.2<wsum wC all)/\∃row,s.2.2[x.toNat]? =some row/\CR row) (fun s=>12-s.2.1.toNat) _ ⟨0,rfl,by omega,h,Nat.le_refl _,by simp,row,hrow,hR⟩ ?_
  rintro⟨fr,r',cur⟩ ⟨r,h1,h2,h3,h4,h5,row2,h6,h7⟩
  simp only at h1 h3 h4 h5 h6
  subst h1
  unfold nG
  dsimp only
  have hlc:=h3.1
  rw[iadd1 (by omega)]
  refine Ok.ite (fun hi=>?_) fun hi=>Ok.pure ⟨h3,h4,h5,row2,h6,h7⟩
  rw[zD] at hi
  rw[idx_some hx.1 h6,bS']
  refine Ok.bind (Ok.idx' (by have:=h7.1;omega)) fun v11 hv11=>?_
  refine Ok.bind (P:=fun g=>g=true->v11≠(r:Int)) ?_ fun g hg=>?_
  .refine Ok.ite (fun hn=>?_) fun _=>Ok.pure (by simp)
   rw[wS] at hn
   exact Ok.bind (Ok.cidx hf (by unfold Rg;omega)) fun v _=>Ok.pure fun _=>hn
  refine Ok.ite (fun hb=>?_) fun hb=>?_
  .have hne:=hg hb
   refine Ok.bind (Ok.set (by have:=h7.1;omega)) fun l14 h14=>?_
   refine Ok.bind (Ok.set (by omega)) fun l15 h15=>Ok.pure ⟨⟨r+1,rfl,by omega,?_⟩,by simp only;omega⟩
   have hR14:CR l14:=by rw[h14];exact h7.set (by unfold Rg;omega) _
   have e1:=wC0_set row2 0 r v11 hv11 (by rw[Nat.zero_add];exact hne)
   rw[Nat.zero_add] at e1
   have e14:l14=row2.set r (r:Int):=h14
   rw[<- e14] at e1
   have e2:=fF wC (y:=l14) cur x.toNat h6
   rw[hR14.w.1,h7.w.1,<- h15] at e2
   have hlt:x.toNat<cur.length:=by omega
   refine⟨by simp only;rw[h15];exact h3.set (.inr hR14) _,by simp only;omega,fun _=>by simp only;omega,l14,by simp only;rw[h15];simp[hlt],hR14⟩
  .rw[fH (by omega) h6,bS']
   exact Ok.pure ⟨⟨r+1,rfl,by omega,h3,h4,h5,row2,h6,h7⟩,by simp only;omega⟩
theorem Ok.roundC {l:List gQuad}(hc:kH Z l){all:List (List Int)}(h:CM l.length all):
  Ok (qT l all) (fun e=>CM l.length e.2/\(e.1=true->wsum wC e.2<wsum wC all)):=by
 unfold qT
 have hl:=hc.1
 refine Ok.bind (P:=fun e=>CM l.length e.2/\(e.1=true->wsum wC e.2<wsum wC all)) ?_ fun e he=>Ok.pure he
 refine Ok.loop (fun s=>∃k:Nat,s.2.1=(k:Int)/\k<=l.length/\CM l.length s.2.2/\wsum wC s.2.2<=wsum wC all/\(s.1=true->wsum wC s.2.2<wsum wC all)) (fun s=>l.length-s.2.1.toNat) _ ⟨0,rfl,by omega,h,Nat.le_refl _,by simp⟩ ?_
 rintro⟨fr,k',cur⟩ ⟨k,h1,h2,h3,h4,h5⟩
 simp only at h1 h3 h4 h5
 subst h1
 unfold nF
 dsimp only
 rw[iadd1 (by omega)]
 refine Ok.ite (fun hi=>?_) fun hi=>Ok.pure ⟨h3,h5⟩
 rw[zD,zF] at hi
 have hk:k<l.length:=by omega
 have hlc:=h3.1
 have hkc:k<cur.length:=by omega
 have hg:=List.getElem?_eq_getElem hkc
 have hR:=h3.2 _ (List.getElem_mem hkc)
 generalize cur[k]=row at hg hR
 have hset:setx cur (k:Int) row=some cur:=fH (by omega) hg
 rw[zV hg,bS',hset,bS',bS']
 refine Ok.ite (fun _=>Ok.pure ⟨⟨k+1,rfl,by omega,h3,h4,h5⟩,by simp only;omega⟩) fun hne=>?_
 have hR':CR row:=by
  rcases hR with rfl|h
  .exact absurd rfl hne
  .exact h
 obtain⟨n2,nin⟩:=nxt_in hc hk
 rw[next_val hk (by omega),bS',zV hg,bS',zV (List.getElem?_eq_getElem hk),bS',l34After_o_eq]
 refine Ok.bind (Ok.copiesAfter (hc.2.1 _ (List.getElem_mem hk)) (by omega) hR') fun af haf=>?_
 rw[hset,bS']
 refine Ok.bind (P:=fun e=>CM l.length e.2/\wsum wC e.2<=wsum wC all/\(e.1=true->wsum wC e.2<wsum wC all)) ?_ fun e he=>?_
 .refine Ok.loop (fun s=>∃i:Nat,s.2.1=(i:Int)/\i<=(nxt l k).length/\CM l.length s.2.2/\wsum wC s.2.2<=wsum wC all/\(s.1=true->wsum wC s.2.2<wsum wC all)) (fun s=>(nxt l k).length-s.2.1.toNat) _ ⟨0,rfl,by omega,h3,h4,h5⟩ ?_
  rintro⟨fr2,i',c2⟩ ⟨i,g1,g2,g3,g4,g5⟩
  simp only at g1 g3 g4 g5
  subst g1
  unfold nE
  dsimp only
  rw[iadd1 (by omega)]
  refine Ok.ite (fun hi2=>?_) fun hi2=>Ok.pure ⟨g3,g4,g5⟩
  rw[zD,zF] at hi2
  refine Ok.bind (Ok.idx (by omega)) fun x hx=>?_
  refine Ok.bind (Ok.carryC g3 (nin x hx) haf) fun e he=>?_
  refine Ok.ite (fun hb=>?_) fun hb=>?_
  .exact Ok.pure ⟨⟨i+1,rfl,by omega,he.1,by have:=he.2.1;simp only;omega,fun _=>by have:=he.2.2.1 hb;simp only;omega⟩,by simp only;omega⟩
  .exact Ok.pure ⟨⟨i+1,rfl,by omega,he.1,by have:=he.2.1;simp only;omega,fun hf=>by have:=g5 hf;have:=he.2.1;simp only;omega⟩,by simp only;omega⟩
 .obtain⟨e1,e2⟩:=e
  exact Ok.pure ⟨⟨k+1,rfl,by omega,he⟩,by simp only;omega⟩
theorem Ok.copies {l:List gQuad}(hc:kH Z l):Ok (pM l) (fun all=>all.length=l.length/\∀row∈all,CR row):=by
 unfold pM
 have hl:=hc.1
 rw[kM hc,bS',if_neg (by simp[bnot])]
 rw[yC (step:=wL l) (s0:=((0:Int),([]:List (List Int)))) l.length (fun i=>((i:Int),List.replicate i ([]:List Int))) (List.replicate l.length ([]:List Int)) rfl (fun i hi=>?_) ?_,bS']
 .rw[cG,self_val,bS']
  refine Ok.bind (Ok.idx (by simp;omega)) fun v7 _=>Ok.bind (Ok.set (by simp;omega)) fun l8 h8=>?_
  have h0:CM l.length (List.replicate l.length ([]:List Int)):=⟨by simp,fun row hr=>.inl (List.eq_of_mem_replicate hr)⟩
  have h8':CM l.length l8:=by rw[h8];exact h0.set (.inr self_CR) _
  refine Ok.bind (P:=CM l.length) ?_ fun y10 h10=>?_
  .refine Ok.loop (CM l.length) (wsum wC) _ h8' fun s hs=>?_
   unfold nS
   refine Ok.bind (Ok.roundC hc hs) fun e he=>?_
   exact Ok.ite (fun hb=>Ok.pure ⟨he.1,he.2 hb⟩) fun hb=>Ok.pure he.1
  .refine Ok.bind (P:=fun all=>all.length=l.length/\∀row∈all,CR row) ?_ fun y h=>Ok.pure h
   refine Ok.loop (fun s=>∃k:Nat,s.1=(k:Int)/\k<=l.length/\CM l.length s.2/\∀(j:Nat) (row:List Int),j<k->s.2[j]? =some row->CR row) (fun s=>l.length-s.1.toNat) _ ⟨0,rfl,by omega,h10,fun j row hj=>by omega⟩ ?_
   rintro⟨k',cur⟩ ⟨k,h1,h2,h3,h4⟩
   simp only at h1 h3 h4
   subst h1
   unfold nR
   dsimp only
   rw[iadd1 (by omega)]
   have hlc:=h3.1
   refine Ok.ite (fun hi=>?_) fun hi=>?_
   .rw[zD,zF] at hi
    have hkc:k<cur.length:=by omega
    have hg:=List.getElem?_eq_getElem hkc
    have hR:=h3.2 _ (List.getElem_mem hkc)
    generalize cur[k]=row at hg hR
    have hset:setx cur (k:Int) row=some cur:=fH (by omega) hg
    rw[zV hg,bS',hset,bS',bS']
    refine Ok.ite (fun _=>?_) fun hne=>?_
    .rw[cG,self_val,bS',zV hg,bS']
     refine Ok.bind (Ok.set (by omega)) fun l19 h19=>Ok.pure ⟨⟨k+1,rfl,by omega,by rw[h19];exact h3.set (.inr self_CR) _,fun j r2 hj hr=>?_⟩,by simp only;omega⟩
     simp only at hr
     rw[h19,List.getElem?_set] at hr
     split at hr
     .split at hr
      .cases hr;exact self_CR
      .cases hr
     .rename_i hjk
      have hjk':j≠k:=fun e=>hjk (by rw[e];rfl)
      exact h4 j r2 (by omega) hr
    .refine Ok.pure ⟨⟨k+1,rfl,by omega,h3,fun j r2 hj hr=>?_⟩,by simp only;omega⟩
     rcases Nat.lt_or_ge j k with hjk|hjk
     .exact h4 j r2 hjk hr
     .have:j=k:=by omega
      subst this
      simp only at hr
      rw[hg] at hr
      cases hr
      rcases hR with rfl|h
      .exact absurd rfl hne
      .exact h
   .rw[zD,zF] at hi
    have:k=l.length:=by omega
    subst this
    refine Ok.pure ⟨hlc,fun row hr=>?_⟩
    obtain⟨j,hj⟩:=List.mem_iff_getElem?.1 hr
    have:j<cur.length:=(List.getElem?_eq_some_iff.1 hj).1
    exact h4 j row (by omega) hj
 .unfold wL
  dsimp only
  rw[if_neg (by rw[zD,zF];omega)]
 .unfold wL
  dsimp only
  rw[if_pos (by rw[zD,zF];omega),kS 24 _ _ (by simp;unfold maxLen;omega),bS',iadd1 (by omega),<- List.replicate_succ']
theorem QV.read {q:gQuad}{m a b:Int}(hq:QV Z q m)(ha:Rg a)(hb:Rg b):(q.Op=2\/q.Op=5\/q.Op=6\/q.Op=9->QV Z ⟨q.Op,q.Dst,a,q.B,q.N⟩ m)/\(q.Op=3->QV Z ⟨q.Op,q.Dst,a,b,q.N⟩ m):=by
 refine⟨fun ho=>?_,fun ho=>?_⟩
 .rcases hq with h|h|h|h|h|h|h|h|h|h
  case inr.inl=>exact .inr (.inl ⟨h.1,h.2.1,ha,h.2.2.2⟩)
  case inr.inr.inr.inr.inl=>exact .inr (.inr (.inr (.inr (.inl ⟨h.1,h.2.1,ha,h.2.2.2⟩))))
  case inr.inr.inr.inr.inr.inl=>exact .inr (.inr (.inr (.inr (.inr (.inl ⟨h.1,h.2.1,ha,h.2.2.2⟩)))))
  case inr.inr.inr.inr.inr.inr.inr.inr.inl=>exact .inr (.inr (.inr (.inr (.inr (.inr (.inr (.inr (.inl ⟨h.1,h.2.1,ha,h.2.2.2⟩))))))))
  all_goals (have:=h.1;omega)
 .rcases hq with h|h|h|h|h|h|h|h|h|h
  case inr.inr.inl=>exact .inr (.inr (.inl ⟨h.1,h.2.1,ha,hb,h.2.2.2.2⟩))
  all_goals (have:=h.1;omega)
theorem Ok.copy {l:List gQuad}(hc:kH Z l):Ok (pL l) (fun r=>r.2=true/\kH Z r.1):=by
 unfold pL
 have hl:=hc.1
 rw[kM hc,bS',if_neg (by simp[bnot])]
 refine Ok.bind (Ok.copies hc) fun all hall=>?_
 refine Ok.bind (P:=fun o=>o.length=l.length/\∀(k:Nat) (q:gQuad),o[k]? =some q->QV Z q l.length/\(k+1=l.length->q.Op=10\/q.Op=4)) ?_ fun o ho=>Ok.pure ⟨rfl,dA hc ho.1 ho.2⟩
 have:=hall.1
 refine Ok.outs l.length _ (fun k hk o hl'=>?_) fun o hl'=>?_
 .unfold uU
  dsimp only
  rw[if_pos (by rw[zD,zF];omega),zV (List.getElem?_eq_getElem hk),bS',iadd1 (by omega)]
  refine Ok.bind (Ok.idx (by omega)) fun row hrow=>?_
  have hR:=hall.2 row hrow
  have hv:=hc.2.1 _ (List.getElem_mem hk)
  have hlast:=mO hc hk
  obtain⟨q1,q2,q3,q4,q5,q6⟩:=hv.regs
  refine Ok.bind (P:=fun q=>QV Z q l.length/\(k+1=l.length->q.Op=10\/q.Op=4)) ?_ fun q hq=>?_
  .unfold fL
   have hj:(if ieq l[k].Op 2=true then some (ieq l[k].Op 2) else if ieq l[k].Op 5=true then some (ieq l[k].Op 5) else if ieq l[k].Op 6=true then some (ieq l[k].Op 6) else some (ieq l[k].Op 9))=some (decide (l[k].Op=2\/l[k].Op=5\/l[k].Op=6\/l[k].Op=9)):=by
    by_cases h2:l[k].Op=2
    .simp[ieq,h2]
    by_cases h5:l[k].Op=5
    .simp[ieq,h5]
    by_cases h6:l[k].Op=6
    .simp[ieq,h6]
    .simp[ieq_d,h2,h5,h6]
   rw[hj,bS']
   refine Ok.ite (fun hb=>?_) fun _=>?_
   .have ho:=of_decide_eq_true hb
    exact Ok.bind (Ok.cidx hR (q1 (by omega))) fun v hv2=>Ok.pure ⟨(hv.read hv2 hv2).1 ho,hlast⟩
   refine Ok.ite (fun ho=>?_) fun _=>Ok.pure ⟨hv,hlast⟩
   rw[zP] at ho
   exact Ok.bind (Ok.cidx hR (q1 (by omega))) fun v hv2=>Ok.bind (Ok.cidx hR (q2 ho).1) fun v4 hv4=>Ok.pure ⟨(hv.read hv2 hv4).2 ho,hlast⟩
  .rw[app1 _ _ (by omega)]
   exact Ok.pure ⟨q,hq,rfl⟩
 .unfold uU
  dsimp only
  rw[if_neg (by rw[zD,zF];omega)]
end Go.Abs
