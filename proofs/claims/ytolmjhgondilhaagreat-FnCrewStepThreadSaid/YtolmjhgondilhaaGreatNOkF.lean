/- Parts that end, and what they give; recursion by fuel. -/
import Derived.Test.YtolmjhgondilhaaGreatNCM
import Derived.Test.YtolmjhgondilhaaGreatNNum
set_option linter.unusedSimpArgs false
set_option linter.unusedVariables false
namespace Go.Abs
open Go

def Okf {O:Type}(t:Prop)(o:Option O)(P:O->Prop):Prop:=(t->o≠none)/\∀v,o=some v->P v
def Ok {O:Type}(o:Option O)(P:O->Prop):Prop:=∃v,o=some v/\P v
section
variable {t:Prop} {O β:Type}
theorem Ok.f {o:Option O}{P:O->Prop}(h:Ok o P):Okf t o P:=by
 obtain⟨v,rfl,hv⟩:=h
 exact⟨fun _=>by simp,fun u hu=>by cases hu;exact hv⟩
theorem Okf.ok {o:Option O}{P:O->Prop}(h:Okf True o P):Ok o P:=by
 cases o with
 |none=>exact absurd rfl (h.1 trivial)
 |some v=>exact⟨v,rfl,h.2 v rfl⟩
theorem Okf.bind {o:Option O}{f:O->Option β}{P:O->Prop}{Q:β->Prop}(h:Okf t o P)(k:∀v,P v->Okf t (f v) Q):Okf t (o.bind f) Q:=by
 cases o with
 |none=>exact⟨fun ht=>absurd rfl (h.1 ht),fun v hv=>by cases hv⟩
 |some v=>exact k v (h.2 v rfl)
theorem Okf.bnd {o:Option O}{f:O->Option β}{P:O->Prop}{Q:β->Prop}(h:Ok o P)(k:∀v,P v->Okf t (f v) Q):Okf t (o.bind f) Q:=Okf.bind h.f k
theorem Okf.ite {c:Prop}[Decidable c]{x y:Option O}{P:O->Prop}(a:c->Okf t x P)(b:¬c->Okf t y P):Okf t (if c then x else y) P:=by
 by_cases h:c
 .rw[if_pos h];exact a h
 .rw[if_neg h];exact b h
theorem Okf.pure {v:O}{P:O->Prop}(h:P v):Okf t (some v) P:=⟨fun _=>by simp,fun u hu=>by cases hu;exact h⟩
theorem Okf.mono {o:Option O}{P Q:O->Prop}(h:Okf t o P)(k:∀v,P v->Q v):Okf t o Q:=⟨h.1,fun v hv=>k v (h.2 v hv)⟩
theorem Okf.weak {t':Prop}{o:Option O}{P:O->Prop}(h:Okf t' o P)(k:t->t'):Okf t o P:=⟨fun ht=>h.1 (k ht),h.2⟩
theorem Okf.none {P:O->Prop}(h:¬t):Okf t (Option.none:Option O) P:=⟨fun ht=>absurd ht h,fun v hv=>by cases hv⟩
theorem Okf.loop {S E:Type}{step:S->Option (Flow S E)}(I:S->Prop)(μ:S->Nat)(D:E->Prop){s:S}(h0:I s)
  (h:∀s,I s->Okf t (step s) (fun fl=>match fl with|.next s'=>I s'/\μ s'<μ s|.done e=>D e)):Okf t (loopM step s) D:=by
 refine⟨fun ht=>?_,fun e he=>?_⟩
 .obtain⟨e,he,_⟩:=loopM_rule I μ D h0 (fun s hs=>by
   have h1:=h s hs
   cases hq:step s with
   |none=>exact absurd hq (h1.1 ht)
   |some fl=>
    have h2:=h1.2 fl hq
    cases fl with
    |next s'=>exact .inl ⟨s',hq,h2⟩
    |done e=>exact .inr ⟨e,hq,h2⟩)
  rw[he];simp
 .obtain⟨n,hn⟩:=loopM_ex he
  clear he
  induction n generalizing s with
  |zero=>simp[loopN] at hn
  |succ n ih=>
   have h1:=h s h0
   cases hq:step s with
   |none=>simp[loopN,hq] at hn
   |some fl=>
    have h2:=h1.2 fl hq
    cases fl with
    |next s'=>simp only[loopN,hq] at hn;exact ih h2.1 hn
    |done e'=>simp only[loopN,hq] at hn;cases hn;exact h2
theorem Ok.rec' {f:Nat->Option O}{P:O->Prop}(d:Nat)(h:∀m,Okf (d<=m) (f m) P):Ok (recF f) P:=by
 have hx:∃n r,f n=some r:=by
  cases hq:f d with
  |none=>exact absurd hq ((h d).1 (Nat.le_refl _))
  |some r=>exact⟨d,r,hq⟩
 unfold recF
 rw[dif_pos hx]
 obtain⟨r,hr⟩:=hx.choose_spec
 exact⟨r,hr,(h _).2 r hr⟩
end
theorem Ok.bind {O β:Type}{o:Option O}{f:O->Option β}{P:O->Prop}{Q:β->Prop}(h:Ok o P)(k:∀v,P v->Ok (f v) Q):Ok (o.bind f) Q:=by
 obtain⟨v,rfl,hv⟩:=h
 exact k v hv
theorem Ok.ite {O:Type}{c:Prop}[Decidable c]{x y:Option O}{P:O->Prop}(a:c->Ok x P)(b:¬c->Ok y P):Ok (if c then x else y) P:=by
 by_cases h:c
 .rw[if_pos h];exact a h
 .rw[if_neg h];exact b h
theorem Ok.pure {O:Type}{v:O}{P:O->Prop}(h:P v):Ok (some v) P:=⟨v,rfl,h⟩
theorem Ok.mono {O:Type}{o:Option O}{P Q:O->Prop}(h:Ok o P)(k:∀v,P v->Q v):Ok o Q:=by
 obtain⟨v,e,hv⟩:=h
 exact⟨v,e,k v hv⟩
theorem Ok.eq {O:Type}{o:Option O}{v:O}{P:O->Prop}(e:o=some v)(h:P v):Ok o P:=⟨v,e,h⟩
theorem Ok.idx {O:Type}{l:List O}{i:Int}(h:0<=i/\i<l.length):Ok (Go.Abs.idx l i) (fun v=>v∈l):=by
 obtain⟨v,e,hv⟩:=idx_ok l i h.1 h.2
 exact⟨v,e,hv⟩
theorem Ok.idx' {O:Type}{l:List O}{i:Int}(h:0<=i/\i<l.length):Ok (Go.Abs.idx l i) (fun v=>l[i.toNat]? =some v):=by
 obtain⟨v,e,hv⟩:=idx_ok l i h.1 h.2
 exact⟨v,e,(zG e).2.2⟩
theorem Ok.set {O:Type}{l:List O}{i:Int}{v:O}(h:0<=i/\i<l.length):Ok (setx l i v) (fun l'=>l'=l.set i.toNat v):=by
 have:=(setx_iff (l:=l) (i:=i) (v:=v) (m:=l.set i.toNat v)).2 ⟨⟨h.1,h.2⟩,rfl⟩
 exact⟨_,this,rfl⟩
theorem Ok.app {O:Type}{b:Nat}{l m:List O}(h:l.length+m.length<=100000000000/\b<=1000):Ok (appx b l m) (fun r=>r=l++m):=by
 refine⟨_,kS b l m ⟨by unfold maxLen;omega,?_⟩,rfl⟩
 calc (l.length+m.length)*b<=100000000000*1000:=Nat.mul_le_mul h.1 h.2
  _<=140737488355328:=by omega
theorem Ok.loop {S E:Type}{step:S->Option (Flow S E)}(I:S->Prop)(μ:S->Nat)(D:E->Prop){s:S}(h0:I s)
  (h:∀s,I s->Ok (step s) (fun fl=>match fl with|.next s'=>I s'/\μ s'<μ s|.done e=>D e)):Ok (loopM step s) D:=
 Okf.ok (Okf.loop I μ D h0 fun s hs=>(h s hs).f)
end Go.Abs

/- The reader of a code: each pick ends, and lies in its range; words, operators, quads. -/
set_option linter.unusedSimpArgs false
set_option linter.unusedVariables false
set_option maxHeartbeats 4000000
namespace Go.Abs
open Go

variable {Z:Bool}

theorem zF {O:Type}(l:List O):ilen l=(l.length:Int):=rfl
theorem jK (c:Bool)(a:Bool):(if c=true then some a else some false)=some (c&&a):=by cases c<;>rfl
theorem if_or (c:Bool)(a:Bool):(if c=true then some true else some a)=some (c||a):=by cases c<;>rfl
theorem yF {O:Type}(o:Option O):(o.bind fun x=>some x)=o:=by cases o<;>rfl

def Bytes (l:List Int):Prop:=∀x∈l,0<=x/\x<256
def Rd (b:List Int)(k:Int)(r:gL6Rd):Prop:=r.b=b/\0<=r.p/\r.p<=k

theorem pick_ok {b:List Int}(hb:Bytes b)(hl:b.length<=1048576){k:Int}(hk:k<=1000000){r:gL6Rd}(hr:Rd b k r){n:Int}(h1:1<=n)(h2:n<=1000000):
  ∃v r',zI r n=some (v,r')/\Rd b (k+1) r'/\0<=v/\v<n:=by
 obtain⟨rb,p⟩:=r
 obtain⟨h3,h4,h5⟩:=hr
 simp only at h3 h4 h5
 subst h3
 unfold zI
 dsimp only
 have e1:iadd .i64 p 1=p+1:=zS _ _ (by omega)
 have e2:isub .i64 (p+1) 1=p:=by rw[yI _ _ (by omega)];omega
 rw[e1,e2]
 rw[if_neg (by rw[zD];omega),bS']
 split
 .exact⟨_,_,rfl,⟨rfl,by simp;omega,by simp;omega⟩,by omega,by omega⟩
 rename_i h0
 have h0:0<rb.length:=by
  rcases Nat.eq_zero_or_pos rb.length with h|h
  .exact absurd (by simp[ieq,ilen,h]) h0
  .exact h
 split
 .rename_i hlt
  rw[zD] at hlt
  obtain⟨v,hv,hm⟩:=idx_ok rb p h4 hlt
  have hq:=hb v hm
  rw[hv,bS',iconv_eq v (by omega),remx_eq v n (by omega) (by omega),bS']
  exact⟨_,_,rfl,⟨rfl,by simp;omega,by simp;omega⟩,Int.emod_nonneg _ (by omega),Int.emod_lt_of_pos _ (by omega)⟩
 .have hil:(0:Int)<ilen rb:=by unfold ilen;omega
  have hil':ilen rb<=1048576:=by unfold ilen;omega
  rw[remx_eq p _ h4 hil,bS']
  obtain⟨v5,hv5,hm5⟩:=idx_ok rb (p % ilen rb) (Int.emod_nonneg _ (by omega)) (Int.emod_lt_of_pos _ hil)
  have q5:=hb v5 hm5
  rw[hv5,bS']
  rw[imul_eq p 7 (by omega),zS (p*7) 3 (by omega),remx_eq _ _ (by omega) hil,bS']
  obtain⟨v7,hv7,hm7⟩:=idx_ok rb ((p*7+3) % ilen rb) (Int.emod_nonneg _ (by omega)) (Int.emod_lt_of_pos _ hil)
  have q7:=hb v7 hm7
  rw[hv7,bS',quox_eq p _ h4 (by omega) hil,bS']
  have q8:0<=p / ilen rb:=Int.ediv_nonneg h4 (by omega)
  have q8':p / ilen rb<=p:=Int.ediv_le_self _ h4
  generalize p / ilen rb=v8 at q8 q8'
  rw[iconv_eq v5 (by omega),iconv_eq v7 (by omega),imul_eq v5 131 (by omega),imul_eq v7 1117 (by omega),zS (v5*131) (v7*1117) (by omega),imul_eq p 29 (by omega),zS (v5*131+v7*1117) (p*29) (by omega),
   imul_eq v8 53 (by omega),zS (v5*131+v7*1117+p*29) (v8*53) (by omega)]
  generalize hx:v5*131+v7*1117+p*29+v8*53=x
  have x0:0<=x:=by omega
  have x1:x<=1000000000:=by omega
  rw[quox_eq x 64 x0 (by omega) (by omega),bS']
  have x2:0<=x / 64:=by omega
  rw[ixor_eq x (x / 64) x0 (by omega) x2 (by omega),remx_eq _ n (by omega) (by omega),bS']
  exact⟨_,_,rfl,⟨rfl,by simp;omega,by simp;omega⟩,Int.emod_nonneg _ (by omega),Int.emod_lt_of_pos _ (by omega)⟩

theorem Rd.le {b:List Int}{k k':Int}{r:gL6Rd}(h:Rd b k r)(hk:k<=k'):Rd b k' r:=⟨h.1,h.2.1,Int.le_trans h.2.2 hk⟩
def Wd (x:Int):Prop:= -2147483648<=x/\x<=2147483647
instance (x:Int):Decidable (Wd x):=by unfold Wd;infer_instance
def Rg (x:Int):Prop:=0<=x/\x<=11
instance (x:Int):Decidable (Rg x):=by unfold Rg;infer_instance
def bxm (B:Bool):Int:=if B=true then 1 else 2
theorem bxm_le (B:Bool):1<=bxm B/\bxm B<=2:=by cases B<;>decide
def QV (Z:Bool)(q:gQuad)(m:Int):Prop:=
 (q.Op=1/\Rg q.Dst/\q.A=0/\q.B=0/\Wd q.N)\/(q.Op=2/\Rg q.Dst/\Rg q.A/\q.B=0/\q.N=0)\/(q.Op=3/\Rg q.Dst/\Rg q.A/\Rg q.B/\1<=q.N/\q.N<=12)\/
 (q.Op=4/\q.Dst=0/\q.A=0/\q.B=0/\0<=q.N/\q.N<m)\/(q.Op=5/\q.Dst=0/\Rg q.A/\q.B=0/\0<=q.N/\q.N<m)\/(q.Op=6/\q.Dst=0/\Rg q.A/\q.B=0/\0<=q.N/\q.N<=bxm Z)\/
 (q.Op=7/\Rg q.Dst/\q.A=0/\q.B=0/\0<=q.N/\q.N<=bxm Z)\/(q.Op=8/\q.Dst=0/\q.A=0/\q.B=0/\q.N=0)\/(q.Op=9/\q.Dst=0/\Rg q.A/\q.B=0/\q.N=0)\/(q.Op=10/\q.Dst=0/\q.A=0/\q.B=0/\q.N=0)
instance (Z:Bool) (q:gQuad) (m:Int):Decidable (QV Z q m):=by unfold QV;infer_instance
theorem QV.le {q:gQuad}{m m':Int}(h:QV Z q m)(hm:m<=m'):QV Z q m':=by
 rcases h with h|h|h|h|h|h|h|h|h|h
 .exact .inl h
 .exact .inr (.inl h)
 .exact .inr (.inr (.inl h))
 .exact .inr (.inr (.inr (.inl ⟨h.1,h.2.1,h.2.2.1,h.2.2.2.1,h.2.2.2.2.1,by omega⟩)))
 .exact .inr (.inr (.inr (.inr (.inl ⟨h.1,h.2.1,h.2.2.1,h.2.2.2.1,h.2.2.2.2.1,by omega⟩))))
 .exact .inr (.inr (.inr (.inr (.inr (.inl h)))))
 .exact .inr (.inr (.inr (.inr (.inr (.inr (.inl h))))))
 .exact .inr (.inr (.inr (.inr (.inr (.inr (.inr (.inl h)))))))
 .exact .inr (.inr (.inr (.inr (.inr (.inr (.inr (.inr (.inl h))))))))
 .exact .inr (.inr (.inr (.inr (.inr (.inr (.inr (.inr (.inr h))))))))

theorem QV.any {q:gQuad}{m:Int}(h:QV Z q m):QV false q m:=by
 have hb:=(bxm_le Z).2
 rcases h with h|h|h|h|h|h|h|h|h|h
 .exact .inl h
 .exact .inr (.inl h)
 .exact .inr (.inr (.inl h))
 .exact .inr (.inr (.inr (.inl h)))
 .exact .inr (.inr (.inr (.inr (.inl h))))
 .exact .inr (.inr (.inr (.inr (.inr (.inl ⟨h.1,h.2.1,h.2.2.1,h.2.2.2.1,h.2.2.2.2.1,Int.le_trans h.2.2.2.2.2 hb⟩)))))
 .exact .inr (.inr (.inr (.inr (.inr (.inr (.inl ⟨h.1,h.2.1,h.2.2.1,h.2.2.2.1,h.2.2.2.2.1,Int.le_trans h.2.2.2.2.2 hb⟩))))))
 .exact .inr (.inr (.inr (.inr (.inr (.inr (.inr (.inl h)))))))
 .exact .inr (.inr (.inr (.inr (.inr (.inr (.inr (.inr (.inl h))))))))
 .exact .inr (.inr (.inr (.inr (.inr (.inr (.inr (.inr (.inr h))))))))

theorem Ok.wrap (n:Int)(h: -9223372036854775808<=n/\n<=9223372036854775807):Ok (sL n) Wd:=by
 have e:remx n 4294967296=some (n.tmod 4294967296):=by unfold remx;rw[if_neg (by omega)]
 have hb: -4294967296<n.tmod 4294967296/\n.tmod 4294967296<4294967296:=by
  rcases Int.le_total 0 n with h0|h0
  .rw[Int.tmod_eq_emod_of_nonneg h0];omega
  .have:=Int.neg_tmod (-n) 4294967296
   rw[Int.neg_neg,Int.tmod_eq_emod_of_nonneg (by omega:0<= -n)] at this
   omega
 unfold sL
 rw[e,bS']
 generalize n.tmod 4294967296=v at hb
 unfold Wd
 refine Ok.ite (fun h1=>Ok.pure ?_) fun h1=>Ok.ite (fun h2=>Ok.pure ?_) fun h2=>Ok.pure ?_
 .rw[jJ] at h1;rw[yI _ _ (by omega)];omega
 .rw[zD] at h2;rw[zS _ _ (by omega)];omega
 .rw[jJ] at h1;rw[zD] at h2;omega
theorem iadd_r (a b:Int): -9223372036854775808<=iadd .i64 a b/\iadd .i64 a b<=9223372036854775807:=by unfold iadd;rw[IntKind.wrap_i64];omega
theorem isub_r (a b:Int): -9223372036854775808<=isub .i64 a b/\isub .i64 a b<=9223372036854775807:=by unfold isub;rw[IntKind.wrap_i64];omega
theorem imul_r (a b:Int): -9223372036854775808<=imul .i64 a b/\imul .i64 a b<=9223372036854775807:=by unfold imul;rw[IntKind.wrap_i64];omega

section
variable {b:List Int} (hb:Bytes b) (hl:b.length<=1048576)
include hb hl
theorem Ok.pick {k:Int}{r:gL6Rd}(hr:Rd b k r){n:Int}(h1:1<=n/\n<=1000000)(hk:k<=1000000):Ok (zI r n) (fun q=>Rd b (k+1) q.2/\0<=q.1/\q.1<n):=by
 obtain⟨v,r',e,a,c⟩:=pick_ok hb hl hk hr h1.1 h1.2
 exact⟨_,e,a,c⟩
theorem Ok.word {k:Int}{r:gL6Rd}(hr:Rd b k r)(hk:k<=999990):Ok (oM r) (fun q=>Rd b (k+5) q.2/\Wd q.1):=by
 unfold oM
 refine Ok.bind (Ok.pick hb hl hr (by decide) (by omega)) fun q1 h1=>?_
 refine Ok.ite (fun _=>?_) fun _=>?_
 .refine Ok.bind (Ok.pick hb hl h1.1 (by decide) (by omega)) fun q2 h2=>?_
  refine Ok.bind (Ok.idx (by simp;omega)) fun v hv=>Ok.pure ⟨h2.1.le (by omega),?_⟩
  unfold Wd
  simp at hv
  omega
 refine Ok.ite (fun _=>?_) fun _=>?_
 .refine Ok.bind (Ok.pick hb hl h1.1 (by decide) (by omega)) fun q2 h2=>?_
  refine Ok.bind (Ok.pick hb hl h2.1 (by decide) (by omega)) fun q3 h3=>?_
  refine Ok.bind (Ok.pick hb hl h3.1 (by decide) (by omega)) fun q4 h4=>?_
  refine Ok.bind (Ok.pick hb hl h4.1 (by decide) (by omega)) fun q5 h5=>?_
  exact Ok.bind (Ok.wrap _ (imul_r _ _)) fun v hv=>Ok.pure ⟨h5.1.le (by omega),hv⟩
 refine Ok.ite (fun _=>?_) fun _=>?_
 .refine Ok.bind (Ok.pick hb hl h1.1 (by decide) (by omega)) fun q2 h2=>Ok.pure ⟨h2.1.le (by omega),?_⟩
  unfold Wd
  rw[yI _ _ (by omega)]
  omega
 .refine Ok.bind (Ok.pick hb hl h1.1 (by decide) (by omega)) fun q2 h2=>Ok.pure ⟨h2.1.le (by omega),?_⟩
  unfold Wd
  omega
theorem Ok.op {k:Int}{r:gL6Rd}(hr:Rd b k r)(hk:k<=999990):Ok (dK r) (fun q=>Rd b (k+1) q.2/\1<=q.1/\q.1<=12):=by
 unfold dK
 refine Ok.bind (Ok.pick hb hl hr (by decide) (by omega)) fun q1 h1=>Ok.pure ⟨h1.1,?_⟩
 rw[zS _ _ (by omega)]
 omega
theorem Ok.reg {k:Int}{r:gL6Rd}(hr:Rd b k r)(hk:k<=999990):Ok (jA r) (fun q=>Rd b (k+1) q.2/\Rg q.1):=by
 unfold jA
 refine Ok.bind (Ok.pick hb hl hr (by decide) (by omega)) fun q1 h1=>Ok.pure ⟨h1.1,?_⟩
 unfold Rg
 omega
theorem Ok.quad {k:Int}{r:gL6Rd}(hr:Rd b k r)(hk:k<=999900){m:Int}(hm:1<=m/\m<=1000000):Ok (oG r m) (fun q=>Rd b (k+20) q.2/\QV Z q.1 m):=by
 unfold oG
 refine Ok.bind (Ok.pick hb hl hr (by decide) (by omega)) fun q1 h1=>?_
 refine Ok.bind (P:=fun _=>True) ?_ fun j1 _=>?_
 .split<;>exact Ok.pure trivial
 refine Ok.ite (fun _=>?_) fun _=>?_
 .refine Ok.bind (Ok.reg hb hl h1.1 (by omega)) fun q2 h2=>?_
  refine Ok.bind (Ok.word hb hl h2.1 (by omega)) fun q3 h3=>?_
  refine Ok.bind (Ok.pick hb hl h3.1 (by decide) (by omega)) fun q4 h4=>?_
  refine Ok.bind (Ok.idx (by simp;omega)) fun v hv=>Ok.pure ⟨h4.1.le (by omega),?_⟩
  have hw:Wd v:=by
   simp at hv
   rcases hv with rfl|rfl|rfl|rfl
   .decide
   .decide
   .decide
   .exact h3.2
  exact .inl ⟨rfl,h2.2,rfl,rfl,hw⟩
 refine Ok.bind (P:=fun _=>True) ?_ fun j2 _=>?_
 .split<;>exact Ok.pure trivial
 refine Ok.ite (fun _=>?_) fun _=>?_
 .refine Ok.bind (Ok.reg hb hl h1.1 (by omega)) fun q2 h2=>?_
  refine Ok.bind (Ok.reg hb hl h2.1 (by omega)) fun q3 h3=>Ok.pure ⟨h3.1.le (by omega),?_⟩
  exact .inr (.inl ⟨rfl,h2.2,h3.2,rfl,rfl⟩)
 refine Ok.bind (P:=fun _=>True) ?_ fun j3 _=>?_
 .split
  .exact Ok.pure trivial
  .split<;>exact Ok.pure trivial
 refine Ok.ite (fun _=>?_) fun _=>?_
 .refine Ok.bind (Ok.reg hb hl h1.1 (by omega)) fun q2 h2=>?_
  refine Ok.bind (Ok.reg hb hl h2.1 (by omega)) fun q3 h3=>?_
  refine Ok.bind (Ok.reg hb hl h3.1 (by omega)) fun q4 h4=>?_
  refine Ok.bind (Ok.op hb hl h4.1 (by omega)) fun q5 h5=>Ok.pure ⟨h5.1.le (by omega),?_⟩
  exact .inr (.inr (.inl ⟨rfl,h2.2,h3.2,h4.2,h5.2⟩))
 refine Ok.ite (fun _=>?_) fun _=>?_
 .refine Ok.bind (Ok.pick hb hl h1.1 hm (by omega)) fun q2 h2=>Ok.pure ⟨h2.1.le (by omega),?_⟩
  exact .inr (.inr (.inr (.inl ⟨rfl,rfl,rfl,rfl,h2.2⟩)))
 refine Ok.ite (fun _=>?_) fun _=>?_
 .refine Ok.bind (Ok.reg hb hl h1.1 (by omega)) fun q2 h2=>?_
  refine Ok.bind (Ok.pick hb hl h2.1 hm (by omega)) fun q3 h3=>Ok.pure ⟨h3.1.le (by omega),?_⟩
  exact .inr (.inr (.inr (.inr (.inl ⟨rfl,rfl,h2.2,rfl,h3.2⟩))))
 refine Ok.ite (fun _=>?_) fun _=>?_
 .refine Ok.bind (Ok.reg hb hl h1.1 (by omega)) fun q2 h2=>?_
  refine Ok.bind (Ok.pick hb hl h2.1 (by decide) (by omega)) fun q3 h3=>Ok.pure ⟨h3.1.le (by omega),?_⟩
  exact .inr (.inr (.inr (.inr (.inr (.inl ⟨rfl,rfl,h2.2,rfl,by have:=bxm_le Z;simp;omega⟩)))))
 refine Ok.ite (fun _=>?_) fun _=>?_
 .refine Ok.bind (Ok.reg hb hl h1.1 (by omega)) fun q2 h2=>?_
  refine Ok.bind (Ok.pick hb hl h2.1 (by decide) (by omega)) fun q3 h3=>Ok.pure ⟨h3.1.le (by omega),?_⟩
  exact .inr (.inr (.inr (.inr (.inr (.inr (.inl ⟨rfl,h2.2,rfl,rfl,by have:=bxm_le Z;simp;omega⟩))))))
 refine Ok.bind (Ok.pick hb hl h1.1 (by decide) (by omega)) fun q2 h2=>?_
 refine Ok.ite (fun _=>?_) fun _=>?_
 .exact Ok.pure ⟨h2.1.le (by omega),.inr (.inr (.inr (.inr (.inr (.inr (.inr (.inl ⟨rfl,rfl,rfl,rfl,rfl⟩)))))))⟩
 .refine Ok.bind (Ok.reg hb hl h2.1 (by omega)) fun q3 h3=>Ok.pure ⟨h3.1.le (by omega),?_⟩
  exact .inr (.inr (.inr (.inr (.inr (.inr (.inr (.inr (.inl ⟨rfl,rfl,h3.2,rfl,rfl⟩))))))))
end
def kH (Z:Bool)(l:List gQuad):Prop:=(1<=l.length/\l.length<=600)/\(∀q∈l,QV Z q l.length)/\∀q,l[l.length-1]? =some q->q.Op=10\/q.Op=4
section
variable {b:List Int} (hb:Bytes b) (hl:b.length<=1048576)
include hb hl
theorem Ok.random {k:Int}{r:gL6Rd}(hr:Rd b k r)(hk:k<=999000):Ok (wX r) (fun q=>Rd b (k+300) q.2/\kH Z q.1):=by
 unfold wX
 refine Ok.bind (Ok.pick hb hl hr (by decide) (by omega)) fun q1 h1=>?_
 have e1:iadd .i64 1 q1.1=1+q1.1:=zS _ _ (by omega)
 refine Ok.bind (P:=fun e:gL6Rd×List gQuad=>Rd b (k+290) e.1/\e.2.length=q1.1.toNat/\∀q∈e.2,QV Z q (1+q1.1)) ?_ fun e he=>?_
 .refine Ok.loop (fun s=>∃n:Nat,s.1=(n:Int)/\(n:Int)<=q1.1/\Rd b (k+1+20*n) s.2.1/\s.2.2.length=n/\∀q∈s.2.2,QV Z q (1+q1.1)) (fun s=>(q1.1-s.1).toNat) _ ⟨0,rfl,by omega,h1.1.le (by omega),rfl,by simp⟩ ?_
  rintro⟨i,rd,l⟩ ⟨n,h2,h3,h4,h5,h6⟩
  simp only at h2 h3 h4 h5 h6
  subst h2
  unfold sQ
  dsimp only
  rw[e1,zS _ _ (by omega)]
  refine Ok.ite (fun h=>?_) fun h=>?_
  .rw[zD] at h
   refine Ok.bind (Ok.quad (Z:=Z) hb hl h4 (by omega) (m:=1+q1.1) (by omega)) fun q2 k2=>?_
   refine Ok.bind (Ok.app (by simp;omega)) fun l2 k3=>Ok.pure ⟨⟨n+1,by simp,by omega,k2.1.le (by push_cast;omega),by rw[k3];simp[h5],?_⟩,by simp only;omega⟩
   intro q hq
   rw[k3] at hq
   rcases List.mem_append.1 hq with hq|hq
   .exact h6 q hq
   .simp at hq;subst hq;exact k2.2
  .rw[zD] at h
   exact Ok.pure ⟨h4.le (by omega),by simp only;omega,h6⟩
 .obtain⟨rd,l⟩:=e
  obtain⟨h2,h3,h4⟩:=he
  simp only at h2 h3 h4 ⊢
  have fin:∀q:gQuad,QV Z q (1+q1.1)->(q.Op=10\/q.Op=4)->kH Z (l++[q]):=by
   intro q hq ho
   have hlen:(((l++[q]).length:Nat):Int)=1+q1.1:=by simp;omega
   refine⟨by simp;omega,fun x hx=>?_,fun x hx=>?_⟩
   .rw[hlen]
    rcases List.mem_append.1 hx with hx|hx
    .exact h4 x hx
    .simp at hx;subst hx;exact hq
   .simp at hx;subst hx;exact ho
  rw[e1]
  refine Ok.bind (Ok.pick hb hl h2 (by decide) (by omega)) fun q2 k2=>?_
  refine Ok.ite (fun _=>?_) fun _=>?_
  .refine Ok.bind (Ok.pick hb hl k2.1 (n:=1+q1.1) (by omega) (by omega)) fun q3 k3=>?_
   refine Ok.bind (Ok.app (by simp;omega)) fun l2 k4=>Ok.pure ⟨k3.1.le (by omega),?_⟩
   rw[k4]
   exact fin _ (.inr (.inr (.inr (.inl ⟨rfl,rfl,rfl,rfl,k3.2⟩)))) (.inr rfl)
  .refine Ok.bind (Ok.app (by simp;omega)) fun l2 k4=>Ok.pure ⟨k2.1.le (by omega),?_⟩
   rw[k4]
   exact fin _ (.inr (.inr (.inr (.inr (.inr (.inr (.inr (.inr (.inr ⟨rfl,rfl,rfl,rfl,rfl⟩))))))))) (.inl rfl)
end
theorem Ok.open {l:List Int}(hb:Bytes l)(hl:l.length<=1048576):Ok (qR l) (fun r=>∃b,Bytes b/\b.length<=1048576/\Rd b 0 r):=by
 unfold qR
 refine Ok.ite (fun h=>?_) fun _=>Ok.pure ⟨l,hb,hl,rfl,by simp,by simp⟩
 rw[jJ] at h
 unfold ilen at h
 refine Ok.bind (P:=fun b=>Bytes b/\b.length<=1048576) ⟨_,by unfold cutx;rw[if_pos (by omega)],fun x hx=>hb x (List.mem_of_mem_take (List.mem_of_mem_drop hx)),by simp;omega⟩ fun b hbb=>?_
 exact Ok.pure ⟨b,hbb.1,hbb.2,rfl,by simp,by simp⟩
end Go.Abs

/- Drawn expressions and statements are valid, and their draws end. -/
set_option linter.unusedSimpArgs false
set_option linter.unusedVariables false
set_option maxHeartbeats 4000000
namespace Go.Abs
open Go

variable {Z:Bool}

inductive EOk:Nat->gExpr->Prop
 |num {d:Nat} {n:Int} (h:0<=n/\n<=99999):EOk (d+1) ⟨0,n,[]⟩
 |var {d:Nat} {n:Int} (h:0<=n/\n<=3):EOk (d+1) ⟨13,n,[]⟩
 |bin {d:Nat} {op:Int} {x y:gExpr} (h:1<=op/\op<=12) (hx:EOk d x) (hy:EOk d y):EOk (d+1) ⟨op,0,[x,y]⟩
theorem EOk.mono {d:Nat}{e:gExpr}(h:EOk d e):∀{d':Nat},d<=d'->EOk d' e:=by
 induction h with
 |@num d n h=>intro d' hd;obtain⟨c,rfl⟩:∃c,d'=c+1:=⟨d'-1,by omega⟩;exact .num h
 |@var d n h=>intro d' hd;obtain⟨c,rfl⟩:∃c,d'=c+1:=⟨d'-1,by omega⟩;exact .var h
 |@bin d op x y h hx hy ihx ihy=>intro d' hd;obtain⟨c,rfl⟩:∃c,d'=c+1:=⟨d'-1,by omega⟩;exact .bin h (ihx (by omega)) (ihy (by omega))
inductive SOk (Z:Bool):Nat->gStmt->Prop
 |set {n:Nat} {v:Int} {e:gExpr} (hv:0<=v/\v<=3) (he:EOk 5 e):SOk Z n ⟨1,v,0,e,[],[]⟩
 |send {n:Nat} {b:Int} {e:gExpr} (hb:0<=b/\b<=bxm Z) (he:EOk 5 e):SOk Z n ⟨4,0,b,e,[],[]⟩
 |recv {n:Nat} {v b:Int} (hv:0<=v/\v<=3) (hb:0<=b/\b<=bxm Z):SOk Z n ⟨5,v,b,⟨0,0,[]⟩,[],[]⟩
 |yld {n:Nat}:SOk Z n ⟨6,0,0,⟨0,0,[]⟩,[],[]⟩
 |prt {n:Nat} {e:gExpr} (he:EOk 5 e):SOk Z n ⟨7,0,0,e,[],[]⟩
 |ife {n:Nat} {e:gExpr} {B E:List gStmt} (he:EOk 5 e) (hB:∀x∈B,SOk Z n x) (lB:B.length<=5) (hE:∀x∈E,SOk Z n x) (lE:E.length<=5):SOk Z (n+1) ⟨2,0,0,e,B,E⟩
 |whl {n:Nat} {e:gExpr} {B:List gStmt} (he:EOk 5 e) (hB:∀x∈B,SOk Z n x) (lB:B.length<=5):SOk Z (n+1) ⟨3,0,0,e,B,[]⟩

section
variable {b:List Int} (hb:Bytes b) (hl:b.length<=1048576)
include hb hl
theorem Ok.leaf {k:Int}{r:gL6Rd}(hr:Rd b k r)(hk:k<=999990)(d:Nat):Ok (oN r) (fun q=>Rd b (k+2) q.2/\EOk (d+1) q.1):=by
 unfold oN xV
 refine Ok.bind (Ok.pick hb hl hr (by decide) (by omega)) fun q1 h1=>?_
 refine Ok.ite (fun _=>?_) fun _=>?_
 .refine Ok.bind (Ok.pick hb hl h1.1 (by decide) (by omega)) fun q2 h2=>?_
  exact Ok.pure ⟨h2.1.le (by omega),.num (by omega)⟩
 refine Ok.ite (fun _=>?_) fun _=>?_
 .refine Ok.bind (Ok.pick hb hl h1.1 (by decide) (by omega)) fun q2 h2=>?_
  refine Ok.bind (Ok.idx (by simp;omega)) fun v hv=>Ok.pure ⟨h2.1.le (by omega),.num ?_⟩
  simp at hv
  omega
 .refine Ok.bind (Ok.pick hb hl h1.1 (by decide) (by omega)) fun q2 h2=>?_
  exact Ok.pure ⟨h2.1.le (by omega),.var (by omega)⟩
theorem Ok.expr {k:Int}{r:gL6Rd}{d:Nat}(hd:1<=d)(hr:Rd b k r)(hk:k+((4 ^ d:Nat):Int)<=900000):Ok (vO r d) (fun q=>Rd b (k+((4 ^ d:Nat):Int)) q.2/\EOk d q.1):=by
 refine Ok.rec' d fun m=>?_
 induction m generalizing k r d with
 |zero=>exact Okf.none (by omega)
 |succ m ih=>
  show Okf _ (tK (tJ m) r d) _
  obtain⟨c,rfl⟩:∃c,d=c+1:=⟨d-1,by omega⟩
  have hp:1<=4 ^ c:=Nat.one_le_pow _ _ (by omega)
  have hs:4 ^ (c+1)=4*4 ^ c:=by rw[Nat.pow_succ,Nat.mul_comm]
  rw[hs] at hk ⊢
  unfold tK nD
  refine Okf.bnd (P:=fun g=>Rd b (k+1) g.2/\(g.1=true\/1<=c)) ?_ fun g hg=>?_
  .refine Ok.ite (fun h=>Ok.pure ⟨hr.le (by omega),.inl rfl⟩) fun h=>?_
   rw[zD] at h
   exact Ok.bind (Ok.pick hb hl hr (by decide) (by omega)) fun q1 h1=>Ok.pure ⟨h1.1,.inr (by omega)⟩
  .refine Okf.ite (fun h=>?_) fun h=>?_
   .exact Okf.bnd (Ok.leaf hb hl hg.1 (by omega) c) fun q h2=>Okf.pure ⟨h2.1.le (by omega),h2.2⟩
   .have hc:1<=c:=by
     rcases hg.2 with h2|h2
     .exact absurd h2 h
     .exact h2
    have hc4:4<=4 ^ c:=by
     obtain⟨c',rfl⟩:∃c',c=c'+1:=⟨c-1,by omega⟩
     have:1<=4 ^ c':=Nat.one_le_pow _ _ (by omega)
     rw[Nat.pow_succ];omega
    refine Okf.bnd (Ok.op hb hl hg.1 (by omega)) fun q1 h1=>?_
    have e1:isub .i64 ((c+1:Nat):Int) 1=((c:Nat):Int):=by rw[yI _ _ (by have:c<4 ^ c:=Nat.lt_pow_self (by omega);have:=hr.2.1;have:=hr.2.2;omega)];omega
    rw[e1]
    refine Okf.bind ((ih hc h1.1 (by omega)).weak (by omega)) fun q2 h2=>?_
    refine Okf.bind ((ih hc h2.1 (by omega)).weak (by omega)) fun q3 h3=>?_
    exact Okf.pure ⟨h3.1.le (by omega),.bin h1.2 h2.2 h3.2⟩
theorem Ok.expr3 {k:Int}{r:gL6Rd}{n:Int}(hn:0<=n/\n<=2)(hr:Rd b k r)(hk:k<=800000):Ok (vO r (iadd .i64 1 n)) (fun q=>Rd b (k+64) q.2/\EOk 5 q.1):=by
 have e:iadd .i64 1 n=((n.toNat+1:Nat):Int):=by rw[zS _ _ (by omega)];omega
 rw[e]
 have hp:4 ^ (n.toNat+1)<=64:=by
  have:n.toNat=0\/n.toNat=1\/n.toNat=2:=by omega
  rcases this with h|h|h<;>rw[h]<;>decide
 refine(Ok.expr hb hl (by omega) hr (by omega)).mono fun q h=>⟨h.1.le (by omega),h.2.mono (by omega)⟩
theorem Ok.setS {k:Int}{r:gL6Rd}(hr:Rd b k r)(hk:k<=700000)(n:Nat):Ok (hO r) (fun q=>Rd b (k+66) q.2/\SOk Z n q.1):=by
 unfold hO
 refine Ok.bind (Ok.pick hb hl hr (by decide) (by omega)) fun q1 h1=>?_
 refine Ok.bind (Ok.pick hb hl h1.1 (by decide) (by omega)) fun q2 h2=>?_
 refine Ok.bind (Ok.expr3 hb hl (by omega) h2.1 (by omega)) fun q3 h3=>Ok.pure ⟨h3.1.le (by omega),.set (by omega) h3.2⟩
theorem Ok.talkS {k:Int}{r:gL6Rd}(hr:Rd b k r)(hk:k<=700000)(n:Nat){m:Int}(hm:m<=bxm Z+1):Ok (oJ r m) (fun q=>Rd b (k+70) q.2/\SOk Z n q.1):=by
 unfold oJ
 have hbx:=bxm_le Z
 refine Ok.ite (fun _=>?_) fun h=>?_
 .exact Ok.bind (Ok.setS hb hl hr (by omega) n) fun q1 h1=>Ok.pure ⟨h1.1.le (by omega),h1.2⟩
 rw[zD] at h
 refine Ok.bind (Ok.pick hb hl hr (n:=m) (by omega) (by omega)) fun q1 h1=>?_
 refine Ok.bind (Ok.pick hb hl h1.1 (by decide) (by omega)) fun q2 h2=>?_
 refine Ok.ite (fun _=>?_) fun _=>?_
 .refine Ok.bind (Ok.pick hb hl h2.1 (by decide) (by omega)) fun q3 h3=>?_
  exact Ok.bind (Ok.expr3 hb hl (by omega) h3.1 (by omega)) fun q4 h4=>Ok.pure ⟨h4.1.le (by omega),.send (by omega) h4.2⟩
 .exact Ok.bind (Ok.pick hb hl h2.1 (by decide) (by omega)) fun q3 h3=>Ok.pure ⟨h3.1.le (by omega),.recv (by omega) (by omega)⟩

end
def cS (n:Nat):Nat:=100*5 ^ n
theorem cS_succ (n:Nat):cS (n+1)=5*cS n:=by unfold cS;rw[Nat.pow_succ];omega
theorem cS_ge (n:Nat):100<=cS n:=by
 unfold cS
 have:1<=5 ^ n:=Nat.one_le_pow _ _ (by omega)
 omega
def PB (Z:Bool)(b:List Int)(n c:Nat)(k:Int)(q:List gStmt×gL6Rd):Prop:=Rd b (k+((c*cS n:Nat):Int)) q.2/\q.1.length<=2*c/\∀x∈q.1,SOk Z n x

theorem blockF {b:List Int}{t:Prop}{Fr:gL6Rd->Int->Int->Bool->Option (List gStmt×gL6Rd)}{m:Int}{n:Nat}{lp:Bool}
  (h:∀(r:gL6Rd) (k:Int),Rd b k r->k+((cS n:Nat):Int)<=600000->Okf t (Fr r m n lp) (fun q=>Rd b (k+((cS n:Nat):Int)) q.2/\q.1.length<=2/\∀x∈q.1,SOk Z n x))
  {c:Nat} (hc:c<=10) {r:gL6Rd} {k:Int} (hr:Rd b k r) (hk:k+((c*cS n:Nat):Int)<=600000):
  Okf t ((loopM (uP m n c lp Fr) (0,r,([]:List gStmt))).bind fun e1=>match e1 with|(y4,y5)=>some (y5,y4)) (PB Z b n c k):=by
 refine Okf.bind (P:=fun e=>PB Z b n c k (e.2,e.1)) ?_ fun e he=>Okf.pure he
 refine Okf.loop (fun s=>∃i:Nat,s.1=(i:Int)/\i<=c/\Rd b (k+((i*cS n:Nat):Int)) s.2.1/\s.2.2.length<=2*i/\∀x∈s.2.2,SOk Z n x) (fun s=>c-s.1.toNat) _ ⟨0,rfl,by omega,hr.le (by omega),by simp,by simp⟩ ?_
 rintro⟨i',rd,l⟩ ⟨i,h1,h2,h3,h4,h5⟩
 simp only at h1 h2 h3 h4 h5
 subst h1
 unfold uP
 dsimp only
 refine Okf.ite (fun hi=>?_) fun hi=>?_
 .rw[zD] at hi
  have hm:(i+1)*cS n<=c*cS n:=Nat.mul_le_mul_right _ (by omega)
  have hm':(i+1)*cS n=i*cS n+cS n:=Nat.succ_mul _ _
  refine Okf.bind (h rd _ h3 (by omega)) fun q hq=>?_
  refine Okf.bnd (Ok.app (by omega)) fun l2 k3=>Okf.pure ⟨⟨i+1,by rw[zS _ _ (by omega)];rfl,by omega,hq.1.le (by rw[hm'];push_cast;omega),by rw[k3];simp;omega,?_⟩,by simp only;rw[zS _ _ (by omega)];omega⟩
  intro x hx
  rw[k3] at hx
  rcases List.mem_append.1 hx with hx|hx
  .exact h5 x hx
  .exact hq.2.2 x hx
 .rw[zD] at hi
  obtain rfl:i=c:=by omega
  exact Okf.pure ⟨h3,h4,h5⟩
theorem group {b:List Int}(hb:Bytes b)(hl:b.length<=1048576){p:Int}(hp:p<=bxm Z+1):∀m:Nat,
  (∀(n c:Nat) (lp:Bool) (r:gL6Rd) (k:Int),c<=10->n<=5->Rd b k r->k+((c*cS n:Nat):Int)<=600000->Okf (3*n+3<=m) ((zC m).1 r p n c lp) (PB Z b n c k))/\
  (∀(n:Nat) (lp:Bool) (r:gL6Rd) (k:Int),n<=4->Rd b k r->k+((cS (n+1):Nat):Int)<=600001->Okf (3*n+4<=m) ((zC m).2.1 r p ((n+1:Nat):Int) lp) (fun q=>Rd b (k+((cS (n+1):Nat):Int)-1) q.2/\SOk Z (n+1) q.1))/\
  (∀(n c:Nat) (lp:Bool) (r:gL6Rd) (k:Int),c<=10->n<=5->Rd b k r->k+((c*cS n:Nat):Int)<=600000->Okf (3*n+3<=m) ((zC m).2.2.1 r p n c lp) (PB Z b n c k))/\
  (∀(n:Nat) (r:gL6Rd) (k:Int),n<=4->Rd b k r->k+((cS (n+1):Nat):Int)<=600001->Okf (3*n+4<=m) ((zC m).2.2.2.1 r p ((n+1:Nat):Int)) (fun q=>Rd b (k+((cS (n+1):Nat):Int)-1) q.2/\q.1.length<=2/\∀x∈q.1,SOk Z (n+1) x))/\
  (∀(n:Nat) (lp:Bool) (r:gL6Rd) (k:Int),n<=5->Rd b k r->k+((cS n:Nat):Int)<=600000->Okf (3*n+2<=m) ((zC m).2.2.2.2 r p n lp) (fun q=>Rd b (k+((cS n:Nat):Int)) q.2/\q.1.length<=2/\∀x∈q.1,SOk Z n x)):=by
 intro m
 induction m with
 |zero=>exact⟨fun _ _ _ _ _ _ _ _ _=>Okf.none (by omega),fun _ _ _ _ _ _ _=>Okf.none (by omega),fun _ _ _ _ _ _ _ _ _=>Okf.none (by omega),fun _ _ _ _ _ _=>Okf.none (by omega),fun _ _ _ _ _ _ _=>Okf.none (by omega)⟩
 |succ m ih=>
  obtain⟨i1,i2,i3,i4,i5⟩:=ih
  refine⟨?_,?_,?_,?_,?_⟩
  .intro n c lp r k hc hn hr hk
   show Okf _ (vN ((zC m).1) ((zC m).2.1) ((zC m).2.2.1) ((zC m).2.2.2.1) ((zC m).2.2.2.2) r p n c lp) _
   unfold vN
   exact blockF (fun r k hr hk=>(i5 n lp r k hn hr hk).weak (by omega)) hc hr hk
  .intro n lp r k hn hr hk
   show Okf _ (oK ((zC m).1) ((zC m).2.1) ((zC m).2.2.1) ((zC m).2.2.2.1) ((zC m).2.2.2.2) r p ((n+1:Nat):Int) lp) _
   unfold oK
   have h0:=hr.2.1
   have h0':=hr.2.2
   rw[cS_succ] at hk ⊢
   have hg:=cS_ge n
   have e1:isub .i64 ((n+1:Nat):Int) 1=((n:Nat):Int):=by rw[yI _ _ (by omega)];omega
   rw[e1]
   refine Okf.bnd (Ok.pick hb hl hr (by decide) (by omega)) fun q1 h1=>?_
   refine Okf.bnd (Ok.expr3 hb hl (by omega) h1.1 (by omega)) fun q2 h2=>?_
   refine Okf.bnd (Ok.pick hb hl h2.1 (by decide) (by omega)) fun q3 h3=>?_
   obtain⟨c3,ec3⟩:∃c:Nat,q3.1=(c:Int):=⟨q3.1.toNat,by omega⟩
   have hc3:c3*cS n<=2*cS n:=Nat.mul_le_mul_right _ (by omega)
   rw[ec3]
   refine Okf.bind ((i1 n c3 lp q3.2 _ (by omega) (by omega) h3.1 (by omega)).weak (by omega)) fun q4 h4=>?_
   refine Okf.bnd (Ok.pick hb hl h4.1 (by decide) (by omega)) fun q5 h5=>?_
   obtain⟨c5,ec5⟩:∃c:Nat,q5.1=(c:Int):=⟨q5.1.toNat,by omega⟩
   have hc5:c5*cS n<=2*cS n:=Nat.mul_le_mul_right _ (by omega)
   rw[ec5]
   refine Okf.bind ((i1 n c5 lp q5.2 _ (by omega) (by omega) h5.1 (by omega)).weak (by omega)) fun q6 h6=>?_
   exact Okf.pure ⟨h6.1.le (by omega),.ife h2.2 h4.2.2 (by have:=h4.2.1;omega) h6.2.2 (by have:=h6.2.1;omega)⟩
  .intro n c lp r k hc hn hr hk
   show Okf _ (jU ((zC m).1) ((zC m).2.1) ((zC m).2.2.1) ((zC m).2.2.2.1) ((zC m).2.2.2.2) r p n c lp) _
   unfold jU
   exact blockF (fun r k hr hk=>(i5 n lp r k hn hr hk).weak (by omega)) hc hr hk
  .intro n r k hn hr hk
   show Okf _ (tI ((zC m).1) ((zC m).2.1) ((zC m).2.2.1) ((zC m).2.2.2.1) ((zC m).2.2.2.2) r p ((n+1:Nat):Int)) _
   unfold tI xV nD
   have h0:=hr.2.1
   have h0':=hr.2.2
   rw[cS_succ] at hk ⊢
   have hg:=cS_ge n
   have e1:isub .i64 ((n+1:Nat):Int) 1=((n:Nat):Int):=by rw[yI _ _ (by omega)];omega
   rw[e1]
   refine Okf.bnd (Ok.pick hb hl hr (by decide) (by omega)) fun q1 h1=>?_
   obtain⟨c1,ec1⟩:∃c:Nat,q1.1=(c:Int):=⟨q1.1.toNat,by omega⟩
   have hc1:c1*cS n<=2*cS n:=Nat.mul_le_mul_right _ (by omega)
   rw[ec1]
   refine Okf.bind ((i3 n c1 false q1.2 _ (by omega) (by omega) h1.1 (by omega)).weak (by omega)) fun q2 h2=>?_
   simp only[bS']
   refine Okf.bnd (Ok.pick hb hl h2.1 (by decide) (by omega)) fun q3 h3=>?_
   have hl2:=h2.2.1
   have e2:iadd .i64 1 q3.1=1+q3.1:=zS _ _ (by omega)
   refine Okf.bnd (Ok.app (by simp;omega)) fun l2 k3=>Okf.pure ⟨h3.1.le (by omega),by simp,?_⟩
   rw[e2]
   have hd:EOk 5 ⟨13,3,[]⟩:=.var (by omega)
   intro x hx
   simp at hx
   rcases hx with rfl|rfl
   .exact .set (by omega) (.num (by omega))
   .refine .whl (.bin (by omega) (.var (by omega)) (.num (by omega))) (fun y hy=>?_) (by rw[k3];simp;omega)
    rw[k3] at hy
    rcases List.mem_append.1 hy with hy|hy
    .exact h2.2.2 y hy
    .simp at hy;subst hy;exact .set (by omega) (.bin (by omega) (.var (by omega)) (.num (by omega)))
  .intro n lp r k hn hr hk
   show Okf _ (tH ((zC m).1) ((zC m).2.1) ((zC m).2.2.1) ((zC m).2.2.2.1) ((zC m).2.2.2.2) r p n lp) _
   unfold tH
   have h0:=hr.2.1
   have h0':=hr.2.2
   have hg:=cS_ge n
   refine Okf.bind (P:=fun fl=>match fl with|.next r'=>Rd b (k+1) r'|.done q=>Rd b (k+((cS n:Nat):Int)) q.2/\q.1.length<=2/\∀x∈q.1,SOk Z n x) ?_ fun fl hfl=>?_
   .refine Okf.bnd (Ok.pick hb hl hr (by decide) (by omega)) fun q1 h1=>?_
    refine Okf.bnd (P:=fun _=>True) ?_ fun j2 _=>?_
    .split<;>exact Ok.pure trivial
    refine Okf.ite (fun _=>?_) fun _=>?_
    .exact Okf.bnd (Ok.setS hb hl h1.1 (by omega) n) fun q2 h2=>Okf.pure ⟨h2.1.le (by omega),by simp,fun x hx=>by simp at hx;subst hx;exact h2.2⟩
    refine Okf.ite (fun _=>?_) fun _=>?_
    .refine Okf.ite (fun hn0=>?_) fun _=>Okf.pure h1.1
     rw[jJ] at hn0
     obtain⟨n',rfl⟩:∃n',n=n'+1:=⟨n-1,by omega⟩
     refine Okf.bind ((i2 n' lp q1.2 _ (by omega) h1.1 (by omega)).weak (by omega)) fun q2 h2=>?_
     exact Okf.pure ⟨h2.1.le (by omega),by simp,fun x hx=>by simp at hx;subst hx;exact h2.2⟩
    refine Okf.ite (fun _=>?_) fun _=>?_
    .refine Okf.bnd (P:=fun g=>g=true->(n:Int)>0) ?_ fun g hg=>?_
     .refine Ok.ite (fun h=>Ok.pure fun _=>(jJ _ _).1 h) fun h=>Ok.pure (by simp)
     refine Okf.ite (fun h=>?_) fun _=>Okf.pure h1.1
     have hn0:=hg h
     obtain⟨n',rfl⟩:∃n',n=n'+1:=⟨n-1,by omega⟩
     refine Okf.bind ((i4 n' q1.2 _ (by omega) h1.1 (by omega)).weak (by omega)) fun q2 h2=>?_
     exact Okf.pure ⟨h2.1.le (by omega),h2.2⟩
    refine Okf.bnd (P:=fun _=>True) ?_ fun j3 _=>?_
    .split
     .exact Ok.pure trivial
     .split<;>exact Ok.pure trivial
    refine Okf.ite (fun _=>?_) fun _=>?_
    .exact Okf.bnd (Ok.talkS hb hl h1.1 (by omega) n hp) fun q2 h2=>Okf.pure ⟨h2.1.le (by omega),by simp,fun x hx=>by simp at hx;subst hx;exact h2.2⟩
    refine Okf.ite (fun _=>?_) fun _=>Okf.pure h1.1
    exact Okf.pure ⟨h1.1.le (by omega),by simp,fun x hx=>by simp at hx;subst hx;exact .yld⟩
   .cases fl with
    |done q=>exact Okf.pure hfl
    |next r'=>
     refine Okf.bnd (Ok.pick hb hl hfl (by decide) (by omega)) fun q2 h2=>?_
     exact Okf.bnd (Ok.expr3 hb hl (by omega) h2.1 (by omega)) fun q3 h3=>Okf.pure ⟨h3.1.le (by omega),by simp,fun x hx=>by simp at hx;subst hx;exact .prt h3.2⟩
end Go.Abs
