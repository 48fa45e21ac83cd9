/- Parts that end, and what they give; recursion by fuel. -/
import Derived.Test.YtolmjhgondilhaaGreatNCM
import Derived.Test.YtolmjhgondilhaaGreatNNum
set_option linter.unusedSimpArgs false
set_option linter.unusedVariables false
namespace Go.Abs
open Go

def Okf {O:Type}(t:Prop)(o:Option O)(P:O->Prop):Prop:=(t->o≠none)/\∀v,o=some v->P v
def Ok {O:Type}(o:Option O)(P:O->Prop):Prop:=∃v,o=some v/\P v
section
variable {t:Prop} {O β:Type}
theorem Ok.f {o:Option O}{P:O->Prop}(h:Ok o P):Okf t o P:=by
 obtain⟨v,rfl,hv⟩:=h
 exact⟨fun _=>by simp,fun u hu=>by cases hu;exact hv⟩
theorem Okf.ok {o:Option O}{P:O->Prop}(h:Okf True o P):Ok o P:=by
 cases o with
 |none=>exact absurd rfl (h.1 trivial)
 |some v=>exact⟨v,rfl,h.2 v rfl⟩
theorem Okf.bind {o:Option O}{f:O->Option β}{P:O->Prop}{Q:β->Prop}(h:Okf t o P)(k:∀v,P v->Okf t (f v) Q):Okf t (o.bind f) Q:=by
 cases o with
 |none=>exact⟨fun ht=>absurd rfl (h.1 ht),fun v hv=>by cases hv⟩
 |some v=>exact k v (h.2 v rfl)
theorem Okf.bnd {o:Option O}{f:O->Option β}{P:O->Prop}{Q:β->Prop}(h:Ok o P)(k:∀v,P v->Okf t (f v) Q):Okf t (o.bind f) Q:=Okf.bind h.f k
theorem Okf.ite {c:Prop}[Decidable c]{x y:Option O}{P:O->Prop}(a:c->Okf t x P)(b:¬c->Okf t y P):Okf t (if c then x else y) P:=by
 by_cases h:c
 .rw[if_pos h];exact a h
 .rw[if_neg h];exact b h
theorem Okf.pure {v:O}{P:O->Prop}(h:P v):Okf t (some v) P:=⟨fun _=>by simp,fun u hu=>by cases hu;exact h⟩
theorem Okf.mono {o:Option O}{P Q:O->Prop}(h:Okf t o P)(k:∀v,P v->Q v):Okf t o Q:=⟨h.1,fun v hv=>k v (h.2 v hv)⟩
theorem Okf.weak {t':Prop}{o:Option O}{P:O->Prop}(h:Okf t' o P)(k:t->t'):Okf t o P:=⟨fun ht=>h.1 (k ht),h.2⟩
theorem Okf.none {P:O->Prop}(h:¬t):Okf t (Option.none:Option O) P:=⟨fun ht=>absurd ht h,fun v hv=>by cases hv⟩
theorem Okf.loop {S E:Type}{step:S->Option (Flow S E)}(I:S->Prop)(μ:S->Nat)(D:E->Prop){s:S}(h0:I s)
  (h:∀s,I s->Okf t (step s) (fun fl=>match fl with|.next s'=>I s'/\μ s'<μ s|.done e=>D e)):Okf t (loopM step s) D:=by
 refine⟨fun ht=>?_,fun e he=>?_⟩
 .obtain⟨e,he,_⟩:=loopM_rule I μ D h0 (fun s hs=>by
   have h1:=h s hs
   cases hq:step s with
   |none=>exact absurd hq (h1.1 ht)
   |some fl=>
    have h2:=h1.2 fl hq
    cases fl with
    |next s'=>exact .inl ⟨s',hq,h2⟩
    |done e=>exact .inr ⟨e,hq,h2⟩)
  rw[he];simp
 .obtain⟨n,hn⟩:=loopM_ex he
  clear he
  induction n generalizing s with
  |zero=>simp[loopN] at hn
  |succ n ih=>
   have h1:=h s h0
   cases hq:step s with
   |none=>simp[loopN,hq] at hn
   |some fl=>
    have h2:=h1.2 fl hq
    cases fl with
    |next s'=>simp only[loopN,hq] at hn;exact ih h2.1 hn
    |done e'=>simp only[loopN,hq] at hn;cases hn;exact h2
theorem Ok.rec' {f:Nat->Option O}{P:O->Prop}(d:Nat)(h:∀m,Okf (d<=m) (f m) P):Ok (recF f) P:=by
 have hx:∃n r,f n=some r:=by
  cases hq:f d with
  |none=>exact absurd hq ((h d).1 (Nat.le_refl _))
  |some r=>exact⟨d,r,hq⟩
 unfold recF
 rw[dif_pos hx]
 obtain⟨r,hr⟩:=hx.choose_spec
 exact⟨r,hr,(h _).2 r hr⟩
end
theorem Ok.bind {O β:Type}{o:Option O}{f:O->Option β}{P:O->Prop}{Q:β->Prop}(h:Ok o P)(k:∀v,P v->Ok (f v) Q):Ok (o.bind f) Q:=by
 obtain⟨v,rfl,hv⟩:=h
 exact k v hv
theorem Ok.ite {O:Type}{c:Prop}[Decidable c]{x y:Option O}{P:O->Prop}(a:c->Ok x P)(b:¬c->Ok y P):Ok (if c then x else y) P:=by
 by_cases h:c
 .rw[if_pos h];exact a h
 .rw[if_neg h];exact b h
theorem Ok.pure {O:Type}{v:O}{P:O->Prop}(h:P v):Ok (some v) P:=⟨v,rfl,h⟩
theorem Ok.mono {O:Type}{o:Option O}{P Q:O->Prop}(h:Ok o P)(k:∀v,P v->Q v):Ok o Q:=by
 obtain⟨v,e,hv⟩:=h
 exact⟨v,e,k v hv⟩
theorem Ok.eq {O:Type}{o:Option O}{v:O}{P:O->Prop}(e:o=some v)(h:P v):Ok o P:=⟨v,e,h⟩
theorem Ok.idx {O:Type}{l:List O}{i:Int}(h:0<=i/\i<l.length):Ok (Go.Abs.idx l i) (fun v=>v∈l):=by
 obtain⟨v,e,hv⟩:=idx_ok l i h.1 h.2
 exact⟨v,e,hv⟩
theorem Ok.idx' {O:Type}{l:List O}{i:Int}(h:0<=i/\i<l.length):Ok (Go.Abs.idx l i) (fun v=>l[i.toNat]? =some v):=by
 obtain⟨v,e,hv⟩:=idx_ok l i h.1 h.2
 exact⟨v,e,(zL e).2.2⟩
theorem Ok.set {O:Type}{l:List O}{i:Int}{v:O}(h:0<=i/\i<l.length):Ok (setx l i v) (fun l'=>l'=l.set i.toNat v):=by
 have:=(setx_iff (l:=l) (i:=i) (v:=v) (m:=l.set i.toNat v)).2 ⟨⟨h.1,h.2⟩,rfl⟩
 exact⟨_,this,rfl⟩
theorem Ok.app {O:Type}{b:Nat}{l m:List O}(h:l.length+m.length<=100000000000/\b<=1000):Ok (appx b l m) (fun r=>r=l++m):=by
 refine⟨_,kV b l m ⟨by unfold maxLen;omega,?_⟩,rfl⟩
 calc (l.length+m.length)*b<=100000000000*1000:=Nat.mul_le_mul h.1 h.2
  _<=140737488355328:=by omega
theorem Ok.loop {S E:Type}{step:S->Option (Flow S E)}(I:S->Prop)(μ:S->Nat)(D:E->Prop){s:S}(h0:I s)
  (h:∀s,I s->Ok (step s) (fun fl=>match fl with|.next s'=>I s'/\μ s'<μ s|.done e=>D e)):Ok (loopM step s) D:=
 Okf.ok (Okf.loop I μ D h0 fun s hs=>(h s hs).f)
end Go.Abs
