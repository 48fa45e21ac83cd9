/- The words in which the mirrors of the program's functions are written: parts that may fail, loops, lists. -/
import GoSem.ClaimData
namespace Go.Abs
open Go

inductive Flow (S E:Type) where
 |next (s:S)
 |done (e:E)

def loopN {S E:Type}(step:S->Option (Flow S E)):Nat->S->Option E
 |0,_=>none
 |n+1,s=>match step s with
  |none=>none
  |some (.next s')=>loopN step n s'
  |some (.done e)=>some e

theorem dS {S E:Type}{step:S->Option (Flow S E)}:∀{n:Nat} {s:S} {e:E},loopN step n s=some e->∀{m:Nat},n<=m->loopN step m s=some e
 |0,_,_,h,_,_=>by cases h
 |n+1,s,e,h,m,hm=>by
  obtain⟨m,rfl⟩:∃k,m=k+1:=⟨m-1,by omega⟩
  simp only[loopN] at h ⊢
  split at h
  .cases h
  .exact dS h (by omega)
  .exact h

theorem loopN_det {S E:Type}{step:S->Option (Flow S E)}{n m:Nat}{s:S}{e f:E}(h:loopN step n s=some e)(k:loopN step m s=some f):e=f:=by
 rcases Nat.le_total n m with hl|hl
 .have:=dS h hl;rw[this] at k;exact Option.some.inj k
 .have:=dS k hl;rw[this] at h;exact(Option.some.inj h).symm

open Classical in
noncomputable def loopM {S E:Type}(step:S->Option (Flow S E))(s:S):Option E:=
 if h:∃e n,loopN step n s=some e then some h.choose else none

theorem loopM_of {S E:Type}{step:S->Option (Flow S E)}{n:Nat}{s:S}{e:E}(h:loopN step n s=some e):loopM step s=some e:=by
 have hx:∃e n,loopN step n s=some e:=⟨e,n,h⟩
 unfold loopM
 rw[dif_pos hx]
 obtain⟨n',h'⟩:=hx.choose_spec
 rw[loopN_det h h']

theorem loopM_ex {S E:Type}{step:S->Option (Flow S E)}{s:S}{e:E}(h:loopM step s=some e):∃n,loopN step n s=some e:=by
 unfold loopM at h
 split at h
 .rename_i hx
  cases h
  exact hx.choose_spec
 .cases h

theorem pP {S E:Type}{step:S->Option (Flow S E)}{s s':S}(h:step s=some (.next s')):loopM step s=loopM step s':=by
 cases hq:loopM step s' with
 |some e=>
  obtain⟨n,hn⟩:=loopM_ex hq
  exact loopM_of (n:=n+1) (by simp[loopN,h,hn])
 |none=>
  cases hp:loopM step s with
  |none=>rfl
  |some e=>
   obtain⟨n,hn⟩:=loopM_ex hp
   cases n with
   |zero=>cases hn
   |succ n=>
    simp[loopN,h] at hn
    rw[loopM_of hn] at hq
    cases hq

theorem jR {S E:Type}{step:S->Option (Flow S E)}{s:S}{e:E}(h:step s=some (.done e)):loopM step s=some e:=
 loopM_of (n:=1) (by simp[loopN,h])

theorem loopM_rule {S E:Type}{step:S->Option (Flow S E)}(I:S->Prop)(μ:S->Nat)(D:E->Prop){s:S}(h0:I s)
  (h:∀s,I s->(∃s',step s=some (.next s')/\I s'/\μ s'<μ s)\/(∃e,step s=some (.done e)/\D e)):∃e,loopM step s=some e/\D e:=by
 generalize hm:μ s=m
 induction m using Nat.strongRecOn generalizing s with
 |_ m ih=>
  rcases h s h0 with⟨s',h1,h2,h3⟩|⟨e,h1,h2⟩
  .obtain⟨e,h4,h5⟩:=ih (μ s') (by omega) h2 rfl
   exact⟨e,by rw[pP h1];exact h4,h5⟩
  .exact⟨e,jR h1,h2⟩

theorem bE {O β:Type}{m:Option O}{f:O->Option β}{r:β}(H:m.bind f=some r):∃v,m=some v/\f v=some r:=by
 cases m with
 |none=>cases H
 |some v=>exact⟨v,rfl,H⟩
theorem ifT {O:Type}{e:Bool}{x y z:O}(hc:e=true)(H:(if e=true then x else y)=z):x=z:=by rw[if_pos hc] at H;exact H
theorem ifF {O:Type}{e:Bool}{x y z:O}(hc:e=false)(H:(if e=true then x else y)=z):y=z:=by rw[if_neg (by simp[hc])] at H;exact H

/-! what the operations of the program compute, each under a name of its own -/
def ieq (a b:Int):Bool:=a==b
def ine (a b:Int):Bool:=a !=b
def ilt (a b:Int):Bool:=decide (a<b)
def ile (a b:Int):Bool:=decide (a<=b)
def igt (a b:Int):Bool:=decide (a>b)
def ige (a b:Int):Bool:=decide (a>=b)
def eqD {O:Type}[DecidableEq O](a b:O):Bool:=decide (a=b)
def beqb (a b:Bool):Bool:=a==b
def bneb (a b:Bool):Bool:= !(a==b)
def bnot (a:Bool):Bool:= !a
def iadd (k:IntKind)(a b:Int):Int:=k.wrap (a+b)
def isub (k:IntKind)(a b:Int):Int:=k.wrap (a-b)
def imul (k:IntKind)(a b:Int):Int:=k.wrap (a*b)
def iand (k:IntKind)(a b:Int):Int:=k.wrap (BitVec.ofInt k.bits a&&&BitVec.ofInt k.bits b).toNat
def ior (k:IntKind)(a b:Int):Int:=k.wrap (BitVec.ofInt k.bits a|||BitVec.ofInt k.bits b).toNat
def ixor (k:IntKind)(a b:Int):Int:=k.wrap (BitVec.ofInt k.bits a ^^^ BitVec.ofInt k.bits b).toNat
def iandNot (k:IntKind)(a b:Int):Int:=k.wrap (BitVec.ofInt k.bits a&&& ~~~(BitVec.ofInt k.bits b)).toNat
def ineg (k:IntKind)(a:Int):Int:=k.wrap (0-a)
def iconv (k:IntKind)(a:Int):Int:=k.wrap a
def quox (k:IntKind)(a b:Int):Option Int:=if b=0 then none else some (k.wrap (a.tdiv b))
def remx (a b:Int):Option Int:=if b=0 then none else some (a.tmod b)
def shlx (k:IntKind)(a b:Int):Option Int:=if b<0 then none else some (k.wrap (a*2 ^ (min b.toNat k.bits)))
def shrx (k:IntKind)(a b:Int):Option Int:=if b<0 then none else some (a.fdiv (2 ^ (min b.toNat k.bits)))
def imax (a b:Int):Int:=if b>a then b else a
def imin (a b:Int):Int:=if b<a then b else a
def ilen {O:Type}(l:List O):Int:=l.length
def idx {O:Type}(l:List O)(i:Int):Option O:=if 0<=i then l[i.toNat]? else none
theorem idx_iff {O:Type}{l:List O}{i:Int}{v:O}:idx l i=some v<->0<=i/\l[i.toNat]? =some v:=by
 unfold idx
 split
 .rename_i h;exact⟨fun e=>⟨h,e⟩,fun e=>e.2⟩
 .rename_i h;exact⟨fun e=>(by cases e),fun e=>absurd e.1 h⟩
theorem idx_get {O:Type}{l:List O}{i:Int}(h0:0<=i)(h1:i<l.length):idx l i=some (l[i.toNat]'(by omega)):=by
 simp[idx,h0]
theorem zG {O:Type}{l:List O}{i:Int}{v:O}(h:idx l i=some v):0<=i/\i<l.length/\l[i.toNat]? =some v:=by
 obtain⟨h0,h1⟩:=idx_iff.1 h
 have:=(List.getElem?_eq_some_iff.1 h1).1
 exact⟨h0,by omega,h1⟩
def setx {O:Type}(l:List O)(i:Int)(v:O):Option (List O):=if 0<=i/\i<l.length then some (l.set i.toNat v) else none
theorem setx_iff {O:Type}{l m:List O}{i:Int}{v:O}:setx l i v=some m<->(0<=i/\i<l.length)/\m=l.set i.toNat v:=by
 unfold setx
 split
 .rename_i h;exact⟨fun e=>⟨h,(Option.some.inj e).symm⟩,fun e=>by rw[e.2]⟩
 .rename_i h;exact⟨fun e=>(by cases e),fun e=>absurd e.1 h⟩
def appx {O:Type}(b:Nat)(l m:List O):Option (List O):=if l.length+m.length<=maxLen/\(l.length+m.length)*b<=140737488355328 then some (l++m) else none
theorem appx_iff {O:Type}{b:Nat}{l m r:List O}:appx b l m=some r<->(l.length+m.length<=maxLen/\(l.length+m.length)*b<=140737488355328)/\r=l++m:=by
 unfold appx
 split
 .rename_i h;exact⟨fun e=>⟨h,(Option.some.inj e).symm⟩,fun e=>by rw[e.2]⟩
 .rename_i h;exact⟨fun e=>(by cases e),fun e=>absurd e.1 h⟩
def makex {O:Type}(b:Nat)(n:Int)(z:O):Option (List O):=if 0<=n/\n<=9223372036854775807/\(b:Int)*n<=281474976710656/\n.toNat<=maxLen then some (List.replicate n.toNat z) else none
theorem makex_iff {O:Type}{b:Nat}{n:Int}{z:O}{r:List O}:makex b n z=some r<->(0<=n/\n<=9223372036854775807/\(b:Int)*n<=281474976710656/\n.toNat<=maxLen)/\r=List.replicate n.toNat z:=by
 unfold makex
 split
 .rename_i h;exact⟨fun e=>⟨h,(Option.some.inj e).symm⟩,fun e=>by rw[e.2]⟩
 .rename_i h;exact⟨fun e=>(by cases e),fun e=>absurd e.1 h⟩
def cutx {O:Type}(l:List O)(lo hi:Int):Option (List O):=if 0<=lo/\lo<=hi/\hi<=l.length then some ((l.take hi.toNat).drop lo.toNat) else none
theorem cutx_iff {O:Type}{l r:List O}{lo hi:Int}:cutx l lo hi=some r<->(0<=lo/\lo<=hi/\hi<=l.length)/\r=(l.take hi.toNat).drop lo.toNat:=by
 unfold cutx
 split
 .rename_i h;exact⟨fun e=>⟨h,(Option.some.inj e).symm⟩,fun e=>by rw[e.2]⟩
 .rename_i h;exact⟨fun e=>(by cases e),fun e=>absurd e.1 h⟩

end Go.Abs
