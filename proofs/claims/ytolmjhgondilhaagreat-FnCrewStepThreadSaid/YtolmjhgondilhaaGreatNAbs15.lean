/- What a walk uses: a function's entry, and the rules by which its regions are run. -/
import Derived.Test.YtolmjhgondilhaaGreatNAbs14
import Derived.Orders
set_option linter.unusedSimpArgs false
set_option linter.unusedVariables false
namespace Go.Abs
open Go Go.RowKit

def retQ (T:Types)(R':AV->AHeap->Prop)(rs:List ResultVar):Ex->AAct->AHeap->Prop
 |.exit _,_,_=>False
 |_,a,J=>∃vs,resA T J a rs=some vs/\R' (tupA vs) J

def argsA:Nat->List AV->AAct
 |_,[]=>[]
 |k,v::l=>(k,v)::argsA (k+1) l

theorem argsA_eq (l:List AV):∀k,argsA k l=(List.range' k l.length).zip l:=by
 induction l with
 |nil=>intro k;rfl
 |cons x l ih=>intro k;simp[argsA,ih,List.range'_succ]

theorem ACalls_fn {P:Program}{G:Globs}{T:Types}(hT:TOk P T){f:FuncId}{fn:Func}{c:Code}{args:List AV}{R':AV->AHeap->Prop}{J:AHeap}{nt:Nat}{rs:Array ResultVar}(hf:P.funcs[f]? =some fn)
  (hname:(fn.name== "runtime.NumGoroutine") =false) (hb:fn.body=some c) (hn:fn.ntmps=nt) (hr:fn.results=rs) (hargs:Nat.ble args.length nt=true)
  (h:AWP P G nt J.next c (retQ T R' rs.toList) (argsA 0 args) J):ACalls P G f args J R':=by
 subst hn;subst hr
 refine ACalls_body hT hf hname hb (Nat.le_of_ble_eq_true hargs) ?_
 rw[argsA_eq,<- List.range_eq_range'] at h
 exact h.mono fun x a J hq=>by cases x<;>exact hq

end Go.Abs

/- Regions that draw their order. -/
set_option linter.unusedSimpArgs false
set_option linter.unusedVariables false
namespace Go.Abs
open Go Go.RowKit

def yD (alt:Bool)(o:Oper):Bool:=
 match o.op with
 |.alloc _|.box _ _|.buildSlice _ _ _|.makeSlice _ _ _=>alt
 |.store _ _ _=>false
 |.call {callee:=.builtin .append,.. }=>alt
 |.assign _=> !alt
 |_=>true

def tX (o:Oper):Bool:=
 match o.op with
 |.call {callee:=.value _,.. }=>true
 |_=>false

def empty:AHeap:=⟨fun _=>none,0⟩

theorem stepP_empty {T G op a v}(J:AHeap)(h:stepP T G op a empty=some v):stepP T G op a J=some v:=by
 unfold stepP at h ⊢
 split at h<;>(try simp only at h ⊢)<;>try exact h
 .-- load
  unfold loadA at h ⊢
  split at h
  .simp[empty] at h
  .exact h
  .cases h
 .unfold zQ at h ⊢
  split at h
  .simp[empty] at h
  .exact h
  .exact h
  .exact h
  .cases h

theorem stepO_free {T G alt id o a v J0}(hf:yD alt o=true)(h:stepO T G alt id o a empty=.val v J0)(J:AHeap)(id':Nat):stepO T G alt id' o a J=.val v J:=by
 have pv:∀op,St.ofV (stepP T G op a empty) empty=.val v J0->St.ofV (stepP T G op a J) J=.val v J:=by
  intro op h
  cases hs:stepP T G op a empty with
  |none=>simp[hs,St.ofV] at h
  |some u=>
   simp[hs,St.ofV] at h
   rw[stepP_empty J hs]
   simp[St.ofV,h.1]
 unfold stepO at h ⊢
 split at h
 .rename_i e hop
  simp only[yD,hop] at hf
  subst hf
  unfold mX at h ⊢
  split at h
  .rename_i ti ht
   split at h
   .rename_i hc
    rw[if_pos hc]
    simp[newA,St.ofO] at h ⊢
    exact h.1
   .simp[St.ofO] at h
  .simp[St.ofO] at h
 .rename_i e x hop
  simp only[yD,hop] at hf
  subst hf
  unfold boxA at h ⊢
  split at h
  .rename_i hc
   rw[if_pos hc]
   simp[newA,St.ofO] at h ⊢
   exact h.1
  .simp[St.ofO] at h
 .rename_i t ps hop
  split at h
  .rename_i hc
   rw[if_pos hc]
   cases hb:buildA T alt t (uM G a ps) with
   |none=>simp[hb,St.ofV] at h
   |some y=>simp[hb,St.ofV] at h ⊢;exact h.1
  .simp[St.ofV] at h
 .rename_i t len ps hop
  simp only[yD,hop] at hf
  subst hf
  split at h
  .rename_i hc
   rw[if_pos hc]
   unfold bsA at h ⊢
   split at h
   .rename_i e hk
    simp only[hk]
    cases hT:T e with
    |none=>simp[hT,St.ofO] at h
    |some ti=>
     simp only[hT,Option.bind_some] at h ⊢
     split at h
     .rename_i hc2
      rw[if_pos hc2]
      simp[St.ofO] at h ⊢
      exact h.1
     .simp[St.ofO] at h
   .simp[St.ofO] at h
  .simp[St.ofO] at h
 .rename_i t x y hop
  simp[yD,hop] at hf
 .rename_i t l c hop
  simp only[yD,hop] at hf
  subst hf
  unfold makeA at h ⊢
  split at h
  .rename_i e k n k' m hk h1 h2
   simp only[hk,h1,h2]
   cases hT:T e with
   |none=>simp[hT,St.ofO] at h
   |some ti=>
    simp only[hT,Option.bind_some] at h ⊢
    split at h
    .rename_i hc2
     rw[if_pos hc2]
     simp[St.ofO] at h ⊢
     exact h.1
    .simp[St.ofO] at h
  .simp[St.ofO] at h
 .rename_i t x lo hi hop
  cases hc:cutA T empty t (ev G a x) (lo.map (ev G a)) (hi.map (ev G a)) with
  |none=>simp[hc,St.ofV] at h
  |some y=>
   have:cutA T J t (ev G a x) (lo.map (ev G a)) (hi.map (ev G a))=some y:=by
    unfold cutA at hc ⊢
    split at hc
    .exfalso
     cases h1:lowA (lo.map (ev G a)) with
     |none=>simp[h1] at hc
     |some l=>
      rename_i n _ _
      cases h2:highA n (hi.map (ev G a)) with
      |none=>simp[h1,h2] at hc
      |some q=>simp[h1,h2,empty] at hc
    .exact hc
    .cases hc
   rw[this]
   simp[hc,St.ofV] at h ⊢
   exact h.1
 .rename_i args ats hop
  simp only[yD,hop] at hf
  subst hf
  split at h
  .rename_i s x t t' _ _
   split at h
   .rename_i ht
    simp only[if_true] at h
    rw[if_pos ht,if_pos rfl]
    unfold jM at h ⊢
    split at h
    .rename_i e hk
     try simp only[hk]
     cases hT:T e with
     |none=>simp[hT,St.ofO] at h
     |some ti=>
      simp only[hT,Option.bind_some] at h ⊢
      cases hE:srcA ti empty (ev G a x) with
      |none=>simp[hE,St.ofO] at h
      |some E=>
       have hE':srcA ti J (ev G a x)=some E:=by
        unfold srcA at hE ⊢
        split at hE
        .exact hE
        .simp[empty] at hE
        .exact hE
        .exact hE
        .cases hE
       simp only[hE,hE',Option.bind_some] at h ⊢
       split at h
       .rename_i hc2
        rw[if_pos hc2]
        simp[St.ofO] at h ⊢
        exact h.1
       .simp[St.ofO] at h
    .simp[St.ofO] at h
   .cases h
  .cases h
 .rename_i f args _ hop
  unfold callA at h
  split at h
  .split at h<;>cases h
  .cases h
 .rename_i x hop
  simp only[yD,hop] at hf
  cases alt with
  |true=>simp at hf
  |false=>
   simp only[Bool.false_eq_true,if_false] at h ⊢
   exact pv _ h
 .rename_i op h1 h2 h3 h4 h5 h6 h7 h8 h9 h10
  exact pv _ h

end Go.Abs
