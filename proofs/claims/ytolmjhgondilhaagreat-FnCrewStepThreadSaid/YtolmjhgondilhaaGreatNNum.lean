/- The words of the mirrors over numbers: when nothing is lost. -/
import Derived.Test.YtolmjhgondilhaaGreatNMon
import Derived.Laws.BitsLemmas
set_option linter.unusedSimpArgs false
set_option linter.unusedVariables false
namespace Go.Abs
open Go

theorem wr64 (n:Int)(h: -9223372036854775808<=n/\n<=9223372036854775807):IntKind.i64.wrap n=n:=by rw[IntKind.wrap_i64];omega
theorem zS (a b:Int)(h: -9223372036854775808<=a+b/\a+b<=9223372036854775807):iadd .i64 a b=a+b:=wr64 _ h
theorem yI (a b:Int)(h: -9223372036854775808<=a-b/\a-b<=9223372036854775807):isub .i64 a b=a-b:=wr64 _ h
theorem imul_eq (a b:Int)(h: -9223372036854775808<=a*b/\a*b<=9223372036854775807):imul .i64 a b=a*b:=wr64 _ h
theorem iconv_eq (a:Int)(h: -9223372036854775808<=a/\a<=9223372036854775807):iconv .i64 a=a:=wr64 _ h
theorem remx_eq (a b:Int)(ha:0<=a)(hb:0<b):remx a b=some (a % b):=by
 unfold remx;rw[if_neg (by omega),Int.tmod_eq_emod_of_nonneg ha]
theorem quox_eq (a b:Int)(ha:0<=a)(ha':a<=9223372036854775807)(hb:0<b):quox .i64 a b=some (a / b):=by
 unfold quox;rw[if_neg (by omega),Int.tdiv_eq_ediv_of_nonneg ha,wr64]
 have:=Int.ediv_nonneg ha (Int.le_of_lt hb)
 have:=Int.ediv_le_self b ha
 omega
theorem zD (a b:Int):ilt a b=true<->a<b:=by simp[ilt]
theorem dV (a b:Int):ile a b=true<->a<=b:=by simp[ile]
theorem jJ (a b:Int):igt a b=true<->a>b:=by simp[igt]
theorem mR (a b:Int):ige a b=true<->a>=b:=by simp[ige]
theorem zP (a b:Int):ieq a b=true<->a=b:=by simp[ieq]
theorem wS (a b:Int):ine a b=true<->a≠b:=by simp[ine]
theorem bv_ofInt (a:Int)(h0:0<=a)(h1:a<18446744073709551616):(BitVec.ofInt 64 a).toNat=a.toNat:=by
 rw[BitVec.toNat_ofInt];simp;omega
theorem ixor_eq (a b:Int)(ha:0<=a)(ha':a<9223372036854775808)(hb:0<=b)(hb':b<9223372036854775808):ixor .i64 a b=((a.toNat ^^^ b.toNat:Nat):Int):=by
 unfold ixor
 have e:(BitVec.ofInt IntKind.i64.bits a ^^^ BitVec.ofInt IntKind.i64.bits b).toNat=a.toNat ^^^ b.toNat:=by
  rw[BitVec.toNat_xor]
  show(BitVec.ofInt 64 a).toNat ^^^ (BitVec.ofInt 64 b).toNat=_
  rw[bv_ofInt a ha (by omega),bv_ofInt b hb (by omega)]
 rw[e,wr64]
 have:a.toNat ^^^ b.toNat<2 ^ 63:=Nat.xor_lt_two_pow (by omega) (by omega)
 omega
theorem idx_ok {O:Type}(l:List O)(i:Int)(h0:0<=i)(h1:i<l.length):∃v,idx l i=some v/\v∈l:=by
 refine⟨_,idx_get h0 h1,List.getElem_mem _⟩
theorem kS {O:Type}(b:Nat)(l m:List O)(h:l.length+m.length<=maxLen/\(l.length+m.length)*b<=140737488355328):appx b l m=some (l++m):=by
 unfold appx;rw[if_pos h]
theorem bS' {O β:Type}(a:O)(f:O->Option β):(some a).bind f=f a:=rfl
end Go.Abs

/- Loops that count up; lists that are written from their start. -/
set_option linter.unusedSimpArgs false
set_option linter.unusedVariables false
namespace Go.Abs
open Go

theorem yC {S E:Type}{step:S->Option (Flow S E)}{s0:S}(n:Nat)(s:Nat->S)(e:E)(h0:s0=s 0)(h:∀k,k<n->step (s k)=some (.next (s (k+1))))(hd:step (s n)=some (.done e)):loopM step s0=some e:=by
 subst h0
 have key:∀m k,k+m=n->loopM step (s k)=some e:=by
  intro m
  induction m with
  |zero=>
   intro k hk
   obtain rfl:k=n:=by omega
   exact jR hd
  |succ m ih=>intro k hk;rw[pP (h k (by omega))];exact ih (k+1) (by omega)
 exact key n 0 (by omega)

theorem zV {O:Type}{l:List O}{k:Nat}{x:O}(h:l[k]? =some x):idx l (k:Int)=some x:=by
 rw[idx_iff];exact⟨by omega,by simpa using h⟩
theorem idx_cat {O:Type}(a b:List O)(x:O)(k:Nat)(hk:a.length=k):idx (a++x::b) (k:Int)=some x:=by
 refine zV ?_
 subst hk
 simp
theorem setx_cat {O:Type}(a b:List O)(x y:O)(k:Nat)(hk:a.length=k):setx (a++x::b) (k:Int) y=some (a++y::b):=by
 subst hk
 rw[setx_iff]
 refine⟨⟨by omega,by simp;omega⟩,?_⟩
 simp
end Go.Abs
