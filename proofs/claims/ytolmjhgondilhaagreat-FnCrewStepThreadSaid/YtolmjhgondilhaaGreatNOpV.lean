/- Valid codes: what the checks give; what follows a quad. -/
import Derived.Test.YtolmjhgondilhaaGreatNOkF
set_option linter.unusedSimpArgs false
set_option linter.unusedVariables false
set_option maxHeartbeats 4000000
namespace Go.Abs
open Go

variable {Z:Bool}

theorem ieq_d (a b:Int):ieq a b=decide (a=b):=by rw[Bool.eq_iff_iff,zP];simp
theorem xJ (a b c:Int):kW a b c=some (decide (b<=a/\a<=c)):=by
 unfold kW;rw[jK,bS']
 simp[ige,ile]
theorem l21Reg_val (x:Int)(u:Bool):sK x u=some (decide (if u=true then Rg x else x=0)):=by
 unfold sK
 cases u
 .simp[ieq_d]
 .simp only[if_true,xJ,bS']
  unfold Rg
  rfl
theorem l21Regs_val (q:gQuad)(d a b:Bool):yG q d a b=some (decide ((if d=true then Rg q.Dst else q.Dst=0)/\(if a=true then Rg q.A else q.A=0)/\(if b=true then Rg q.B else q.B=0))):=by
 unfold yG
 simp only[l21Reg_val,bS',jK]
 simp[Bool.and_assoc]
theorem pX (x:Int):kV x=some (decide (Wd x)):=by
 unfold kV Wd
 simp only[xJ,bS']
theorem gZ (x:Int):wK x=some (decide (1<=x/\x<=12)):=by
 unfold wK
 simp only[xJ,bS']
theorem uW (q:gQuad)(m:Int):yU q m=some (decide (QV false q m)):=by
 unfold yU QV
 simp only[l21Regs_val,pX,gZ,xJ,bS',jK]
 obtain⟨op,d,a,b,n⟩:=q
 dsimp only
 by_cases h1:op=1
 .subst h1;simp[ieq_d,Bool.and_assoc]
 rw[if_neg (by simpa [ieq] using h1)]
 by_cases h2:op=2
 .subst h2;simp[ieq_d,Bool.and_assoc]
 rw[if_neg (by simpa [ieq] using h2)]
 by_cases h3:op=3
 .subst h3;simp[ieq_d,Bool.and_assoc]
 rw[if_neg (by simpa [ieq] using h3)]
 by_cases h4:op=4
 .subst h4;simp[ieq_d,ige,ilt,Bool.and_assoc]
 rw[if_neg (by simpa [ieq] using h4)]
 by_cases h5:op=5
 .subst h5;simp[ieq_d,ige,ilt,Bool.and_assoc]
 rw[if_neg (by simpa [ieq] using h5)]
 by_cases h6:op=6
 .subst h6;simp[ieq_d,Bool.and_assoc,show bxm false=2 from rfl]
 rw[if_neg (by simpa [ieq] using h6)]
 by_cases h7:op=7
 .subst h7;simp[ieq_d,Bool.and_assoc,show bxm false=2 from rfl]
 rw[if_neg (by simpa [ieq] using h7)]
 by_cases h9:op=9
 .subst h9;simp[ieq_d,Bool.and_assoc]
 rw[if_neg (by simpa [ieq] using h9)]
 by_cases h8:op=8
 .subst h8;simp[ieq_d,Bool.and_assoc]
 rw[if_neg (by simpa [ieq] using h8),bS']
 by_cases h10:op=10
 .subst h10;simp[ieq_d,Bool.and_assoc]
 simp[ieq_d,h1,h2,h3,h4,h5,h6,h7,h8,h9,h10]
theorem iadd1 {i:Nat}(h:i<=1000000000):iadd .i64 (i:Int) 1=((i+1:Nat):Int):=by rw[zS _ _ (by omega)];rfl
theorem kM {l:List gQuad}(h:kH Z l):kB l=some true:=by
 unfold kB
 obtain⟨⟨h1,h2⟩,h3,h4⟩:=h
 rw[xJ,bS']
 rw[show decide ((1:Int)<=ilen l/\ilen l<=600)=true from by rw[decide_eq_true_iff,zF];omega,if_neg (by simp[bnot])]
 rw[yC (step:=kT l) (s0:=(0:Int)) l.length (fun k=>(k:Int)) (.inl ()) rfl (fun k hk=>?_) ?_,bS']
 .have e1:isub .i64 (ilen l) 1=((l.length-1:Nat):Int):=by rw[zF,yI _ _ (by omega)];omega
  have hx:l[l.length-1]? =some l[l.length-1]:=List.getElem?_eq_getElem (by omega)
  simp only[e1,zV hx,bS',if_or]
  rcases h4 _ hx with h5|h5<;>simp[ieq,h5]
 .unfold kT
  dsimp only
  rw[if_neg (by rw[zD,zF];omega)]
 .unfold kT
  dsimp only
  rw[if_pos (by rw[zD,zF];omega),zV (List.getElem?_eq_getElem hk),bS',uW,bS',zF,decide_eq_true (h3 _ (List.getElem_mem hk)).any,if_neg (by simp[bnot]),iadd1 (by omega)]
theorem codeValid_any (l:List gQuad)(hl:l.length<=2000000):∃v,kB l=some v/\(v=true->kH false l):=by
 unfold kB
 rw[xJ,bS',zF]
 by_cases h:(1:Int)<=l.length/\(l.length:Int)<=600
 .rw[decide_eq_true h,if_neg (by simp[bnot])]
  obtain⟨e,he,hd⟩:=Ok.loop (step:=kT l) (s:=(0:Int)) (fun s=>∃k:Nat,k<=l.length/\s=(k:Int)/\∀q∈l.take k,QV false q l.length) (fun s=>l.length-s.toNat)
   (fun e=>e=.inr false\/(e=.inl ()/\∀q∈l,QV false q l.length)) ⟨0,by omega,rfl,by simp⟩ (by
   rintro s ⟨k,hk,rfl,hall⟩
   unfold kT
   dsimp only
   refine Ok.ite (fun hi=>?_) fun hi=>?_
   .rw[zD,zF] at hi
    have hlt:k<l.length:=by omega
    rw[zV (List.getElem?_eq_getElem hlt),bS',uW,bS',zF,iadd1 (by omega)]
    refine Ok.ite (fun hb=>Ok.pure (.inl rfl)) fun hb=>Ok.pure ⟨⟨k+1,by omega,rfl,fun q hq=>?_⟩,by omega⟩
    rw[List.take_add_one,List.getElem?_eq_getElem hlt] at hq
    rcases List.mem_append.1 hq with hq|hq
    .exact hall q hq
    .simp at hq;subst hq
     simpa [bnot] using hb
   .rw[zD,zF] at hi
    have:k=l.length:=by omega
    subst this
    exact Ok.pure (.inr ⟨rfl,by simpa using hall⟩))
  rw[he]
  rcases hd with rfl|⟨rfl,hall⟩
  .exact⟨false,rfl,fun h=>by cases h⟩
  .have e1:isub .i64 (ilen l) 1=((l.length-1:Nat):Int):=by rw[zF,yI _ _ (by omega)];omega
   have hx:l[l.length-1]? =some l[l.length-1]:=List.getElem?_eq_getElem (by omega)
   have e1':isub .i64 (l.length:Int) 1=((l.length-1:Nat):Int):=e1
   simp only[bS',e1',zV hx,if_or]
   refine⟨_,rfl,fun hv=>⟨by omega,hall,fun q hq=>?_⟩⟩
   rw[hx] at hq
   cases hq
   simpa [ieq] using hv
 .rw[decide_eq_false h,if_pos (by rfl)]
  exact⟨false,rfl,fun h=>by cases h⟩

def nxt (l:List gQuad)(k:Nat):List Int:=
 match l[k]? with
 |none=>[]
 |some q=>if q.Op=10 then[] else if q.Op=4 then[q.N] else if q.Op=5/\q.N<(k:Int)+1 then[q.N,(k:Int)+1] else if q.Op=5/\q.N>(k:Int)+1 then[(k:Int)+1,q.N] else[(k:Int)+1]
theorem next_val {l:List gQuad}{k:Nat}(hk:k<l.length)(h1:l.length<=1000000):wA l (k:Int)=some (nxt l k):=by
 unfold wA nxt
 rw[zV (List.getElem?_eq_getElem hk),bS',List.getElem?_eq_getElem hk,iadd1 (by omega)]
 simp only[jK,bS']
 by_cases h10:l[k].Op=10
 .rw[if_pos ((zP _ _).2 h10),if_pos h10]
 rw[if_neg (by rw[zP];exact h10),if_neg h10]
 by_cases h4:l[k].Op=4
 .rw[if_pos ((zP _ _).2 h4),if_pos h4]
 rw[if_neg (by rw[zP];exact h4),if_neg h4]
 by_cases h5:l[k].Op=5/\l[k].N<(k:Int)+1
 .rw[if_pos (by rw[Bool.and_eq_true,zP,zD];exact h5),if_pos h5];rfl
 rw[if_neg (by rw[Bool.and_eq_true,zP,zD];exact h5),if_neg h5]
 by_cases h6:l[k].Op=5/\l[k].N>(k:Int)+1
 .rw[if_pos (by rw[Bool.and_eq_true,zP,jJ];exact h6),if_pos h6];rfl
 rw[if_neg (by rw[Bool.and_eq_true,zP,jJ];exact h6),if_neg h6];rfl
theorem nxt_in {l:List gQuad}(h:kH Z l){k:Nat}(hk:k<l.length):(nxt l k).length<=2/\∀x∈nxt l k,0<=x/\x<l.length:=by
 obtain⟨⟨h1,h2⟩,h3,h4⟩:=h
 have hq:=h3 _ (List.getElem_mem hk)
 have hl:k+1=l.length->l[k].Op=10\/l[k].Op=4:=fun e=>h4 _ (by rw[show l.length-1=k by omega];exact List.getElem?_eq_getElem hk)
 have hn:l[k].Op=4\/l[k].Op=5->0<=l[k].N/\l[k].N<l.length:=by
  intro ho
  rcases hq with h|h|h|h|h|h|h|h|h|h
  case inr.inr.inr.inl=>exact h.2.2.2.2
  case inr.inr.inr.inr.inl=>exact h.2.2.2.2
  all_goals (have:=h.1;omega)
 unfold nxt
 rw[List.getElem?_eq_getElem hk]
 dsimp only
 have hs:l[k].Op≠10->l[k].Op≠4->(0:Int)<=(k:Int)+1/\(k:Int)+1<l.length:=by
  intro a b
  have:k+1≠l.length:=fun e=>by rcases hl e with h|h<;>omega
  omega
 split
 .simp
 .rename_i a
  split
  .rename_i b
   refine⟨by simp,fun x hx=>?_⟩
   simp at hx;subst hx
   exact hn (.inl b)
  .rename_i b
   have hs':=hs a b
   split
   .rename_i c
    refine⟨by simp,fun x hx=>?_⟩
    simp at hx
    rcases hx with rfl|rfl
    .exact hn (.inr c.1)
    .exact hs'
   .split
    .rename_i c
     refine⟨by simp,fun x hx=>?_⟩
     simp at hx
     rcases hx with rfl|rfl
     .exact hs'
     .exact hn (.inr c.1)
    .refine⟨by simp,fun x hx=>?_⟩
     simp at hx;subst hx
     exact hs'

/-! sums over a list fall where one element's does -/
def wsum {O:Type}(w:O->Nat)(l:List O):Nat:=(l.map w).sum
theorem fF {O:Type}(w:O->Nat){x y:O}:∀(l:List O) (k:Nat),l[k]? =some x->wsum w (l.set k y)+w x=wsum w l+w y:=by
 intro l
 induction l with
 |nil=>intro k h;simp at h
 |cons a l ih=>
  intro k h
  cases k with
  |zero=>simp at h;subst h;simp[wsum];omega
  |succ k=>
   have:=ih k (by simpa using h)
   simp[wsum] at this ⊢
   omega
end Go.Abs

/- Operators on words end, and give words. -/
set_option linter.unusedSimpArgs false
set_option linter.unusedVariables false
set_option maxHeartbeats 8000000
namespace Go.Abs
open Go

theorem bv_sx (a:Int)(h: -2147483648<=a/\a<=2147483647):BitVec.ofInt 64 a=(BitVec.ofInt 32 a).signExtend 64:=by
 apply BitVec.eq_of_toInt_eq
 rw[BitVec.toInt_signExtend_of_le (by decide),BitVec.toInt_ofInt,BitVec.toInt_ofInt]
 simp only[Int.bmod]
 omega
theorem wrap_toInt (x:BitVec 64):IntKind.i64.wrap (x.toNat:Int)=x.toInt:=by
 have e:(x.toNat:Int)=x.toInt\/(x.toNat:Int)=x.toInt+18446744073709551616:=by
  rw[BitVec.toInt_eq_toNat_cond];split<;>omega
 have h1:=x.toInt_lt
 have h2:=x.le_toInt
 rcases e with e|e
 .rw[e,wr64 _ (by omega)]
 .rw[e]
  have:IntKind.i64.wrap (x.toInt+18446744073709551616)=x.toInt:=by
   rw[IntKind.wrap_i64];omega
  exact this
theorem sx32 (y:BitVec 32):IntKind.i64.wrap ((y.signExtend 64).toNat:Int)=y.toInt:=by
 rw[wrap_toInt,BitVec.toInt_signExtend_of_le (by decide)]
theorem bw (y:BitVec 32): -2147483648<=y.toInt/\y.toInt<=2147483647:=by
 have h1:=y.toInt_lt
 have h2:=y.le_toInt
 omega
theorem ixor_w (a b:Int)(ha: -2147483648<=a/\a<=2147483647)(hb: -2147483648<=b/\b<=2147483647):ixor .i64 a b=(BitVec.ofInt 32 a ^^^ BitVec.ofInt 32 b).toInt:=by
 unfold ixor
 show IntKind.i64.wrap ((BitVec.ofInt 64 a ^^^ BitVec.ofInt 64 b).toNat:Int)=_
 rw[bv_sx a ha,bv_sx b hb,<- BitVec.signExtend_xor,sx32]
theorem ior_w (a b:Int)(ha: -2147483648<=a/\a<=2147483647)(hb: -2147483648<=b/\b<=2147483647):ior .i64 a b=(BitVec.ofInt 32 a|||BitVec.ofInt 32 b).toInt:=by
 unfold ior
 show IntKind.i64.wrap ((BitVec.ofInt 64 a|||BitVec.ofInt 64 b).toNat:Int)=_
 rw[bv_sx a ha,bv_sx b hb,<- BitVec.signExtend_or,sx32]
theorem iand_w (a b:Int)(ha: -2147483648<=a/\a<=2147483647)(hb: -2147483648<=b/\b<=2147483647):iand .i64 a b=(BitVec.ofInt 32 a&&&BitVec.ofInt 32 b).toInt:=by
 unfold iand
 show IntKind.i64.wrap ((BitVec.ofInt 64 a&&&BitVec.ofInt 64 b).toNat:Int)=_
 rw[bv_sx a ha,bv_sx b hb,<- BitVec.signExtend_and,sx32]
theorem and31 (b:Int)(hb: -2147483648<=b/\b<=2147483647):0<=iand .i64 b 31/\iand .i64 b 31<=31:=by
 unfold iand
 show 0<=IntKind.i64.wrap ((BitVec.ofInt 64 b&&&BitVec.ofInt 64 31).toNat:Int)/\IntKind.i64.wrap ((BitVec.ofInt 64 b&&&BitVec.ofInt 64 31).toNat:Int)<=31
 have:(BitVec.ofInt 64 b&&&BitVec.ofInt 64 31).toNat<=31:=by
  rw[BitVec.toNat_and]
  exact Nat.and_le_right
 rw[wr64 _ (by omega)]
 omega

theorem fdiv_w {a:Int}(ha:Wd a)(n:Nat):Wd (a.fdiv (2 ^ n)):=by
 unfold Wd at*
 have hd:(1:Int)<=2 ^ n:=by
  have:1<=2 ^ n:=Nat.one_le_pow _ _ (by omega)
  exact_mod_cast this
 rw[Int.fdiv_eq_ediv_of_nonneg _ (by omega)]
 generalize (2:Int) ^ n=d at hd
 rcases Int.le_total 0 a with h|h
 .have h1:a / d<=a:=Int.ediv_le_self d h
  have h2:0<=a / d:=Int.ediv_nonneg h (by omega)
  omega
 .have h1:a<=a / d:=Int.le_ediv_of_mul_le (by omega) (by
   have:=Int.mul_le_mul_of_nonpos_left h hd
   omega)
  have h2:a / d<=0:=by
   have h3:a / d<1:=Int.ediv_lt_of_lt_mul (by omega) (by omega)
   omega
  omega
theorem tmod_w {a:Int}(ha:Wd a)(b:Int):Wd (a.tmod b):=by
 unfold Wd at*
 have h1:(a.tmod b).natAbs<=a.natAbs:=by
  rw[Int.natAbs_tmod];exact Nat.mod_le _ _
 rcases Int.le_total 0 a with h|h
 .have:=Int.tmod_nonneg b h
  omega
 .have:=Int.tmod_nonneg b (show 0<= -a by omega)
  rw[Int.neg_tmod] at this
  omega
theorem Ok.apply {op a b:Int}(h:1<=op/\op<=12)(ha:Wd a)(hb:Wd b):Ok (sY op a b) (fun r=>r.2=true/\Wd r.1):=by
 obtain⟨s0,s1⟩:=and31 b hb
 unfold sY qY pA qZ hY
 rw[gZ,bS',decide_eq_true h]
 simp only[pX,bS',if_or,decide_eq_true ha,decide_eq_true hb]
 rw[if_neg (by simp[bnot])]
 have flag:∀c:Bool,Ok ((if c=true then some 1 else some 0).bind fun r6:Int=>some (r6,true)) (fun r=>r.2=true/\Wd r.1):=by
  intro c;cases c<;>exact Ok.pure ⟨rfl,by decide⟩
 have wr:∀n:Int,-9223372036854775808<=n/\n<=9223372036854775807->Ok ((sL n).bind fun r=>some (r,true)) (fun r=>r.2=true/\Wd r.1):=fun n hn=>Ok.bind (Ok.wrap n hn) fun v hv=>Ok.pure ⟨rfl,hv⟩
 have wr2:∀n:Int,-9223372036854775808<=n/\n<=9223372036854775807->Ok (((sL n).bind fun r=>some r).bind fun r=>some (r,true)) (fun r=>r.2=true/\Wd r.1):=fun n hn=>by rw[yF];exact wr n hn
 refine Ok.ite (fun _=>Ok.pure ⟨rfl,by rw[ior_w a b ha hb];exact bw _⟩) fun _=>?_
 refine Ok.ite (fun _=>Ok.pure ⟨rfl,by rw[ixor_w a b ha hb];exact bw _⟩) fun _=>?_
 refine Ok.ite (fun _=>Ok.pure ⟨rfl,by rw[iand_w a b ha hb];exact bw _⟩) fun _=>?_
 refine Ok.ite (fun _=>flag _) fun _=>?_
 refine Ok.ite (fun _=>flag _) fun _=>?_
 refine Ok.ite (fun _=>?_) fun _=>?_
 .rw[if_neg (by simp)]
  have e:∃v,shlx .i64 a (iand .i64 b 31)=some v/\ -9223372036854775808<=v/\v<=9223372036854775807:=by
   unfold shlx;rw[if_neg (by omega)];exact⟨_,rfl,by rw[IntKind.wrap_i64];omega⟩
  obtain⟨v,e,hv⟩:=e
  rw[e,bS']
  exact wr2 v hv
 refine Ok.ite (fun _=>?_) fun _=>?_
 .rw[if_pos trivial]
  have e:∃v,shrx .i64 a (iand .i64 b 31)=some v/\Wd v:=by
   unfold shrx;rw[if_neg (by omega)];exact⟨_,rfl,fdiv_w ha _⟩
  obtain⟨v,e,hv⟩:=e
  rw[e]
  exact Ok.pure ⟨rfl,hv⟩
 refine Ok.ite (fun _=>wr _ (iadd_r _ _)) fun _=>?_
 refine Ok.ite (fun _=>wr _ (isub_r _ _)) fun _=>?_
 refine Ok.ite (fun _=>wr _ (imul_r _ _)) fun _=>?_
 refine Ok.ite (fun _=>?_) fun _=>?_
 .refine Ok.bind (P:=Wd) ?_ fun v hv=>Ok.pure ⟨rfl,hv⟩
  refine Ok.ite (fun _=>Ok.pure (by decide)) fun hz=>?_
  rw[zP] at hz
  have e:∃v,quox .i64 a b=some v/\ -9223372036854775808<=v/\v<=9223372036854775807:=by
   unfold quox;rw[if_neg hz];exact⟨_,rfl,by rw[IntKind.wrap_i64];omega⟩
  obtain⟨v,e,hv⟩:=e
  rw[e,bS',yF]
  exact Ok.wrap v hv
 .refine Ok.bind (P:=Wd) ?_ fun v hv=>Ok.pure ⟨rfl,hv⟩
  refine Ok.ite (fun _=>Ok.pure ha) fun hz=>?_
  rw[zP] at hz
  have e:remx a b=some (a.tmod b):=by unfold remx;rw[if_neg hz]
  rw[e]
  exact Ok.pure (tmod_w ha b)
end Go.Abs

/- Live registers of a valid code: the rounds end, at a fixed point. -/
set_option linter.unusedSimpArgs false
set_option linter.unusedVariables false
set_option maxHeartbeats 4000000
namespace Go.Abs
open Go

variable {Z:Bool}

def F12 {O:Type}(f:Nat->O):List O:=(List.range 12).map f
theorem mY {O:Type}(f:Nat->O):(F12 f).length=12:=by simp[F12]
theorem F12_get {O:Type}(f:Nat->O){j:Nat}(h:j<12):(F12 f)[j]? =some (f j):=by simp[F12,h]
theorem F12_idx {O:Type}(f:Nat->O){j:Nat}(h:j<12):idx (F12 f) (j:Int)=some (f j):=zV (F12_get f h)
theorem F12_ext {O:Type}{f g:Nat->O}(h:∀j,j<12->f j=g j):F12 f=F12 g:=by
 unfold F12
 exact List.map_congr_left fun j hj=>h j (List.mem_range.1 hj)
theorem F12_setl {O:Type}(f:Nat->O)(j:Nat)(v:O):(F12 f).set j v=F12 fun r=>if r=j then v else f r:=by
 refine List.ext_getElem (by simp[F12]) fun i h1 h2=>?_
 simp only[F12,List.getElem_set,List.getElem_map,List.getElem_range]
 by_cases h:j=i
 .subst h;simp
 .rw[if_neg h,if_neg (fun e=>h e.symm)]
theorem F12_set {O:Type}(f:Nat->O){j:Nat}(h:j<12)(v:O):setx (F12 f) (j:Int) v=some (F12 fun r=>if r=j then v else f r):=by
 rw[setx_iff]
 refine⟨⟨by omega,by rw[mY];omega⟩,?_⟩
 rw[<- F12_setl];rfl
def usesQ (q:gQuad):List Int:=if q.Op=2\/q.Op=5\/q.Op=6\/q.Op=9 then[q.A] else if q.Op=3 then(if q.A=q.B then[q.A] else[imin q.A q.B,imax q.A q.B]) else[]
def setsQ (q:gQuad):Int:=if q.Op=1\/q.Op=2\/q.Op=3\/q.Op=7 then q.Dst else -1
theorem quadUses_val {q:gQuad}(h:QV Z q 600):tC q=some (usesQ q):=by
 unfold tC usesQ
 rw[uW,bS',decide_eq_true h.any,if_neg (by simp[bnot])]
 by_cases h2:q.Op=2
 .rw[if_pos ((zP _ _).2 h2),bS',if_pos ((zP _ _).2 h2),if_pos (.inl h2)]
 rw[if_neg (by rw[zP];exact h2)]
 by_cases h5:q.Op=5
 .rw[if_pos ((zP _ _).2 h5),bS',if_pos ((zP _ _).2 h5),if_pos (.inr (.inl h5))]
 rw[if_neg (by rw[zP];exact h5)]
 by_cases h6:q.Op=6
 .rw[if_pos ((zP _ _).2 h6),bS',if_pos ((zP _ _).2 h6),if_pos (.inr (.inr (.inl h6)))]
 rw[if_neg (by rw[zP];exact h6),bS']
 by_cases h9:q.Op=9
 .rw[if_pos ((zP _ _).2 h9),if_pos (.inr (.inr (.inr h9)))]
 rw[if_neg (by rw[zP];exact h9),if_neg (show ¬(q.Op=2\/q.Op=5\/q.Op=6\/q.Op=9) by omega)]
 by_cases h3:q.Op=3
 .rw[if_pos ((zP _ _).2 h3),if_pos h3]
  by_cases he:q.A=q.B
  .rw[if_pos ((zP _ _).2 he),if_pos he]
  .rw[if_neg (by rw[zP];exact he),if_neg he]
 .rw[if_neg (by rw[zP];exact h3),if_neg h3]
theorem cE {q:gQuad}(h:QV Z q 600):xQ q=some (setsQ q):=by
 unfold xQ setsQ
 rw[uW,bS',decide_eq_true h.any,if_neg (by simp[bnot])]
 by_cases h2:q.Op=1
 .rw[if_pos ((zP _ _).2 h2),bS',if_pos ((zP _ _).2 h2),if_pos (.inl h2)]
 rw[if_neg (by rw[zP];exact h2)]
 by_cases h5:q.Op=2
 .rw[if_pos ((zP _ _).2 h5),bS',if_pos ((zP _ _).2 h5),if_pos (.inr (.inl h5))]
 rw[if_neg (by rw[zP];exact h5)]
 by_cases h6:q.Op=3
 .rw[if_pos ((zP _ _).2 h6),bS',if_pos ((zP _ _).2 h6),if_pos (.inr (.inr (.inl h6)))]
 rw[if_neg (by rw[zP];exact h6),bS']
 by_cases h9:q.Op=7
 .rw[if_pos ((zP _ _).2 h9),if_pos (.inr (.inr (.inr h9)))]
 rw[if_neg (by rw[zP];exact h9),if_neg (by omega)]
theorem uses_in {q:gQuad}{m:Int}(h:QV Z q m):∀x∈usesQ q,Rg x:=by
 intro x hx
 unfold usesQ at hx
 split at hx
 .rename_i ho
  simp at hx;subst hx
  rcases h with h|h|h|h|h|h|h|h|h|h
  case inr.inl=>exact h.2.2.1
  case inr.inr.inr.inr.inl=>exact h.2.2.1
  case inr.inr.inr.inr.inr.inl=>exact h.2.2.1
  case inr.inr.inr.inr.inr.inr.inr.inr.inl=>exact h.2.2.1
  all_goals (have:=h.1;omega)
 .split at hx
  .rename_i ho
   have hAB:Rg q.A/\Rg q.B:=by
    rcases h with h|h|h|h|h|h|h|h|h|h
    case inr.inr.inl=>exact⟨h.2.2.1,h.2.2.2.1⟩
    all_goals (have:=h.1;omega)
   split at hx
   .simp at hx;subst hx;exact hAB.1
   .simp at hx
    unfold imin imax at hx
    rcases hx with rfl|rfl
    .split
     .exact hAB.2
     .exact hAB.1
    .split
     .exact hAB.2
     .exact hAB.1
  .simp at hx
theorem sets_in {q:gQuad}{m:Int}(h:QV Z q m):setsQ q= -1\/Rg (setsQ q):=by
 unfold setsQ
 split
 .rename_i ho
  refine .inr ?_
  rcases h with h|h|h|h|h|h|h|h|h|h
  case inl=>exact h.2.1
  case inr.inl=>exact h.2.1
  case inr.inr.inl=>exact h.2.1
  case inr.inr.inr.inr.inr.inr.inl=>exact h.2.1
  all_goals (have:=h.1;omega)
 .exact .inl rfl

def lv (live:List (List Bool))(x:Int)(r:Nat):Bool:=(live.getD x.toNat []).getD r false
def aft (l:List gQuad)(live:List (List Bool))(k r:Nat):Bool:=(nxt l k).any fun x=>lv live x r
def bef (q:gQuad)(a:Nat->Bool)(r:Nat):Bool:=(usesQ q).contains (r:Int)||((setsQ q !=(r:Int))&&a r)
def pW {O:Type}(n:Nat)(live:List (List O)):Prop:=live.length=n/\∀row∈live,row.length=12
theorem lv_idx {n:Nat}{live:List (List Bool)}(h:pW n live){x:Int}(hx:0<=x/\x<n){r:Nat}(hr:r<12):∃row,idx live x=some row/\idx row (r:Int)=some (lv live x r):=by
 have h1:x.toNat<live.length:=by rw[h.1];omega
 have h2:=h.2 _ (List.getElem_mem h1)
 refine⟨live[x.toNat],by rw[idx_iff];exact⟨hx.1,List.getElem?_eq_getElem h1⟩,zV ?_⟩
 unfold lv
 simp[List.getD_eq_getElem?_getD,List.getElem?_eq_getElem h1,List.getElem?_eq_getElem (show r<(live[x.toNat]).length by omega)]
theorem l32After_o_eq:vT=tA:=rfl
theorem l32Before_o_eq:xX=gR:=rfl
theorem after_val {l:List gQuad}(hc:kH Z l){live:List (List Bool)}(h:pW l.length live){k:Nat}(hk:k<l.length):tA l live (k:Int)=some (F12 (aft l live k)):=by
 unfold tA
 have hm:makex 1 12 false=some (F12 fun _=>false):=rfl
 have hl6:=hc.1.2
 rw[hm,bS',next_val hk (by omega),bS']
 obtain⟨hn2,hnx⟩:=nxt_in hc hk
 rw[yC (step:=xZ live (nxt l k)) (s0:=((0:Int),F12 fun _=>false)) (nxt l k).length (fun i=>((i:Int),F12 fun r=>((nxt l k).take i).any fun x=>lv live x r)) (F12 (aft l live k)) (by simp) (fun i hi=>?_) ?_]
 .rfl
 .unfold xZ
  dsimp only
  rw[if_neg (by rw[zD,zF];omega)]
  congr 2
  exact F12_ext fun j _=>by rw[List.take_length];rfl
 .unfold xZ
  dsimp only
  rw[if_pos (by rw[zD,zF];omega)]
  have hx:=hnx _ (List.getElem_mem hi)
  rw[yC (step:=xY live (nxt l k) (i:Int)) (s0:=((0:Int),F12 fun r=>((nxt l k).take i).any fun x=>lv live x r)) 12 (fun j=>((j:Int),F12 fun r=>((nxt l k).take i).any (fun x=>lv live x r)||(decide (r<j)&&lv live (nxt l k)[i] r)))
   (F12 fun r=>((nxt l k).take (i+1)).any fun x=>lv live x r) (by simp) (fun j hj=>?_) ?_,bS',iadd1 (by omega)]
  .unfold xY
   dsimp only
   rw[if_neg (by simp[ilt])]
   congr 2
   refine F12_ext fun r hr=>?_
   rw[List.take_add_one,List.getElem?_eq_getElem hi]
   simp only[List.any_append,Option.toList_some,List.any_cons,List.any_nil,hr,decide_true,Bool.true_and,Bool.or_false]
  .unfold xY
   dsimp only
   rw[if_pos (by rw[zD];omega),F12_idx _ hj]
   obtain⟨row,e1,e2⟩:=lv_idx h hx hj
   simp only[bS',zV (List.getElem?_eq_getElem hi),e1,e2,if_or,F12_set _ hj,iadd1 (show j<=1000000000 by omega)]
   congr 4
   funext r
   by_cases hrj:r=j
   .subst hrj;simp
   .rw[if_neg hrj]
    have:decide (r<j+1)=decide (r<j):=by rw[decide_eq_decide];omega
    rw[this]
theorem rg_nat {x:Int}(h:Rg x):∃j:Nat,j<12/\x=(j:Int):=⟨x.toNat,by unfold Rg at h;omega,by unfold Rg at h;omega⟩
theorem before_val {q:gQuad}(hq:QV Z q 600)(f:Nat->Bool):gR q (F12 f)=some (F12 (bef q f)):=by
 unfold gR
 have e0:appx 1 ([]:List Bool) (F12 f)=some (F12 f):=by
  rw[kS 1 [] _ (by rw[mY];simp;unfold maxLen;omega)];rfl
 rw[e0,bS',cE hq,bS',quadUses_val hq]
 have e1:(if ige (setsQ q) 0=true then(idx (F12 f) (setsQ q)).bind fun v11=>(setx (F12 f) (setsQ q) false).bind fun l12=>some l12 else some (F12 f))=some (F12 fun r=>(setsQ q !=(r:Int))&&f r):=by
  rcases sets_in hq with h|h
  .rw[h,if_neg (by decide)]
   refine congrArg some (F12_ext fun r hr=>?_)
   have:((-1:Int) !=(r:Int))=true:=by simp
   rw[this,Bool.true_and]
  .obtain⟨j,hj,e⟩:=rg_nat h
   rw[e,if_pos (by rw[mR];omega),F12_idx _ hj,bS',F12_set _ hj,bS']
   congr 1
   refine F12_ext fun r hr=>?_
   by_cases hrj:r=j
   .subst hrj;simp
   .rw[if_neg hrj]
    have:((j:Int) !=(r:Int))=true:=by simp;omega
    rw[this,Bool.true_and]
 rw[e1,bS',bS']
 have hu:=uses_in hq
 have hul:(usesQ q).length<=2:=by unfold usesQ;split<;>(try split)<;>(try split)<;>simp
 rw[yC (step:=vK (usesQ q)) (s0:=((0:Int),F12 fun r=>(setsQ q !=(r:Int))&&f r)) (usesQ q).length (fun i=>((i:Int),F12 fun r=>((usesQ q).take i).contains (r:Int)||((setsQ q !=(r:Int))&&f r))) (F12 (bef q f)) (by simp) (fun i hi=>?_) ?_]
 .rfl
 .unfold vK
  dsimp only
  rw[if_neg (by rw[zD,zF];omega)]
  congr 2
  exact F12_ext fun j _=>by rw[List.take_length];rfl
 .unfold vK
  dsimp only
  obtain⟨j,hj,e⟩:=rg_nat (hu _ (List.getElem_mem hi))
  rw[if_pos (by rw[zD,zF];omega),zV (List.getElem?_eq_getElem hi),bS',e,F12_idx _ hj,bS',F12_set _ hj,bS',iadd1 (by omega)]
  congr 4
  funext r
  rw[List.take_add_one,List.getElem?_eq_getElem hi,e]
  by_cases hrj:r=j
  .subst hrj;rw[if_pos rfl];simp[-List.take_append_getElem]
  .rw[if_neg hrj]
   have:¬((r:Int)=(j:Int)):=by omega
   simp[-List.take_append_getElem,List.contains_append,List.contains_cons,this]

/-! the rounds -/
def LB (live:List (List Bool))(l:List gQuad)(k:Nat):List Bool:=F12 (match l[k]? with|some q=>bef q (aft l live k)|none=>fun _=>false)
theorem same_val (a b:List Bool)(h:a.length=b.length)(h1:a.length<=1000):oV a b=some (decide (a=b)):=by
 unfold oV
 obtain⟨e,he,hd⟩:=Ok.loop (step:=sI a b) (s:=(0:Int)) (fun s=>∃k:Nat,k<=a.length/\s=(k:Int)/\a.take k=b.take k) (fun s=>a.length-s.toNat)
   (fun e=>(e=.inr false/\a≠b)\/(e=.inl ()/\a=b)) ⟨0,by omega,rfl,by simp⟩ (by
  rintro s ⟨k,hk,rfl,hall⟩
  unfold sI
  dsimp only
  refine Ok.ite (fun hi=>?_) fun hi=>?_
  .rw[zD,zF] at hi
   have hlt:k<a.length:=by omega
   have hlt':k<b.length:=by omega
   rw[zV (List.getElem?_eq_getElem hlt),bS',zV (List.getElem?_eq_getElem hlt'),bS',iadd1 (by omega)]
   refine Ok.ite (fun hb=>Ok.pure (.inl ⟨rfl,fun e=>?_⟩)) fun hb=>Ok.pure ⟨⟨k+1,by omega,rfl,?_⟩,by omega⟩
   .subst e;simp[bneb] at hb
   .rw[List.take_add_one,List.take_add_one,hall,List.getElem?_eq_getElem hlt,List.getElem?_eq_getElem hlt']
    have:a[k]=b[k]:=by simpa [bneb] using hb
    rw[this]
  .rw[zD,zF] at hi
   have:k=a.length:=by omega
   subst this
   exact Ok.pure (.inr ⟨rfl,by rw[List.take_length,h,List.take_length] at hall;exact hall⟩))
 rw[he]
 rcases hd with⟨rfl,hne⟩|⟨rfl,rfl⟩
 .rw[bS',decide_eq_false hne]
 .rw[bS'];simp[ieq,ilen]
def wB (row:List Bool):Nat:=row.count false
theorem wB_lt:∀(a b:List Bool),a.length=b.length->(∀i:Nat,a[i]? =some true->b[i]? =some true)->wB b<=wB a/\(a≠b->wB b<wB a):=by
 intro a
 induction a with
 |nil=>intro b h _;cases b<;>simp_all [wB]
 |cons x a ih=>
  intro b h hm
  cases b with
  |nil=>simp at h
  |cons y b=>
   obtain⟨i1,i2⟩:=ih b (by simpa using h) fun i hi=>by have:=hm (i+1) (by simpa using hi);simpa using this
   have h0:x=true->y=true:=fun e=>by have:=hm 0 (by simp[e]);simpa using this
   unfold wB at*
   cases x<;>cases y<;>simp_all [List.count_cons]<;>omega
def MonoL (l:List gQuad)(live:List (List Bool)):Prop:=∀(k:Nat) (q:gQuad),l[k]? =some q->∀r,r<12->lv live k r=true->bef q (aft l live k) r=true
theorem lv_set {n:Nat}{live:List (List Bool)}(h:pW n live){k:Nat}(hk:k<n)(f:Nat->Bool)(x:Int)(hx:0<=x){r:Nat}(hr:r<12):lv (live.set k (F12 f)) x r=if x=(k:Int) then f r else lv live x r:=by
 unfold lv
 by_cases hxk:x=(k:Int)
 .subst hxk
  rw[if_pos rfl]
  have:k<live.length:=by rw[h.1];exact hk
  simp[List.getD_eq_getElem?_getD,this,F12_get _ hr]
 .rw[if_neg hxk]
  have:¬k=x.toNat:=by omega
  simp[List.getD_eq_getElem?_getD,List.getElem?_set,this]
theorem bef_mono {q:gQuad}{a b:Nat->Bool}{r:Nat}(h:a r=true->b r=true)(hb:bef q a r=true):bef q b r=true:=by
 unfold bef at*
 rw[Bool.or_eq_true,Bool.and_eq_true] at*
 rcases hb with hb|hb
 .exact .inl hb
 .exact .inr ⟨hb.1,h hb.2⟩
theorem rows_set {O:Type}{n:Nat}{live:List (List O)}(h:pW n live)(k:Nat)(f:Nat->O):pW n (live.set k (F12 f)):=by
 refine⟨by simp[h.1],fun row hr=>?_⟩
 rcases List.mem_or_eq_of_mem_set hr with hr|rfl
 .exact h.2 row hr
 .exact mY f
def FixL (l:List gQuad)(live:List (List Bool)):Prop:=∀k,k<l.length->live[k]? =some (LB live l k)
theorem round_ok {l:List gQuad}(hc:kH Z l){live:List (List Bool)}(h:pW l.length live)(hm:MonoL l live):
  Ok (qX l live) (fun e=>pW l.length e.2/\MonoL l e.2/\(e.1=true->wsum wB e.2<wsum wB live)/\(e.1=false->FixL l e.2)):=by
 unfold qX
 have hl:=hc.1
 refine Ok.bind (P:=fun e=>pW l.length e.2/\MonoL l e.2/\(e.1=true->wsum wB e.2<wsum wB live)/\(e.1=false->FixL l e.2)) ?_ fun e he=>Ok.pure he
 have e0:isub .i64 (ilen l) 1=(l.length:Int)-1:=by rw[zF,yI _ _ (by omega)]
 rw[e0]
 refine Ok.loop (fun s=>∃k:Nat,s.2.1=(k:Int)-1/\k<=l.length/\pW l.length s.2.2/\MonoL l s.2.2/\(s.1=true->wsum wB s.2.2<wsum wB live)/\(s.1=false->s.2.2=live/\∀j,k<=j->j<l.length->live[j]? =some (LB live l j))) (fun s=>(s.2.1+1).toNat) _ ⟨l.length,rfl,by omega,h,hm,by simp,fun _=>⟨rfl,fun j h1 h2=>by omega⟩⟩ ?_
 rintro⟨fr,at',cur⟩ ⟨k,h1,h2,h3,h4,h5,h6⟩
 simp only at h1 h2 h3 h4 h5 h6
 subst h1
 unfold nM
 dsimp only
 refine Ok.ite (fun hi=>?_) fun hi=>?_
 .rw[mR] at hi
  obtain⟨i,rfl⟩:∃i,k=i+1:=⟨k-1,by omega⟩
  have ei:((i+1:Nat):Int)-1=(i:Int):=by omega
  have ed:isub .i64 (i:Int) 1=(i:Int)-1:=yI _ _ (by omega)
  have hil:i<l.length:=by omega
  have hic:i<cur.length:=by rw[h3.1];exact hil
  have hq:=hc.2.1 _ (List.getElem_mem hil)
  have hrow:=h3.2 _ (List.getElem_mem hic)
  rw[ei,zV (List.getElem?_eq_getElem hil),bS',l32After_o_eq,l32Before_o_eq,after_val hc h3 hil,bS',before_val (hq.le (by omega)),bS',zV (List.getElem?_eq_getElem hic),bS',same_val _ _ (by rw[mY,hrow]) (by rw[mY];omega),bS',ed]
  have eLB:LB cur l i=F12 (bef l[i] (aft l cur i)):=by unfold LB;rw[List.getElem?_eq_getElem hil]
  have ml:∀j:Nat,(cur[i])[j]? =some true->(F12 (bef l[i] (aft l cur i)))[j]? =some true:=by
   intro j hj
   have hj12:j<12:=by
    rcases Nat.lt_or_ge j 12 with h|h
    .exact h
    .rw[List.getElem?_eq_none (by rw[hrow];exact h)] at hj;cases hj
   rw[F12_get _ hj12]
   refine congrArg some (h4 i _ (List.getElem?_eq_getElem hil) j hj12 ?_)
   unfold lv
   simp[List.getD_eq_getElem?_getD,List.getElem?_eq_getElem hic,hj]
  have hw:=wB_lt _ _ (by rw[hrow,mY]) ml
  refine Ok.ite (fun hb=>?_) fun hb=>?_
  .have hne:F12 (bef l[i] (aft l cur i))≠cur[i]:=by simpa [bnot] using hb
   refine Ok.bind (Ok.set (by omega)) fun cur' hcur=>Ok.pure ⟨⟨i,rfl,by omega,?_⟩,by simp only;omega⟩
   rw[show((i:Int)).toNat=i from rfl] at hcur
   subst hcur
   have mono:∀(x:Int),0<=x->∀r,r<12->lv cur x r=true->lv (cur.set i (F12 (bef l[i] (aft l cur i)))) x r=true:=by
    intro x hx r hr hv
    rw[lv_set h3 hil _ x hx hr]
    split
    .rename_i e;subst e;exact h4 i _ (List.getElem?_eq_getElem hil) r hr hv
    .exact hv
   have amono:∀k,k<l.length->∀r,r<12->aft l cur k r=true->aft l (cur.set i (F12 (bef l[i] (aft l cur i)))) k r=true:=by
    intro k hk r hr hv
    unfold aft at*
    rw[List.any_eq_true] at*
    obtain⟨x,hx,hx2⟩:=hv
    exact⟨x,hx,mono x ((nxt_in hc hk).2 x hx).1 r hr hx2⟩
   refine⟨rows_set h3 _ _,?_,fun _=>?_,fun h=>by cases h⟩
   .intro k q hkq r hr hv
    have hkl:k<l.length:=(List.getElem?_eq_some_iff.1 hkq).1
    refine bef_mono (amono k hkl r hr) ?_
    rw[lv_set h3 hil _ _ (by omega) hr] at hv
    split at hv
    .rename_i e
     have:k=i:=by omega
     subst this
     rw[List.getElem?_eq_getElem hil] at hkq
     cases hkq
     exact hv
    .exact h4 k q hkq r hr hv
   .have hs:=fF wB (y:=F12 (bef l[i] (aft l cur i))) cur i (List.getElem?_eq_getElem hic)
    have:=hw.2 fun e=>hne e.symm
    have hcl:wsum wB cur<=wsum wB live:=by
     cases fr with
     |true=>exact Nat.le_of_lt (h5 rfl)
     |false=>rw[(h6 rfl).1];exact Nat.le_refl _
    show wsum wB (cur.set i (F12 (bef l[i] (aft l cur i))))<wsum wB live
    omega
  .have heq:F12 (bef l[i] (aft l cur i))=cur[i]:=by simpa [bnot] using hb
   refine Ok.bind (Ok.set (by omega)) fun cur' hcur=>Ok.pure ⟨⟨i,rfl,by omega,?_⟩,by simp only;omega⟩
   rw[show((i:Int)).toNat=i from rfl,List.set_getElem_self] at hcur
   subst hcur
   refine⟨h3,h4,h5,fun hf=>⟨(h6 hf).1,fun j hj1 hj2=>?_⟩⟩
   rcases Nat.eq_or_lt_of_le hj1 with rfl|hlt
   .have:=(h6 hf).1
    subst this
    rw[eLB,heq,List.getElem?_eq_getElem hic]
   .exact(h6 hf).2 j (by omega) hj2
 .rw[mR] at hi
  have:k=0:=by omega
  subst this
  refine Ok.pure ⟨h3,h4,h5,fun hf=>?_⟩
  have:=h6 hf
  simp only at this ⊢
  rw[this.1]
  exact fun j hj=>this.2 j (by omega) hj
theorem Ok.live {l:List gQuad}(hc:kH Z l):Ok (hZ l) (fun live=>pW l.length live/\FixL l live):=by
 unfold hZ
 have hl:=hc.1
 rw[kM hc,bS',if_neg (by simp[bnot])]
 have hm:makex 1 12 false=some (F12 fun _=>false):=rfl
 rw[yC (step:=tS l) (s0:=((0:Int),([]:List (List Bool)))) l.length (fun i=>((i:Int),List.replicate i (F12 fun _=>false))) (List.replicate l.length (F12 fun _=>false)) rfl (fun i hi=>?_) ?_,bS']
 .refine Ok.bind (P:=fun e=>pW l.length e/\FixL l e) ?_ fun e he=>Ok.pure he
  refine Ok.loop (fun s=>pW l.length s/\MonoL l s) (fun s=>wsum wB s) _ ⟨⟨by simp,fun row hr=>by rw[List.eq_of_mem_replicate hr,mY]⟩,fun k q hk r hr hv=>?_⟩ ?_
  .exfalso
   have hkl:k<l.length:=(List.getElem?_eq_some_iff.1 hk).1
   unfold lv at hv
   simp[List.getD_eq_getElem?_getD,List.getElem?_replicate,hkl,F12_get _ hr] at hv
  .rintro s ⟨h1,h2⟩
   unfold gV
   refine Ok.bind (round_ok hc h1 h2) fun e he=>?_
   refine Ok.ite (fun hb=>Ok.pure ⟨⟨he.1,he.2.1⟩,he.2.2.1 hb⟩) fun hb=>Ok.pure ⟨he.1,he.2.2.2 (by simpa using hb)⟩
 .unfold tS
  dsimp only
  rw[if_neg (by rw[zD,zF];omega)]
 .unfold tS
  dsimp only
  rw[if_pos (by rw[zD,zF];omega),hm,bS',kS 24 _ _ (by simp;unfold maxLen;omega),bS',iadd1 (by omega),<- List.replicate_succ']
end Go.Abs

/- Codes without dead quads are valid. -/
set_option linter.unusedSimpArgs false
set_option linter.unusedVariables false
set_option maxHeartbeats 4000000
namespace Go.Abs
open Go

variable {Z:Bool}

theorem Ok.outs {step:Int×List gQuad->Option (Flow (Int×List gQuad) (List gQuad))}(n:Nat)(G:Nat->gQuad->Prop)
  (h:∀k,k<n->∀o:List gQuad,o.length=k->Ok (step ((k:Int),o)) (fun fl=>∃q,G k q/\fl=.next (((k+1:Nat):Int),o++[q])))
  (hd:∀o:List gQuad,o.length=n->step ((n:Int),o)=some (.done o)):
  Ok (loopM step (0,([]:List gQuad))) (fun o=>o.length=n/\∀(k:Nat) (q:gQuad),o[k]? =some q->G k q):=by
 refine Ok.loop (fun s=>∃k:Nat,k<=n/\s.1=(k:Int)/\s.2.length=k/\∀(j:Nat) (q:gQuad),s.2[j]? =some q->G j q) (fun s=>n-s.1.toNat) _ ⟨0,by omega,rfl,rfl,by simp⟩ ?_
 rintro⟨i,o⟩ ⟨k,h1,h2,h3,h4⟩
 simp only at h2 h3 h4
 subst h2
 rcases Nat.eq_or_lt_of_le h1 with rfl|hlt
 .rw[hd o h3]
  exact Ok.pure ⟨h3,h4⟩
 .refine(h k hlt o h3).mono fun fl hfl=>?_
  obtain⟨q,hq,rfl⟩:=hfl
  refine⟨⟨k+1,by omega,rfl,by simp[h3],fun j x hx=>?_⟩,by simp only;omega⟩
  rcases Nat.lt_or_ge j k with hj|hj
  .rw[List.getElem?_append_left (by omega)] at hx
   exact h4 j x hx
  .rw[List.getElem?_append_right (by omega)] at hx
   have:j-o.length=0:=by
    rcases Nat.eq_zero_or_pos (j-o.length) with h|h
    .exact h
    .rw[List.getElem?_eq_none (by simp;omega)] at hx;cases hx
   rw[this] at hx
   simp at hx
   subst hx
   have:j=k:=by omega
   subst this
   exact hq
theorem dA {l o:List gQuad}(hc:kH Z l)(h:o.length=l.length)(hq:∀(k:Nat) (q:gQuad),o[k]? =some q->QV Z q l.length/\(k+1=l.length->q.Op=10\/q.Op=4)):kH Z o:=by
 have hl:=hc.1
 refine⟨by omega,fun q hm=>?_,fun q hm=>?_⟩
 .obtain⟨k,hk⟩:=List.mem_iff_getElem?.1 hm
  rw[h];exact(hq k q hk).1
 .exact(hq _ q hm).2 (by omega)
theorem mO {l:List gQuad}(hc:kH Z l){k:Nat}(hk:k<l.length)(h:k+1=l.length):l[k].Op=10\/l[k].Op=4:=
 hc.2.2 _ (by rw[show l.length-1=k by omega];exact List.getElem?_eq_getElem hk)
theorem app1 (o:List gQuad)(q:gQuad)(h:o.length<=1000000):appx 40 o [q]=some (o++[q]):=kS 40 o [q] (by simp;unfold maxLen;omega)

def deadB (l:List gQuad)(live:List (List Bool))(k:Nat):Bool:=match l[k]? with|some q=>decide (q.Op=1\/q.Op=2\/q.Op=3)&& !(aft l live k q.Dst.toNat)|none=>false
def deadQ (l:List gQuad)(live:List (List Bool))(k:Nat)(q:gQuad):Prop:=l[k]? =some q/\deadB l live k=false\/k<l.length/\deadB l live k=true/\q=⟨4,0,0,0,((k+1:Nat):Int)⟩
theorem dead_val {l:List gQuad}(hc:kH Z l)(live:List (List Bool)){k:Nat}(hk:k<l.length):oQ l[k] (F12 (aft l live k))=some (deadB l live k):=by
 unfold oQ deadB
 rw[List.getElem?_eq_getElem hk]
 dsimp only
 by_cases ho:l[k].Op=1\/l[k].Op=2\/l[k].Op=3
 .have hj:(if ieq l[k].Op 1=true then some (ieq l[k].Op 1) else if ieq l[k].Op 2=true then some (ieq l[k].Op 2) else some (ieq l[k].Op 3))=some true:=by
   rcases ho with h|h|h<;>simp[ieq,h]
  have hd:Rg l[k].Dst:=by
   rcases hc.2.1 _ (List.getElem_mem hk) with h|h|h|h|h|h|h|h|h|h
   case inl=>exact h.2.1
   case inr.inl=>exact h.2.1
   case inr.inr.inl=>exact h.2.1
   all_goals (have:=h.1;omega)
  obtain⟨j,hj12,e⟩:=rg_nat hd
  rw[hj,bS',if_pos rfl,e,F12_idx _ hj12,bS',decide_eq_true ho]
  rfl
 .have hj:(if ieq l[k].Op 1=true then some (ieq l[k].Op 1) else if ieq l[k].Op 2=true then some (ieq l[k].Op 2) else some (ieq l[k].Op 3))=some false:=by
   rw[if_neg (by rw[zP];omega),if_neg (by rw[zP];omega),ieq_d,decide_eq_false (by omega)]
  rw[hj,bS',if_neg (by simp),decide_eq_false ho]
  rfl
theorem Ok.dead {l:List gQuad}(hc:kH Z l):Ok (pJ l) (fun r=>r.2=true/\kH Z r.1/\∃live,hZ l=some live/\pW l.length live/\FixL l live/\r.1.length=l.length/\∀(k:Nat) (q:gQuad),r.1[k]? =some q->deadQ l live k q):=by
 unfold pJ
 have hl:=hc.1
 rw[kM hc,bS',if_neg (by simp[bnot])]
 obtain⟨live,hv,hr,hf⟩:=Ok.live hc
 rw[hv,bS']
 refine Ok.bind (P:=fun o=>o.length=l.length/\∀(k:Nat) (q:gQuad),o[k]? =some q->deadQ l live k q) ?_ fun o ho=>Ok.pure ⟨rfl,?_,live,rfl,hr,hf,ho.1,ho.2⟩
 .refine Ok.outs l.length _ (fun k hk o hl'=>?_) fun o hl'=>?_
  .unfold uT
   dsimp only
   rw[if_pos (by rw[zD,zF];omega),zV (List.getElem?_eq_getElem hk),bS',after_val hc hr hk,bS',dead_val hc live hk,bS',iadd1 (by omega)]
   cases hb:deadB l live k with
   |true=>
    rw[if_pos rfl,bS',app1 _ _ (by omega)]
    exact Ok.pure ⟨_,.inr ⟨hk,hb,rfl⟩,rfl⟩
   |false=>
    rw[if_neg (by simp),bS',app1 _ _ (by omega)]
    exact Ok.pure ⟨_,.inl ⟨List.getElem?_eq_getElem hk,hb⟩,rfl⟩
  .unfold uT
   dsimp only
   rw[if_neg (by rw[zD,zF];omega)]
 .refine dA hc ho.1 fun k q hq=>?_
  rcases ho.2 k q hq with⟨h1,_⟩|⟨hk,h2,rfl⟩
  .have hk:k<l.length:=(List.getElem?_eq_some_iff.1 h1).1
   rw[List.getElem?_eq_getElem hk] at h1
   cases h1
   exact⟨hc.2.1 _ (List.getElem_mem hk),fun h=>mO hc hk h⟩
  .have:k+1≠l.length:=by
    intro e
    have:=mO hc hk e
    unfold deadB at h2
    rw[List.getElem?_eq_getElem hk] at h2
    dsimp only at h2
    rw[Bool.and_eq_true,decide_eq_true_iff] at h2
    omega
   exact⟨.inr (.inr (.inr (.inl ⟨rfl,rfl,rfl,rfl,by dsimp only;omega⟩))),fun _=>.inr rfl⟩
end Go.Abs
