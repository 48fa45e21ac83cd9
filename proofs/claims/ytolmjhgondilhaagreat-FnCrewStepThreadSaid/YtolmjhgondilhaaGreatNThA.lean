/- Operators: the program and the reference compute the same. -/
import Derived.Test.YtolmjhgondilhaaGreatNOpV
import Derived.Test.YtolmjhgondilhaaGreatNOkF
set_option linter.unusedSimpArgs false
set_option linter.unusedVariables false
set_option maxHeartbeats 8000000
namespace Go.Abs
open Go

theorem wrap_eq (n:Int)(h: -9223372036854775808<=n/\n<=9223372036854775807):fV n=sL n:=by
 unfold fV sL
 have e:remx n 4294967296=some (n.tmod 4294967296):=by unfold remx;rw[if_neg (by omega)]
 rw[e,bS']
 have e2:iconv .i64 (iconv .i32 n)=(n+2147483648) % 4294967296-2147483648:=by
  unfold iconv;rw[IntKind.wrap_i32,wr64];omega
 rw[e2]
 have e3:n.tmod 4294967296=if 0<=n then n % 4294967296 else -((-n) % 4294967296):=by
  split
  .rename_i h0;exact Int.tmod_eq_emod_of_nonneg h0
  .rename_i h0
   have:n= -(-n):=by omega
   rw[this,Int.neg_tmod,Int.tmod_eq_emod_of_nonneg (by omega)]
   simp
 generalize n.tmod 4294967296=t at e3
 have hp:0<=n->t=n % 4294967296:=fun h=>by rw[e3,if_pos h]
 have hm:¬0<=n->t= -((-n) % 4294967296):=fun h=>by rw[e3,if_neg h]
 clear e3
 split
 .rename_i h0
  rw[jJ] at h0
  by_cases h2:0<=n
  .have:=hp h2
   rw[yI _ _ (by omega)];congr 1;omega
  .have:=hm h2
   rw[yI _ _ (by omega)];congr 1;omega
 .rename_i h0
  rw[jJ] at h0
  split
  .rename_i h1
   rw[zD] at h1
   by_cases h2:0<=n
   .have:=hp h2
    rw[zS _ _ (by omega)];congr 1;omega
   .have:=hm h2
    rw[zS _ _ (by omega)];congr 1;omega
  .rename_i h1
   rw[zD] at h1
   by_cases h2:0<=n
   .have:=hp h2
    congr 1;omega
   .have:=hm h2
    congr 1;omega
theorem wQ {O β:Type}{c:Prop}[Decidable c]{x y:Option β}{a b:Option O}{f:O->Option β}(h1:c->x=a.bind f)(h2:¬c->y=b.bind f):(if c then x else y)=(if c then a else b).bind f:=by
 by_cases h:c
 .rw[if_pos h,if_pos h];exact h1 h
 .rw[if_neg h,if_neg h];exact h2 h
theorem apply_eq {op a b:Int}(h:1<=op/\op<=12)(ha:Wd a)(hb:Wd b):∃v,nU op a b=some v/\sY op a b=some (v,true)/\Wd v:=by
 obtain⟨⟨v,t⟩,hv,h1,h2⟩:=Ok.apply h ha hb
 simp only at h1 h2
 subst h1
 suffices hs:sY op a b=(nU op a b).bind fun v=>some (v,true) by
  rw[hv] at hs
  cases hi:nU op a b with
  |none=>rw[hi] at hs;cases hs
  |some u=>rw[hi] at hs;cases hs;exact⟨v,rfl,hv,h2⟩
 clear hv h2
 obtain⟨s0,s1⟩:=and31 b hb
 unfold sY nU qY pA qZ hY i_truth
 rw[gZ,bS',decide_eq_true h]
 simp only[pX,bS',if_or,decide_eq_true ha,decide_eq_true hb]
 rw[if_neg (by simp[bnot])]
 refine wQ (fun _=>rfl) fun _=>wQ (fun _=>rfl) fun _=>wQ (fun _=>rfl) fun _=>wQ (fun _=>?_) fun _=>wQ (fun _=>?_) fun _=>wQ (fun _=>?_) fun _=>wQ (fun _=>?_) fun _=>wQ (fun _=>?_) fun _=>wQ (fun _=>?_) fun _=>wQ (fun _=>?_) fun _=>wQ (fun _=>?_) fun _=>?_
 .cases ieq a b<;>rfl
 .cases ilt a b<;>rfl
 .rw[if_neg (by simp)]
  have e:∃v,shlx .i64 a (iand .i64 b 31)=some v/\ -9223372036854775808<=v/\v<=9223372036854775807:=by
   unfold shlx;rw[if_neg (by omega)];exact⟨_,rfl,by rw[IntKind.wrap_i64];omega⟩
  obtain⟨v,e,hv⟩:=e
  simp only[e,bS',yF,wrap_eq v hv]
 .rw[if_pos trivial]
 .simp only[yF,wrap_eq _ (iadd_r _ _)]
 .simp only[yF,wrap_eq _ (isub_r _ _)]
 .simp only[yF,wrap_eq _ (imul_r _ _)]
 .by_cases hz:ieq b 0=true
  .simp only[if_pos hz,bS']
  .have e:∃v,quox .i64 a b=some v/\ -9223372036854775808<=v/\v<=9223372036854775807:=by
    rw[zP] at hz
    unfold quox;rw[if_neg hz];exact⟨_,rfl,by rw[IntKind.wrap_i64];omega⟩
   obtain⟨v,e,hv⟩:=e
   simp only[if_neg hz,e,bS',yF,wrap_eq v hv]
 .by_cases hz:ieq b 0=true
  .simp only[if_pos hz,bS']
  .simp only[if_neg hz,yF]
end Go.Abs

/- Mailboxes: checked, copied, put into and taken from alike on both sides. -/
set_option linter.unusedSimpArgs false
set_option linter.unusedVariables false
set_option maxHeartbeats 8000000
namespace Go.Abs
open Go

theorem uY {O E:Type}{step:Int->Option (Flow Int E)}(l:List O)(W:O->Bool)(e0 e1:E)(h:∀k (hk:k<l.length),step (k:Int)=some (if W l[k]=true then .next ((k+1:Nat):Int) else .done e1))(hd:step (l.length:Int)=some (.done e0)):
  loopM step 0=some (if l.all W=true then e0 else e1):=by
 have key:∀m k,k+m=l.length->loopM step (k:Int)=some (if(l.drop k).all W=true then e0 else e1):=by
  intro m
  induction m with
  |zero=>
   intro k hk
   obtain rfl:k=l.length:=by omega
   rw[List.drop_length]
   exact jR hd
  |succ m ih=>
   intro k hk
   have hlt:k<l.length:=by omega
   rw[List.drop_eq_getElem_cons hlt,List.all_cons]
   by_cases hw:W l[k]=true
   .rw[pP (by rw[h k hlt,if_pos hw]),ih (k+1) (by omega),hw,Bool.true_and]
   .rw[jR (by rw[h k hlt,if_neg hw])]
    rw[if_neg (by simp[hw])]
 have:=key l.length 0 (by omega)
 simpa using this

/-! words -/
def isW (x:Int):Bool:=decide (-2147483648<=x)&&decide (x<=2147483647)
theorem mE (x:Int):kV x=some (isW x):=by
 unfold kV kW
 simp only[jK,bS',yF]
 rfl
theorem i_WordValid_val (x:Int):xO x=some (isW x):=by
 unfold xO
 simp only[jK,bS',yF]
 rfl
theorem sZ (l:List Int)(hl:l.length<=maxLen):vG l=some (l.all isW):=by
 unfold vG
 unfold maxLen at hl
 have:=uY (step:=wT l) l isW (.inl ()) (.inr false) (fun k hk=>?_) ?_
 .rw[this];cases l.all isW<;>rfl
 .unfold wT
  dsimp only
  rw[if_pos (by rw[zD];unfold ilen;omega),zV (List.getElem?_eq_getElem hk)]
  simp only[bS',i_WordValid_val]
  rw[zS _ _ (by omega)]
  cases isW l[k]<;>rfl
 .unfold wT
  dsimp only
  rw[if_neg (by rw[zD];unfold ilen;omega)]
theorem nC (l:List Int)(n:Int)(hl:l.length<=maxLen):tL l n=some (decide ((l.length:Int)=n)&&l.all isW):=by
 unfold tL
 unfold maxLen at hl
 by_cases hn:(l.length:Int)=n
 .rw[if_neg (by rw[wS];simpa [ilen] using hn)]
  have:=uY (step:=vP l) l isW (.inl ()) (.inr false) (fun k hk=>?_) ?_
  .rw[this];simp only[hn,decide_true,Bool.true_and]
   cases l.all isW<;>rfl
  .unfold vP
   dsimp only
   rw[if_pos (by rw[zD];unfold ilen;omega),zV (List.getElem?_eq_getElem hk)]
   simp only[bS',mE]
   rw[zS _ _ (by omega)]
   cases isW l[k]<;>rfl
  .unfold vP
   dsimp only
   rw[if_neg (by rw[zD];unfold ilen;omega)]
 .rw[if_pos (by rw[wS];simpa [ilen] using hn)]
  simp[hn]
theorem uI (l:List Int)(hl:l.length<=4000000):appx 8 ([]:List Int) l=some l:=by
 rw[kS 8 [] l (by simp;unfold maxLen;omega)];rfl
theorem clone_id (l:List Int)(hl:l.length<=4000000):yJ l=some l:=by
 unfold yJ
 rw[if_neg (by decide),uI l hl];rfl
def isBox (b:gBox):Bool:=(decide (1<=b.Room)&&decide (b.Room<=4))&&decide ((b.Items.length:Int)<=b.Room)&&b.Items.all isW
theorem sX (b:gBox)(hl:b.Items.length<=maxLen):vB b=some (isBox b):=by
 unfold vB kW
 rw[nC _ _ hl]
 simp only[jK,bS',yF,isBox,ilen,ige,ile,ge_iff_le,decide_true,Bool.true_and]
 rfl
theorem i_BoxValid_val (b:gBox)(hl:b.Items.length<=maxLen):pV b=some (isBox b):=by
 unfold pV
 rw[sZ _ hl]
 simp only[jK,bS',yF,isBox,ilen,ige,ile,ge_iff_le]
 rfl
def yM (l:List gBox):Bool:=l.all isBox&&decide (l.length<=3)
theorem s_l15Boxes_val (l:List gBox)(hl:l.length<=4000000)(hi:∀b∈l,b.Items.length<=4000000):pE l=some (yM l):=by
 unfold pE
 have:=uY (step:=wG l) l isBox (.inl ()) (.inr false) (fun k hk=>?_) ?_
 .rw[this]
  unfold yM
  have e:ile (ilen l) 3=decide (l.length<=3):=by rw[Bool.eq_iff_iff,dV];unfold ilen;simp;omega
  cases l.all isBox<;>simp[e]
 .unfold wG
  dsimp only
  rw[if_pos (by rw[zD];unfold ilen;omega),zV (List.getElem?_eq_getElem hk)]
  simp only[bS',sX l[k] (by have:=hi l[k] (List.getElem_mem hk);unfold maxLen;omega)]
  rw[zS _ _ (by omega)]
  cases isBox l[k]<;>rfl
 .unfold wG
  dsimp only
  rw[if_neg (by rw[zD];unfold ilen;omega)]
theorem oC (l:List gBox)(hl:l.length<=4000000)(hi:∀b∈l,b.Items.length<=4000000):xT l=some (yM l):=by
 unfold xT
 have:=uY (step:=jL l) l isBox (.inl ()) (.inr false) (fun k hk=>?_) ?_
 .rw[this]
  unfold yM
  have e:ile (ilen l) 3=decide (l.length<=3):=by rw[Bool.eq_iff_iff,dV];unfold ilen;simp;omega
  cases l.all isBox<;>simp[e]
 .unfold jL
  dsimp only
  rw[if_pos (by rw[zD];unfold ilen;omega),zV (List.getElem?_eq_getElem hk)]
  simp only[bS',i_BoxValid_val l[k] (by have:=hi l[k] (List.getElem_mem hk);unfold maxLen;omega)]
  rw[zS _ _ (by omega)]
  cases isBox l[k]<;>rfl
 .unfold jL
  dsimp only
  rw[if_neg (by rw[zD];unfold ilen;omega)]

theorem pD (l:List gBox)(hl:l.length<=4000000)(hi:∀b∈l,b.Items.length<=4000000):kL l=some l:=by
 unfold kL
 have:=yC (step:=yK l) (s0:=((0:Int),([]:List gBox))) l.length (fun k=>((k:Int),l.take k)) l (by simp) (fun k hk=>?_) ?_
 .rw[this];rfl
 .unfold yK
  dsimp only
  rw[if_pos (by rw[zD];unfold ilen;omega),zV (List.getElem?_eq_getElem hk)]
  rw[bS',uI _ (hi _ (List.getElem_mem hk)),bS',kS 32 _ _ (by simp;unfold maxLen;omega),bS',zS _ _ (by omega),List.take_add_one,List.getElem?_eq_getElem hk]
  rfl
 .unfold yK
  dsimp only
  rw[if_neg (by rw[zD];unfold ilen;omega)]
  simp
theorem gL (l:List gBox)(hl:l.length<=4000000)(hi:∀b∈l,b.Items.length<=4000000):fB l=some l:=by
 unfold fB
 have:=yC (step:=vL l) (s0:=((0:Int),([]:List gBox))) l.length (fun k=>((k:Int),l.take k)) l (by simp) (fun k hk=>?_) ?_
 .rw[this];rfl
 .unfold vL
  dsimp only
  rw[if_pos (by rw[zD];unfold ilen;omega),zV (List.getElem?_eq_getElem hk)]
  rw[bS',clone_id _ (hi _ (List.getElem_mem hk)),bS',kS 32 _ _ (by simp;unfold maxLen;omega),bS',zS _ _ (by omega),List.take_add_one,List.getElem?_eq_getElem hk]
  rfl
 .unfold vL
  dsimp only
  rw[if_neg (by rw[zD];unfold ilen;omega)]
  simp

/-! the call -/
theorem pY {O:Type}{l:List O}{i:Int}{x:O}(y:O)(h:idx l i=some x):setx l i y=some (l.set i.toNat y):=by
 obtain⟨h0,h1,h2⟩:=zG h
 rw[setx_iff]
 exact⟨⟨h0,h1⟩,rfl⟩
theorem tY (b:gBox):isBox b=true<->(1<=b.Room/\b.Room<=4)/\(b.Items.length:Int)<=b.Room/\b.Items.all isW=true:=by
 simp[isBox,and_assoc]
theorem put_eq (b:gBox)(x:Int)(hb:isBox b=true)(hx:isW x=true):∃ok b',mS b x=some (ok,b')/\(ok=false->b'=b)/\(ok=true->b'=⟨b.Room,b.Items++[x]⟩)/\(ok=true<->(b.Items.length:Int)<b.Room)/\∃b2,fR b x=some (b2,ok)/\(ok=true->b2=b')/\(ok=false->b2=⟨0,[]⟩):=by
 obtain⟨⟨h1,h2⟩,h3,h4⟩:=(tY b).1 hb
 unfold mS fR
 rw[sX b (by unfold maxLen;omega),hb,mE,hx]
 have e1:(if bnot true=true then some true else(some true).bind fun r2=>some (bnot r2))=some false:=rfl
 simp only[bS',e1,if_or,Bool.false_or,show bnot true=false from rfl]
 by_cases hf:(b.Items.length:Int)=b.Room
 .rw[if_pos (by rw[zP];exact hf),if_pos (by rw[mR];unfold ilen;omega)]
  exact⟨false,b,rfl,fun _=>rfl,fun h=>(by cases h),by simp;omega,_,rfl,fun h=>(by cases h),fun _=>rfl⟩
 .rw[if_neg (by rw[zP];exact hf),if_neg (by rw[mR];unfold ilen;omega)]
  rw[kS 8 b.Items [x] (by simp;unfold maxLen;omega),uI _ (by omega)]
  rw[bS',bS',kS 8 b.Items [x] (by simp;unfold maxLen;omega),bS']
  exact⟨true,_,rfl,fun h=>(by cases h),fun _=>rfl,by simp;omega,_,rfl,fun _=>rfl,fun h=>(by cases h)⟩
theorem take_eq (b:gBox)(hb:isBox b=true):∃v ok b',pU b=some (v,ok,b')/\(ok=false->b'=b)/\(ok=true<->b.Items≠[])/\(ok=true->∃t,b.Items=v::t/\b'=⟨b.Room,t⟩)/\∃b2 v2,mJ b=some (b2,v2,ok)/\(ok=true->b2=b'/\v2=v):=by
 obtain⟨⟨h1,h2⟩,h3,h4⟩:=(tY b).1 hb
 unfold pU mJ
 rw[sX b (by unfold maxLen;omega),hb]
 simp only[bS',if_or,show bnot true=false from rfl,Bool.false_or]
 obtain⟨R,I⟩:=b
 simp only at h1 h2 h3 h4 ⊢
 cases I with
 |nil=>
  rw[if_pos (by rfl),if_pos (by rfl)]
  exact⟨0,false,_,rfl,fun _=>rfl,by simp,fun h=>(by cases h),_,_,rfl,fun h=>(by cases h)⟩
 |cons v t=>
  have hn:¬ieq (ilen (v::t)) 0=true:=by rw[zP];simp[ilen];omega
  simp only[List.length_cons] at h3
  rw[if_neg hn,if_neg hn]
  have c0:cutx (v::t) 0 0=some []:=by rw[cutx_iff];exact⟨⟨by omega,by omega,by simp;omega⟩,rfl⟩
  have c1:cutx (v::t) 1 (ilen (v::t))=some t:=by rw[cutx_iff];exact⟨⟨by omega,by simp[ilen];omega,by simp[ilen]⟩,by simp[ilen]⟩
  have i0:idx (v::t) 0=some v:=zV (k:=0) rfl
  simp only[i0,c0,c1,bS',uI t (by omega)]
  exact⟨v,true,_,rfl,fun h=>(by cases h),by simp,fun _=>⟨t,rfl,rfl⟩,_,_,rfl,fun _=>⟨rfl,rfl⟩⟩
end Go.Abs

/- A step of a thread: what it computes, and what it keeps. -/
set_option linter.unusedSimpArgs false
set_option linter.unusedVariables false
set_option maxHeartbeats 8000000
namespace Go.Abs
open Go

theorem setSelf {O:Type}{l:List O}{k:Nat}{x:O}(h:l[k]? =some x):l.set k x=l:=by
 obtain⟨hk,rfl⟩:=List.getElem?_eq_some_iff.1 h
 exact List.set_getElem_self hk
theorem fA (x:Int):isW x=true<->Wd x:=by simp[isW,Wd]
def rgv (t:gThread)(r:Int):Int:=(t.Regs[r.toNat]?).getD 0
noncomputable def apv (op a b:Int):Int:=(nU op a b).getD 0
noncomputable def thrP (q:gQuad)(t:gThread)(bx:List gBox):gThread×List gBox×List Int×Int:=
 if q.Op=1 then(⟨t.Regs.set q.Dst.toNat q.N,t.Pc+1⟩,bx,[],1)
 else if q.Op=2 then(⟨t.Regs.set q.Dst.toNat (rgv t q.A),t.Pc+1⟩,bx,[],1)
 else if q.Op=3 then(⟨t.Regs.set q.Dst.toNat (apv q.N (rgv t q.A) (rgv t q.B)),t.Pc+1⟩,bx,[],1)
 else if q.Op=4 then(⟨t.Regs,q.N⟩,bx,[],1)
 else if q.Op=5 then(⟨t.Regs,if rgv t q.A=0 then q.N else t.Pc+1⟩,bx,[],1)
 else if q.Op=6 then
  match bx[q.N.toNat]? with
  |some b=>if(b.Items.length:Int)<b.Room then(⟨t.Regs,t.Pc+1⟩,bx.set q.N.toNat ⟨b.Room,b.Items++[rgv t q.A]⟩,[],1) else(t,bx,[],3)
  |none=>(t,bx,[],3)
 else if q.Op=7 then
  match bx[q.N.toNat]? with
  |some ⟨r,x::l⟩=>(⟨t.Regs.set q.Dst.toNat x,t.Pc+1⟩,bx.set q.N.toNat ⟨r,l⟩,[],1)
  |_=>(t,bx,[],3)
 else if q.Op=8 then(⟨t.Regs,t.Pc+1⟩,bx,[],2)
 else if q.Op=9 then(⟨t.Regs,t.Pc+1⟩,bx,[rgv t q.A],1)
 else(t,bx,[],4)
def Fit (t:gThread)(n:Nat):Prop:=t.Regs.length=12/\(∀x∈t.Regs,Wd x)/\0<=t.Pc/\t.Pc<n
structure Can (l:List gQuad) (t:gThread) (bx:List gBox) (q:gQuad):Prop where
 code:kH false l
 fit:Fit t l.length
 box:yM bx=true
 at':l[t.Pc.toNat]? =some q
 talk:q.Op=6\/q.Op=7->q.N<bx.length
section
variable {l:List gQuad} {t:gThread} {bx:List gBox} {q:gQuad}
theorem Can.mem (h:Can l t bx q):q∈l:=List.mem_of_getElem? h.at'
theorem Can.qv (h:Can l t bx q):QV false q l.length:=h.code.2.1 q h.mem
theorem yH {n:Nat}(hf:Fit t n){r:Int}(hr:Rg r):t.Regs[r.toNat]? =some (rgv t r)/\Wd (rgv t r)/\idx t.Regs r=some (rgv t r):=by
 obtain⟨h1,h2,_⟩:=hf
 have hl:r.toNat<t.Regs.length:=by unfold Rg at hr;omega
 have e:t.Regs[r.toNat]? =some (rgv t r):=by unfold rgv;rw[List.getElem?_eq_getElem hl];rfl
 refine⟨e,h2 _ (List.mem_of_getElem? e),?_⟩
 have:=zV e
 rwa [Int.toNat_of_nonneg hr.1] at this
theorem apv_at {op a b:Int}(h:1<=op/\op<=12)(ha:Wd a)(hb:Wd b):nU op a b=some (apv op a b)/\sY op a b=some (apv op a b,true)/\Wd (apv op a b):=by
 obtain⟨v,h1,h2,h3⟩:=apply_eq h ha hb
 have e:apv op a b=v:=by unfold apv;rw[h1];rfl
 rw[e];exact⟨h1,h2,h3⟩
theorem Can.next (h:Can l t bx q)(h4:q.Op≠4)(h10:q.Op≠10):t.Pc+1<l.length:=by
 obtain⟨_,_,h0,h1⟩:=h.fit
 rcases Int.lt_or_le (t.Pc+1) l.length with hx|hx
 .exact hx
 have e:t.Pc.toNat=l.length-1:=by omega
 have ha:=h.at'
 rw[e] at ha
 rcases h.code.2.2 q ha with hh|hh
 .exact absurd hh h10
 .exact absurd hh h4
theorem Fit.set {n:Nat}(hf:Fit t n){r x pc:Int}(hx:Wd x)(h0:0<=pc)(h1:pc<n):Fit ⟨t.Regs.set r.toNat x,pc⟩ n:=by
 refine⟨by simp[hf.1],fun y hy=>?_,h0,h1⟩
 rcases List.mem_or_eq_of_mem_set hy with hy|rfl
 .exact hf.2.1 y hy
 .exact hx
theorem Fit.go {n:Nat}(hf:Fit t n){pc:Int}(h0:0<=pc)(h1:pc<n):Fit ⟨t.Regs,pc⟩ n:=⟨hf.1,hf.2.1,h0,h1⟩
theorem box_mem (hb:yM bx=true){b:gBox}(h:b∈bx):isBox b=true:=by
 simp only[yM,Bool.and_eq_true,List.all_eq_true] at hb
 exact hb.1 b h
theorem isBoxes_iff:yM bx=true<->(∀b∈bx,isBox b=true)/\bx.length<=3:=by
 simp[yM]
theorem box_set (hb:yM bx=true){b:gBox}(h:isBox b=true)(k:Nat):yM (bx.set k b)=true:=by
 rw[isBoxes_iff] at*
 refine⟨fun x hx=>?_,by simp[hb.2]⟩
 rcases List.mem_or_eq_of_mem_set hx with hx|rfl
 .exact hb.1 x hx
 .exact h
theorem Can.cases (h:Can l t bx q){P:gThread×List gBox×List Int×Int->Prop}
  (c1:q.Op=1->Rg q.Dst->Wd q.N->P (⟨t.Regs.set q.Dst.toNat q.N,t.Pc+1⟩,bx,[],1))
  (c2:q.Op=2->Rg q.Dst->Rg q.A->P (⟨t.Regs.set q.Dst.toNat (rgv t q.A),t.Pc+1⟩,bx,[],1))
  (c3:q.Op=3->Rg q.Dst->Rg q.A->Rg q.B->(1<=q.N/\q.N<=12)->P (⟨t.Regs.set q.Dst.toNat (apv q.N (rgv t q.A) (rgv t q.B)),t.Pc+1⟩,bx,[],1))
  (c4:q.Op=4->0<=q.N->q.N<l.length->P (⟨t.Regs,q.N⟩,bx,[],1))
  (c5:q.Op=5->Rg q.A->0<=q.N->q.N<l.length->P (⟨t.Regs,if rgv t q.A=0 then q.N else t.Pc+1⟩,bx,[],1))
  (c6:q.Op=6->Rg q.A->0<=q.N->∀b,bx[q.N.toNat]? =some b->isBox b=true->P (if(b.Items.length:Int)<b.Room then(⟨t.Regs,t.Pc+1⟩,bx.set q.N.toNat ⟨b.Room,b.Items++[rgv t q.A]⟩,[],1) else(t,bx,[],3)))
  (c7:q.Op=7->Rg q.Dst->0<=q.N->∀r x s,bx[q.N.toNat]? =some ⟨r,x::s⟩->isBox ⟨r,x::s⟩=true->P (⟨t.Regs.set q.Dst.toNat x,t.Pc+1⟩,bx.set q.N.toNat ⟨r,s⟩,[],1))
  (c7':q.Op=7->Rg q.Dst->0<=q.N->∀r,bx[q.N.toNat]? =some ⟨r,[]⟩->isBox ⟨r,[]⟩=true->P (t,bx,[],3))
  (c8:q.Op=8->P (⟨t.Regs,t.Pc+1⟩,bx,[],2))
  (c9:q.Op=9->Rg q.A->P (⟨t.Regs,t.Pc+1⟩,bx,[rgv t q.A],1))
  (c10:q.Op=10->P (t,bx,[],4)):P (thrP q t bx):=by
 unfold thrP
 have hb:=h.box
 rcases h.qv with k|k|k|k|k|k|k|k|k|k
 .rw[if_pos k.1];exact c1 k.1 k.2.1 k.2.2.2.2
 .rw[if_neg (by rw[k.1];decide),if_pos k.1];exact c2 k.1 k.2.1 k.2.2.1
 .rw[if_neg (by rw[k.1];decide),if_neg (by rw[k.1];decide),if_pos k.1];exact c3 k.1 k.2.1 k.2.2.1 k.2.2.2.1 k.2.2.2.2
 .simp only[k.1];exact c4 k.1 k.2.2.2.2.1 k.2.2.2.2.2
 .simp only[k.1];exact c5 k.1 k.2.2.1 k.2.2.2.2.1 k.2.2.2.2.2
 .have ht:=h.talk (.inl k.1)
  have h0:=k.2.2.2.2.1
  have hlt:q.N.toNat<bx.length:=by omega
  have hm:=List.getElem?_eq_getElem hlt
  simp only[k.1,hm]
  exact c6 k.1 k.2.2.1 h0 _ hm (box_mem hb (List.getElem_mem hlt))
 .have ht:=h.talk (.inr k.1)
  have h0:=k.2.2.2.2.1
  have hlt:q.N.toNat<bx.length:=by omega
  have hm:=List.getElem?_eq_getElem hlt
  have hv:=box_mem hb (List.getElem_mem hlt)
  generalize bx[q.N.toNat]=b at hm hv
  obtain⟨r,it⟩:=b
  cases it with
  |nil=>simp only[k.1,hm];exact c7' k.1 k.2.1 h0 r hm hv
  |cons x s=>simp only[k.1,hm];exact c7 k.1 k.2.1 h0 r x s hm hv
 .simp only[k.1];exact c8 k.1
 .simp only[k.1];exact c9 k.1 k.2.2.1
 .simp only[k.1];exact c10 k.1
theorem Can.keeps (h:Can l t bx q):Fit (thrP q t bx).1 l.length/\yM (thrP q t bx).2.1=true/\(thrP q t bx).2.1.map gBox.Room=bx.map gBox.Room:=by
 have hf:=h.fit
 have hb:=h.box
 have p0:=hf.2.2.1
 refine h.cases (P:=fun r=>Fit r.1 l.length/\yM r.2.1=true/\r.2.1.map gBox.Room=bx.map gBox.Room) ?_ ?_ ?_ ?_ ?_ ?_ ?_ ?_ ?_ ?_ ?_
 .intro k1 k2 k3
  have:=h.next (by rw[k1];decide) (by rw[k1];decide)
  exact⟨hf.set k3 (by omega) this,hb,rfl⟩
 .intro k1 k2 k3
  have:=h.next (by rw[k1];decide) (by rw[k1];decide)
  exact⟨hf.set (yH hf k3).2.1 (by omega) this,hb,rfl⟩
 .intro k1 k2 k3 k4 k5
  have:=h.next (by rw[k1];decide) (by rw[k1];decide)
  exact⟨hf.set (apv_at k5 (yH hf k3).2.1 (yH hf k4).2.1).2.2 (by omega) this,hb,rfl⟩
 .intro k1 k2 k3
  exact⟨hf.go k2 k3,hb,rfl⟩
 .intro k1 k2 k3 k4
  have:=h.next (by rw[k1];decide) (by rw[k1];decide)
  refine⟨hf.go ?_ ?_,hb,rfl⟩<;>split<;>omega
 .intro k1 k2 k3 b k4 k5
  have:=h.next (by rw[k1];decide) (by rw[k1];decide)
  split
  .rename_i hr
   refine⟨hf.go (by omega) this,box_set hb ?_ _,?_⟩
   .rw[tY] at*
    refine⟨k5.1,by simp;omega,?_⟩
    rw[List.all_append,k5.2.2]
    simp[fA,(yH hf k2).2.1]
   .rw[List.map_set]
    refine setSelf ?_
    simp[k4]
  .exact⟨hf,hb,rfl⟩
 .intro k1 k2 k3 r x s k4 k5
  have:=h.next (by rw[k1];decide) (by rw[k1];decide)
  rw[tY] at k5
  obtain⟨m1,m2,m3⟩:=k5
  simp only[List.all_cons,Bool.and_eq_true,fA] at m3
  refine⟨hf.set m3.1 (by omega) this,box_set hb ?_ _,?_⟩
  .rw[tY]
   simp only[List.length_cons] at m2
   exact⟨m1,by simp only;omega,m3.2⟩
  .rw[List.map_set]
   refine setSelf ?_
   simp[k4]
 .intro _ _ _ _ _ _
  exact⟨hf,hb,rfl⟩
 .intro k1
  have:=h.next (by rw[k1];decide) (by rw[k1];decide)
  exact⟨hf.go (by omega) this,hb,rfl⟩
 .intro k1 k2
  have:=h.next (by rw[k1];decide) (by rw[k1];decide)
  exact⟨hf.go (by omega) this,hb,rfl⟩
 .intro _
  exact⟨hf,hb,rfl⟩
end
end Go.Abs
