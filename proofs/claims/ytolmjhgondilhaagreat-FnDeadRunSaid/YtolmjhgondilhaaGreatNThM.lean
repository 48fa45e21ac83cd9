/- A step of a thread: the program and the reference compute it alike. -/
import Derived.Test.YtolmjhgondilhaaGreatNThA
set_option linter.unusedSimpArgs false
set_option linter.unusedVariables false
set_option maxHeartbeats 8000000
namespace Go.Abs
open Go

theorem quadValid_eq (q:gQuad)(n:Int):pY q n=jO q n:=by
 obtain⟨op,d,a,b,m⟩:=q
 unfold pY jO
 simp only[i_isReg,wX,i_OpValid,yU,nH,yH,uA,yL,if_true,Bool.false_eq_true,if_false,yS,jQ,if_or,bS']
 simp only[ieq,eqD,gQuad.mk.injEq,ige,ile,ilt]
 by_cases h1:op=1
 .subst h1;simp;rw[Bool.eq_iff_iff];simp;omega
 by_cases h2:op=2
 .subst h2;simp;rw[Bool.eq_iff_iff];simp;omega
 by_cases h3:op=3
 .subst h3;simp;rw[Bool.eq_iff_iff];simp;omega
 by_cases h4:op=4
 .subst h4;simp;rw[Bool.eq_iff_iff];simp;omega
 by_cases h5:op=5
 .subst h5;simp;rw[Bool.eq_iff_iff];simp;omega
 by_cases h6:op=6
 .subst h6;simp;rw[Bool.eq_iff_iff];simp;omega
 by_cases h7:op=7
 .subst h7;simp;rw[Bool.eq_iff_iff];simp;omega
 by_cases h9:op=9
 .subst h9;simp;rw[Bool.eq_iff_iff];simp;omega
 by_cases h8:op=8
 .subst h8;simp;rw[Bool.eq_iff_iff];simp;omega
 by_cases h10:op=10
 .subst h10;simp;rw[Bool.eq_iff_iff];simp;omega
 have e10:(op==10)=false:=by simpa using h10
 simp[h1,h2,h3,h4,h5,h6,h7,h8,h9,h10,e10]

theorem dD (l:List gQuad):wY l=kI l:=by
 have hL:tM l=yF l:=by
  funext s
  unfold tM yF
  simp only[quadValid_eq]
 unfold wY kI
 simp only[hL,yL,yS,jQ,if_or,bS']
 have e:(ilt (ilen l) 1||igt (ilen l) 600)=bnot (ige (ilen l) 1&&ile (ilen l) 600):=by
  rw[Bool.eq_iff_iff];simp[ilt,igt,ige,ile,bnot]
 rw[e]

theorem boxesCopy_o_eq:tK=i_boxesCopy:=rfl
theorem l15BoxesCopy_o_eq:kY=kD:=rfl
theorem clone_o_eq:kS=kN:=rfl
theorem ieq_t {a b:Int}(h:a=b):ieq a b=true:=(zO _ _).2 h
section
variable {l:List gQuad} {t:gThread} {bx:List gBox} {q:gQuad}
theorem Can.idx (h:Can l t bx q):idx l t.Pc=some q:=by
 have:=zU h.at'
 rwa [Int.toNat_of_nonneg h.fit.2.2.1] at this
theorem Can.len (h:Can l t bx q):l.length<=600:=h.code.1.2
theorem Can.pc (h:Can l t bx q):iadd .i64 t.Pc 1=t.Pc+1:=by
 have h1:=h.fit.2.2.1
 have h2:=h.fit.2.2.2
 have h3:=h.len
 exact zV _ _ (by omega)
theorem Can.set (h:Can l t bx q){r:Int}(hr:Rg r)(x:Int):setx t.Regs r x=some (t.Regs.set r.toNat x):=sN x (yW h.fit hr).2.2
theorem box_len (hb:jC bx=true):bx.length<=3:=(isBoxes_iff.1 hb).2
theorem box_items (hb:jC bx=true):∀b∈bx,b.Items.length<=4:=fun b h=>by
 obtain⟨⟨h1,h2⟩,h3,_⟩:=(pU b).1 (box_mem hb h)
 omega
theorem dE {n:Int}{b:gBox}(h0:0<=n)(h:bx[n.toNat]? =some b):idx bx n=some b:=by
 have:=zU h
 rwa [Int.toNat_of_nonneg h0] at this
theorem set_self {O:Type}{l:List O}{k:Nat}{x:O}(h:l[k]? =some x):l.set k x=l:=setSelf h

theorem thread_step (h:Can l t bx q){o:List Int}(ho:o.length<=1000000):uP t l bx o=some ((thrP q t bx).2.2.2,(thrP q t bx).1,(thrP q t bx).2.1,o++(thrP q t bx).2.2.1):=by
 have hf:=h.fit
 unfold uP
 rw[h.idx,bS',h.pc]
 refine h.cases (P:=fun r=>_=some (r.2.2.2,r.1,r.2.1,o++r.2.2.1)) ?_ ?_ ?_ ?_ ?_ ?_ ?_ ?_ ?_ ?_ ?_
 .intro k1 k2 k3
  rw[if_pos (ieq_t k1),(yW hf k2).2.2,bS',h.set k2]
  simp
 .intro k1 k2 k3
  simp only[ieq_d,Int.reduceEq,decide_false,decide_true,if_true,Bool.false_eq_true,if_false,bS',k1,(yW hf k2).2.2,(yW hf k3).2.2,h.set k2,List.append_nil]
 .intro k1 k2 k3 k4 k5
  simp only[ieq_d,Int.reduceEq,decide_false,decide_true,if_true,Bool.false_eq_true,if_false,bS',k1,(yW hf k2).2.2,(yW hf k3).2.2,(yW hf k4).2.2,(apv_at k5 (yW hf k3).2.1 (yW hf k4).2.1).1,h.set k2,List.append_nil]
 .intro k1 k2 k3
  simp only[ieq_d,Int.reduceEq,decide_false,decide_true,if_true,Bool.false_eq_true,if_false,bS',k1,List.append_nil]
 .intro k1 k2 k3 k4
  simp only[ieq_d,Int.reduceEq,decide_false,decide_true,if_true,Bool.false_eq_true,if_false,bS',k1,(yW hf k2).2.2,List.append_nil]
  by_cases hz:rgv t q.A=0
  .simp[hz]
  .simp[hz]
 .intro k1 k2 k3 b k4 k5
  obtain⟨ok,b',e1,e2,e3,e4,_⟩:=put_eq b (rgv t q.A) k5 ((isW_iff _).2 (yW hf k2).2.1)
  simp only[ieq_d,Int.reduceEq,decide_false,decide_true,if_true,Bool.false_eq_true,if_false,bS',k1,(yW hf k2).2.2,dE k3 k4,e1,sN b' (dE k3 k4),List.append_nil]
  cases ok
  .rw[if_pos (by rfl),if_neg (by intro hc;have:=e4.2 hc;cases this),e2 rfl,set_self k4]
   simp
  .rw[if_neg (by simp[bnot]),if_pos (e4.1 rfl),e3 rfl]
   simp
 .intro k1 k2 k3 r x s k4 k5
  obtain⟨v,ok,b',e1,e2,e3,e4,_⟩:=take_eq ⟨r,x::s⟩ k5
  obtain rfl:ok=true:=e3.2 (by simp)
  obtain⟨u,e5,e6⟩:=e4 rfl
  cases e5
  simp only[ieq_d,Int.reduceEq,decide_false,decide_true,if_true,Bool.false_eq_true,if_false,bS',k1,dE k3 k4,e1,sN b' (dE k3 k4),List.append_nil]
  rw[if_neg (by simp[bnot]),(yW hf k2).2.2,bS',h.set k2,e6]
  rfl
 .intro k1 k2 k3 r k4 k5
  obtain⟨v,ok,b',e1,e2,e3,e4,_⟩:=take_eq ⟨r,[]⟩ k5
  have hok:ok=false:=by
   cases ok
   .rfl
   .exact absurd rfl (e3.1 rfl)
  subst hok
  simp only[ieq_d,Int.reduceEq,decide_false,decide_true,if_true,Bool.false_eq_true,if_false,bS',k1,dE k3 k4,e1,sN b' (dE k3 k4),List.append_nil]
  rw[if_pos (by rfl),e2 rfl,set_self k4]
  rfl
 .intro k1
  simp only[ieq_d,Int.reduceEq,decide_false,decide_true,if_true,Bool.false_eq_true,if_false,bS',k1,List.append_nil]
 .intro k1 k2
  simp only[ieq_d,Int.reduceEq,decide_false,decide_true,if_true,Bool.false_eq_true,if_false,bS',k1,(yW hf k2).2.2]
  rw[kV 8 _ _ (by simp;unfold maxLen;omega)]
  rfl
 .intro k1
  simp only[ieq_d,Int.reduceEq,decide_false,decide_true,if_true,Bool.false_eq_true,if_false,bS',k1,List.append_nil]

theorem go_val {n:Nat}(hf:Fit t n)(pc:Int):jJ t pc=some ⟨t.Regs,pc⟩:=by
 unfold jJ
 rw[sM _ (by have:=hf.1;omega)]
 rfl
theorem set_val (h:Can l t bx q){r:Int}(hr:Rg r)(x pc:Int):wS t r x pc=some ⟨t.Regs.set r.toNat x,pc⟩:=by
 unfold wS
 rw[sM _ (by have:=h.fit.1;omega),bS',(yW h.fit hr).2.2,bS',h.set hr]
 rfl
theorem copy_val (hb:jC bx=true):kD bx=some bx:=oQ bx (by have:=box_len hb;omega) fun b h=>by have:=box_items hb b h;omega
theorem l23Step (h:Can l t bx q):vT q t bx=some (thrP q t bx):=by
 have hf:=h.fit
 have hp:=h.pc
 have cp:=copy_val h.box
 unfold vT tW tX
 rw[l15BoxesCopy_o_eq,cp]
 refine h.cases (P:=fun r=>_=some r) ?_ ?_ ?_ ?_ ?_ ?_ ?_ ?_ ?_ ?_ ?_
 .intro k1 k2 k3
  simp only[ieq_d,Int.reduceEq,decide_false,decide_true,if_true,Bool.false_eq_true,if_false,bS',k1,hp,set_val h k2]
 .intro k1 k2 k3
  simp only[ieq_d,Int.reduceEq,decide_false,decide_true,if_true,Bool.false_eq_true,if_false,bS',k1,hp,set_val h k2,(yW hf k3).2.2]
 .intro k1 k2 k3 k4 k5
  simp only[ieq_d,Int.reduceEq,decide_false,decide_true,if_true,Bool.false_eq_true,if_false,bS',k1,hp,set_val h k2,(yW hf k3).2.2,(yW hf k4).2.2,(apv_at k5 (yW hf k3).2.1 (yW hf k4).2.1).2.1]
 .intro k1 k2 k3
  simp only[ieq_d,Int.reduceEq,decide_false,decide_true,if_true,Bool.false_eq_true,if_false,bS',k1,go_val hf]
 .intro k1 k2 k3 k4
  simp only[ieq_d,Int.reduceEq,decide_false,decide_true,if_true,Bool.false_eq_true,if_false,bS',k1,hp,(yW hf k2).2.2,go_val hf]
  by_cases hz:rgv t q.A=0
  .simp[hz]
  .simp[hz]
 .intro k1 k2 k3 b k4 k5
  obtain⟨ok,b',_,e2,e3,e4,b2,f1,f2,_⟩:=put_eq b (rgv t q.A) k5 ((isW_iff _).2 (yW hf k2).2.1)
  simp only[ieq_d,Int.reduceEq,decide_false,decide_true,if_true,Bool.false_eq_true,if_false,bS',k1,hp,(yW hf k2).2.2,dE k3 k4,f1,sN b2 (dE k3 k4),go_val hf]
  cases ok
  .rw[if_pos (by rfl),if_neg (by intro hc;have:=e4.2 hc;cases this)]
   simp
  .rw[if_neg (by simp[bnot]),if_pos (e4.1 rfl),f2 rfl,e3 rfl]
   simp
 .intro k1 k2 k3 r x s k4 k5
  obtain⟨v,ok,b',_,e2,e3,e4,b2,v2,f1,f2⟩:=take_eq ⟨r,x::s⟩ k5
  obtain rfl:ok=true:=e3.2 (by simp)
  obtain⟨u,e5,e6⟩:=e4 rfl
  obtain⟨rfl,rfl⟩:=f2 rfl
  cases e5
  simp only[ieq_d,Int.reduceEq,decide_false,decide_true,if_true,Bool.false_eq_true,if_false,bS',k1,hp,dE k3 k4,f1,sN b2 (dE k3 k4)]
  rw[if_neg (by simp[bnot]),set_val h k2,e6]
  rfl
 .intro k1 k2 k3 r k4 k5
  obtain⟨v,ok,b',_,e2,e3,e4,b2,v2,f1,f2⟩:=take_eq ⟨r,[]⟩ k5
  have hok:ok=false:=by
   cases ok
   .rfl
   .exact absurd rfl (e3.1 rfl)
  subst hok
  simp only[ieq_d,Int.reduceEq,decide_false,decide_true,if_true,Bool.false_eq_true,if_false,bS',k1,dE k3 k4,f1,go_val hf]
  rw[if_pos (by rfl)]
  rfl
 .intro k1
  simp only[ieq_d,Int.reduceEq,decide_false,decide_true,if_true,Bool.false_eq_true,if_false,bS',k1,hp,go_val hf]
 .intro k1 k2
  simp only[ieq_d,Int.reduceEq,decide_false,decide_true,if_true,Bool.false_eq_true,if_false,bS',k1,hp,go_val hf,(yW hf k2).2.2]
 .intro k1
  simp only[ieq_d,Int.reduceEq,decide_false,decide_true,if_true,Bool.false_eq_true,if_false,bS',k1,go_val hf]
end
end Go.Abs
