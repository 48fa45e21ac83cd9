/- A step of a thread: the program and the reference compute it alike. -/
import Derived.Test.YtolmjhgondilhaaGreatNThA
set_option linter.unusedSimpArgs false
set_option linter.unusedVariables false
set_option maxHeartbeats 8000000
namespace Go.Abs
open Go

theorem quadValid_eq (q:gQuad)(n:Int):tW q n=yR q n:=by
 obtain⟨op,d,a,b,m⟩:=q
 unfold tW yR
 simp only[fM,jY,gI,yG,sF,kU,xV,yC,if_true,Bool.false_eq_true,if_false,yF,yU,if_or,bS']
 simp only[ieq,eqD,gQuad.mk.injEq,ige,ile,ilt]
 by_cases h1:op=1
 ·subst h1;simp;rw[Bool.eq_iff_iff];simp;omega
 by_cases h2:op=2
 ·subst h2;simp;rw[Bool.eq_iff_iff];simp;omega
 by_cases h3:op=3
 ·subst h3;simp;rw[Bool.eq_iff_iff];simp;omega
 by_cases h4:op=4
 ·subst h4;simp;rw[Bool.eq_iff_iff];simp;omega
 by_cases h5:op=5
 ·subst h5;simp;rw[Bool.eq_iff_iff];simp;omega
 by_cases h6:op=6
 ·subst h6;simp;rw[Bool.eq_iff_iff];simp;omega
 by_cases h7:op=7
 ·subst h7;simp;rw[Bool.eq_iff_iff];simp;omega
 by_cases h9:op=9
 ·subst h9;simp;rw[Bool.eq_iff_iff];simp;omega
 by_cases h8:op=8
 ·subst h8;simp;rw[Bool.eq_iff_iff];simp;omega
 by_cases h10:op=10
 ·subst h10;simp;rw[Bool.eq_iff_iff];simp;omega
 have e10:(op==10)=false:=by simpa using h10
 simp[h1,h2,h3,h4,h5,h6,h7,h8,h9,h10,e10]

theorem fZ (l:List gQuad):vC l=kC l:=by
 have hL:vK l=kS l:=by
  funext s
  unfold vK kS
  simp only[quadValid_eq]
 unfold vC kC
 simp only[hL,yC,yF,yU,if_or,bS']
 have e:(ilt (ilen l) 1||igt (ilen l) 600)=bnot (ige (ilen l) 1&&ile (ilen l) 600):=by
  rw[Bool.eq_iff_iff];simp[ilt,igt,ige,ile,bnot]
 rw[e]

theorem boxesCopy_o_eq:vI=hG:=rfl
theorem clone_o_eq:kM=yJ:=rfl
theorem ieq_t {a b:Int}(h:a=b):ieq a b=true:=(zM _ _).2 h
section
variable {l:List gQuad} {t:gThread} {bx:List gBox} {q:gQuad}
theorem Can.idx (h:Can l t bx q):idx l t.Pc=some q:=by
 have:=zT h.at'
 rwa [Int.toNat_of_nonneg h.fit.2.2.1] at this
theorem Can.len (h:Can l t bx q):l.length≤600:=h.code.1.2
theorem Can.pc (h:Can l t bx q):iadd .i64 t.Pc 1=t.Pc+1:=by
 have h1:=h.fit.2.2.1
 have h2:=h.fit.2.2.2
 have h3:=h.len
 exact zU _ _ (by omega)
theorem Can.set (h:Can l t bx q){r:Int}(hr:Rg r)(x:Int):setx t.Regs r x=some (t.Regs.set r.toNat x):=gZ x (xY h.fit hr).2.2
theorem box_len (hb:yS bx=true):bx.length≤3:=(isBoxes_iff.1 hb).2
theorem box_items (hb:yS bx=true):∀b∈bx,b.Items.length≤4:=fun b h=>by
 obtain⟨⟨h1,h2⟩,h3,_⟩:=(qW b).1 (box_mem hb h)
 omega
theorem bx_idx {n:Int}{b:gBox}(h0:0≤n)(h:bx[n.toNat]? =some b):idx bx n=some b:=by
 have:=zT h
 rwa [Int.toNat_of_nonneg h0] at this
theorem set_self {α:Type}{l:List α}{k:Nat}{x:α}(h:l[k]? =some x):l.set k x=l:=setSelf h

theorem thread_step (h:Can l t bx q){o:List Int}(ho:o.length≤1000000):wJ t l bx o=some ((thrP q t bx).2.2.2,(thrP q t bx).1,(thrP q t bx).2.1,o++(thrP q t bx).2.2.1):=by
 have hf:=h.fit
 unfold wJ
 rw[h.idx,bS',h.pc]
 refine h.cases (P:=fun r=>_=some (r.2.2.2,r.1,r.2.1,o++r.2.2.1)) ?_ ?_ ?_ ?_ ?_ ?_ ?_ ?_ ?_ ?_ ?_
 ·intro k1 k2 k3
  rw[if_pos (ieq_t k1),(xY hf k2).2.2,bS',h.set k2]
  simp
 ·intro k1 k2 k3
  simp only[ieq_d,Int.reduceEq,decide_false,decide_true,if_true,Bool.false_eq_true,if_false,bS',k1,(xY hf k2).2.2,(xY hf k3).2.2,h.set k2,List.append_nil]
 ·intro k1 k2 k3 k4 k5
  simp only[ieq_d,Int.reduceEq,decide_false,decide_true,if_true,Bool.false_eq_true,if_false,bS',k1,(xY hf k2).2.2,(xY hf k3).2.2,(xY hf k4).2.2,(apv_at k5 (xY hf k3).2.1 (xY hf k4).2.1).1,h.set k2,List.append_nil]
 ·intro k1 k2 k3
  simp only[ieq_d,Int.reduceEq,decide_false,decide_true,if_true,Bool.false_eq_true,if_false,bS',k1,List.append_nil]
 ·intro k1 k2 k3 k4
  simp only[ieq_d,Int.reduceEq,decide_false,decide_true,if_true,Bool.false_eq_true,if_false,bS',k1,(xY hf k2).2.2,List.append_nil]
  by_cases hz:rgv t q.A=0
  ·simp[hz]
  ·simp[hz]
 ·intro k1 k2 k3 b k4 k5
  obtain⟨ok,b',e1,e2,e3,e4,_⟩:=put_eq b (rgv t q.A) k5 ((fL _).2 (xY hf k2).2.1)
  simp only[ieq_d,Int.reduceEq,decide_false,decide_true,if_true,Bool.false_eq_true,if_false,bS',k1,(xY hf k2).2.2,bx_idx k3 k4,e1,gZ b' (bx_idx k3 k4),List.append_nil]
  cases ok
  ·rw[if_pos (by rfl),if_neg (by intro hc;have:=e4.2 hc;cases this),e2 rfl,set_self k4]
   simp
  ·rw[if_neg (by simp[bnot]),if_pos (e4.1 rfl),e3 rfl]
   simp
 ·intro k1 k2 k3 r x s k4 k5
  obtain⟨v,ok,b',e1,e2,e3,e4,_⟩:=take_eq ⟨r,x::s⟩ k5
  obtain rfl:ok=true:=e3.2 (by simp)
  obtain⟨u,e5,e6⟩:=e4 rfl
  cases e5
  simp only[ieq_d,Int.reduceEq,decide_false,decide_true,if_true,Bool.false_eq_true,if_false,bS',k1,bx_idx k3 k4,e1,gZ b' (bx_idx k3 k4),List.append_nil]
  rw[if_neg (by simp[bnot]),(xY hf k2).2.2,bS',h.set k2,e6]
  rfl
 ·intro k1 k2 k3 r k4 k5
  obtain⟨v,ok,b',e1,e2,e3,e4,_⟩:=take_eq ⟨r,[]⟩ k5
  have hok:ok=false:=by
   cases ok
   ·rfl
   ·exact absurd rfl (e3.1 rfl)
  subst hok
  simp only[ieq_d,Int.reduceEq,decide_false,decide_true,if_true,Bool.false_eq_true,if_false,bS',k1,bx_idx k3 k4,e1,gZ b' (bx_idx k3 k4),List.append_nil]
  rw[if_pos (by rfl),e2 rfl,set_self k4]
  rfl
 ·intro k1
  simp only[ieq_d,Int.reduceEq,decide_false,decide_true,if_true,Bool.false_eq_true,if_false,bS',k1,List.append_nil]
 ·intro k1 k2
  simp only[ieq_d,Int.reduceEq,decide_false,decide_true,if_true,Bool.false_eq_true,if_false,bS',k1,(xY hf k2).2.2]
  rw[kW 8 _ _ (by simp;unfold maxLen;omega)]
  rfl
 ·intro k1
  simp only[ieq_d,Int.reduceEq,decide_false,decide_true,if_true,Bool.false_eq_true,if_false,bS',k1,List.append_nil]

end
end Go.Abs
