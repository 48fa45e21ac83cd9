/- laws.FnUsesStep's mirror: true for each code. -/
import Derived.Test.YtdnkfkfjaaedpaaGreatNThH
import Derived.Test.YtdnkfkfjaaedpaaGreatNUNUsesStep
set_option linter.unusedSimpArgs false
set_option linter.unusedVariables false
set_option maxHeartbeats 8000000
namespace Go.Abs
open Go

theorem hasInt_any (l:List Int)(x:Int)(hl:l.length≤1000):∃v,l_hasInt l x=some v∧(v=true↔x∈l):=by
 unfold l_hasInt
 obtain⟨e,he,hd⟩:=Ok.loop (step:=l_hasInt_L1 l x) (s:=(0:Int)) (fun s=>∃k:Nat,k≤l.length∧s=(k:Int)∧x ∉ l.take k) (fun s=>l.length-s.toNat)
  (fun e=>(e=.inr true∧x∈l)∨(e=.inl ()∧x ∉ l)) ⟨0,by omega,rfl,by simp⟩ (by
  rintro s ⟨k,hk,rfl,hn⟩
  unfold l_hasInt_L1
  dsimp only
  refine Ok.ite (fun hi=>?_) fun hi=>?_
  ·rw[zF,zG] at hi
   have hlt:k<l.length:=by omega
   rw[zX (List.getElem?_eq_getElem hlt),bS',iadd1 (by omega)]
   refine Ok.ite (fun hx=>Ok.pure (.inl ⟨rfl,?_⟩)) fun hx=>Ok.pure ⟨⟨k+1,by omega,rfl,?_⟩,by omega⟩
   ·rw[zO] at hx
    rw[← hx];exact List.getElem_mem hlt
   rw[zO] at hx
   rw[List.take_add_one,List.getElem?_eq_getElem hlt]
   simp only[Option.toList_some,List.mem_append,List.mem_singleton,not_or]
   exact⟨hn,fun hc=>hx hc.symm⟩
  ·rw[zF,zG] at hi
   have:k=l.length:=by omega
   subst this
   rw[List.take_length] at hn
   exact Ok.pure (.inr ⟨rfl,hn⟩))
 rw[he]
 rcases hd with⟨rfl,h⟩|⟨rfl,h⟩
 ·exact⟨true,rfl,by simp[h]⟩
 ·exact⟨false,rfl,by simp[h]⟩
def rds (q:gQuad)(x:Int):Prop:=((q.Op=2∨q.Op=3∨q.Op=5∨q.Op=6∨q.Op=9)∧x=q.A)∨(q.Op=3∧x=q.B)
theorem has_pow:∀a:Fin 12,∃v,shlx .u16 1 (a:Nat)=some v∧∀b:Fin 12,(shrx .u16 v (b:Nat)).bind (fun w=>some (ieq (iand .u16 w 1) 1))=some (decide (b=a)):=by
 have:∀a:Fin 12,∀b:Fin 12,(shlx .u16 1 (a:Nat)).bind (fun v=>(shrx .u16 v (b:Nat)).bind (fun w=>some (ieq (iand .u16 w 1) 1)))=some (decide (b=a)):=by decide+kernel
 intro a
 cases h:shlx .u16 1 (a:Nat) with
 |none=>have:=this a a;rw[h] at this;cases this
 |some v=>exact⟨v,rfl,fun b=>by have:=this a b;rw[h] at this;exact this⟩
theorem has_pow2:∀a c:Fin 12,∃v w,shlx .u16 1 (a:Nat)=some v∧shlx .u16 1 (c:Nat)=some w∧∀b:Fin 12,(shrx .u16 (ior .u16 v w) (b:Nat)).bind (fun w=>some (ieq (iand .u16 w 1) 1))=some (decide (b=a∨b=c)):=by
 have:∀a c:Fin 12,∀b:Fin 12,(shlx .u16 1 (a:Nat)).bind (fun v=>(shlx .u16 1 (c:Nat)).bind fun w=>(shrx .u16 (ior .u16 v w) (b:Nat)).bind (fun w=>some (ieq (iand .u16 w 1) 1)))=some (decide (b=a∨b=c)):=by decide+kernel
 intro a c
 obtain⟨v,hv,_⟩:=has_pow a
 obtain⟨w,hw,_⟩:=has_pow c
 exact⟨v,w,hv,hw,fun b=>by have:=this a c b;rw[hv,hw] at this;exact this⟩
theorem list_val (u:Int)(W:Fin 12→Bool)(h:∀b:Fin 12,yI u (b:Nat)=some (W b)):∃L,yR u=some L∧L.length≤12∧∀b:Fin 12,W b=true→((b:Nat):Int)∈L:=by
 unfold yR
 obtain⟨e,he,hd⟩:=Ok.loop (step:=jU u) (s:=((0:Int),([]:List Int))) (fun s=>∃k:Nat,k≤12∧s.1=(k:Int)∧s.2.length≤k∧∀b:Fin 12,b<k→W b=true→((b:Nat):Int)∈s.2) (fun s=>12-s.1.toNat)
  (fun e=>e.length≤12∧∀b:Fin 12,W b=true→((b:Nat):Int)∈e) ⟨0,by omega,rfl,by simp,fun b hb=>by omega⟩ (by
  rintro⟨s,o⟩ ⟨k,hk,h1,h2,h3⟩
  simp only at h1 h2 h3
  subst h1
  unfold jU
  dsimp only
  refine Ok.ite (fun hi=>?_) fun hi=>?_
  ·rw[zF] at hi
   have hlt:k<12:=by omega
   have hw:=h ⟨k,hlt⟩
   simp only at hw
   rw[hw,bS',iadd1 (by omega)]
   refine Ok.ite (fun hc=>?_) fun hc=>?_
   ·refine Ok.bind (Ok.app (by simp;omega)) fun l2 k3=>Ok.pure ⟨⟨k+1,by omega,rfl,by rw[k3];simp;omega,fun b hb hwb=>?_⟩,by simp only;omega⟩
    simp only
    rw[k3]
    by_cases hbk:(b:Nat)=k
    ·rw[hbk];simp
    ·exact List.mem_append_left _ (h3 b (by omega) hwb)
   ·refine Ok.pure ⟨⟨k+1,by omega,rfl,by simp only;omega,fun b hb hwb=>?_⟩,by simp only;omega⟩
    by_cases hbk:(b:Nat)=k
    ·have:b=⟨k,hlt⟩:=Fin.ext hbk
     rw[this] at hwb
     exact absurd hwb hc
    ·exact h3 b (by omega) hwb
  ·rw[zF] at hi
   refine Ok.pure ⟨by omega,fun b hwb=>h3 b (by omega) hwb⟩)
 rw[he]
 exact⟨e,rfl,hd⟩
theorem uses_val {q:gQuad}{m:Int}(hm:m≤600)(hq:QV false q m):∃L,i_QuadUses q=some L∧L.length≤12∧∀x,rds q x→x∈L:=by
 unfold i_QuadUses i_usesOf
 rw[quadValid_eq,jJ,decide_eq_true (hq.le hm)]
 simp only[bS',bnot,Bool.not_true,Bool.false_eq_true,if_false]
 have fin:∀{x:Int},Rg x→∃a:Fin 12,x=((a:Nat):Int):=fun {x} hx=>⟨⟨x.toNat,by unfold Rg at hx;omega⟩,by unfold Rg at hx;simp;omega⟩
 have none':(¬∃x,rds q x)→∃L,(yR 0).bind (fun r3=>some r3)=some L∧L.length≤12∧∀x,rds q x→x∈L:=by
  intro hn
  have h0:∀b:Fin 12,yI 0 (b:Nat)=some false:=by unfold yI;decide+kernel
  obtain⟨L,e,e1,_⟩:=list_val 0 (fun _=>false) h0
  rw[e]
  exact⟨L,rfl,e1,fun x hx=>absurd ⟨x,hx⟩ hn⟩
 have one':Rg q.A→(∀x,rds q x→x=q.A)→∃L,(((shlx .u16 1 q.A).bind fun v2=>some v2).bind fun r2=>(yR r2).bind fun r3=>some r3)=some L∧L.length≤12∧∀x,rds q x→x∈L:=by
  intro ha hn
  obtain⟨a,ea⟩:=fin ha
  obtain⟨v,e,hv⟩:=has_pow a
  obtain⟨L,e1,e2,e3⟩:=list_val v (fun b=>decide (b=a)) (fun b=>by unfold yI;exact hv b)
  rw[ea,e,bS',bS',e1]
  refine⟨L,rfl,e2,fun x hx=>?_⟩
  rw[hn x hx,ea]
  exact e3 a (by simp)
 rcases hq with k|k|k|k|k|k|k|k|k|k
 ·simp only[ieq_d,k.1,Int.reduceEq,decide_false,decide_true,Bool.false_eq_true,if_false,if_true,bS']
  exact none' (by rintro⟨x,hx⟩;unfold rds at hx;omega)
 ·simp only[ieq_d,k.1,Int.reduceEq,decide_false,decide_true,Bool.false_eq_true,if_false,if_true,bS']
  exact one' k.2.2.1 (by intro x hx;unfold rds at hx;omega)
 ·simp only[ieq_d,k.1,Int.reduceEq,decide_false,decide_true,Bool.false_eq_true,if_false,if_true,bS']
  obtain⟨a,ea⟩:=fin k.2.2.1
  obtain⟨c,ec⟩:=fin k.2.2.2.1
  obtain⟨v,w,e1,e2,hv⟩:=has_pow2 a c
  obtain⟨L,e3,e4,e5⟩:=list_val (ior .u16 v w) (fun b=>decide (b=a∨b=c)) (fun b=>by unfold yI;exact hv b)
  rw[ea,ec,e1,e2,bS',bS',bS',e3]
  refine⟨L,rfl,e4,fun x hx=>?_⟩
  have:x=q.A∨x=q.B:=by unfold rds at hx;omega
  rcases this with rfl|rfl
  ·rw[ea];exact e5 a (by simp)
  ·rw[ec];exact e5 c (by simp)
 ·simp only[ieq_d,k.1,Int.reduceEq,decide_false,decide_true,Bool.false_eq_true,if_false,if_true,bS']
  exact none' (by rintro⟨x,hx⟩;unfold rds at hx;omega)
 ·simp only[ieq_d,k.1,Int.reduceEq,decide_false,decide_true,Bool.false_eq_true,if_false,if_true,bS']
  exact one' k.2.2.1 (by intro x hx;unfold rds at hx;omega)
 ·simp only[ieq_d,k.1,Int.reduceEq,decide_false,decide_true,Bool.false_eq_true,if_false,if_true,bS']
  exact one' k.2.2.1 (by intro x hx;unfold rds at hx;omega)
 ·simp only[ieq_d,k.1,Int.reduceEq,decide_false,decide_true,Bool.false_eq_true,if_false,if_true,bS']
  exact none' (by rintro⟨x,hx⟩;unfold rds at hx;omega)
 ·simp only[ieq_d,k.1,Int.reduceEq,decide_false,decide_true,Bool.false_eq_true,if_false,if_true,bS']
  exact none' (by rintro⟨x,hx⟩;unfold rds at hx;omega)
 ·simp only[ieq_d,k.1,Int.reduceEq,decide_false,decide_true,Bool.false_eq_true,if_false,if_true,bS']
  exact one' k.2.2.1 (by intro x hx;unfold rds at hx;omega)
 ·simp only[ieq_d,k.1,Int.reduceEq,decide_false,decide_true,Bool.false_eq_true,if_false,if_true,bS']
  exact none' (by rintro⟨x,hx⟩;unfold rds at hx;omega)
theorem rds_rg {q:gQuad}{m x:Int}(hq:QV false q m)(h:rds q x):Rg x:=by
 rcases h with⟨h,rfl⟩|⟨h,rfl⟩
 ·rcases hq with k|k|k|k|k|k|k|k|k|k<;>first|exact k.2.2.1|(exfalso;have:=k.1;omega)
 ·rcases hq with k|k|k|k|k|k|k|k|k|k<;>first|exact k.2.2.2.1|(exfalso;have:=k.1;omega)
theorem thrP_uses {l:List gQuad}{t u:gThread}{bx:List gBox}{q:gQuad}(h:Can l t bx q)(hu:u.Regs.length=12)(hp:u.Pc=t.Pc)(hr:∀x,rds q x→rgv u x=rgv t x):
  (thrP q u bx).2=(thrP q t bx).2∧(thrP q u bx).1.Pc=(thrP q t bx).1.Pc∧((thrP q t bx).2.2.2=1→q.Op=1∨q.Op=2∨q.Op=3∨q.Op=7→∃x,idx (thrP q u bx).1.Regs q.Dst=some x∧idx (thrP q t bx).1.Regs q.Dst=some x):=by
 have ht:=h.fit.1
 have st:∀{d x:Int} {l:List Int},Rg d→l.length=12→idx (l.set d.toNat x) d=some x:=by
  intro d x l hd hl
  have:(l.set d.toNat x)[d.toNat]? =some x:=List.getElem?_set_self (by unfold Rg at hd;omega)
  have:=zX this
  rwa [Int.toNat_of_nonneg hd.1] at this
 rcases h.eqs with⟨k1,k2,k3,e⟩|⟨k1,k2,k3,e⟩|⟨k1,k2,k3,k4,k5,e⟩|⟨k1,k2,k3,e⟩|⟨k1,k2,k3,k4,e⟩|⟨k1,k2,k3,b,k4,k5,k6,e⟩|⟨k1,k2,k3,b,k4,k5,k6,e⟩|⟨k1,k2,k3,w,y,s,k4,k5,e⟩|⟨k1,k2,k3,w,k4,k5,e⟩|⟨k1,e⟩|⟨k1,k2,e⟩|⟨k1,e⟩<;>rw[e]
 ·simp[thrP,k1,hp,st k2 hu,st k2 ht]
 ·simp[thrP,k1,hp,st k2 hu,st k2 ht,hr q.A (by unfold rds;omega)]
 ·simp[thrP,k1,hp,st k2 hu,st k2 ht,hr q.A (by unfold rds;omega),hr q.B (by unfold rds;omega)]
 ·simp[thrP,k1]
 ·simp[thrP,k1,hp,hr q.A (by unfold rds;omega)]
 ·simp[thrP,k1,hp,k4,k6,hr q.A (by unfold rds;omega)]
 ·simp[thrP,k1,hp,k4,k6]
 ·simp[thrP,k1,hp,k4,st k2 hu,st k2 ht]
 ·simp[thrP,k1,hp,k4]
 ·simp[thrP,k1,hp]
 ·simp[thrP,k1,hp,hr q.A (by unfold rds;omega)]
 ·simp[thrP,k1,hp]
theorem sets_val {q:gQuad}{m:Int}(hm:m≤600)(hq:QV false q m):i_QuadSets q=some (if q.Op=1∨q.Op=2∨q.Op=3∨q.Op=7 then q.Dst else -1):=by
 unfold i_QuadSets i_setsOf
 rw[quadValid_eq,jJ,decide_eq_true (hq.le hm)]
 simp only[bS',bnot,Bool.not_true,Bool.false_eq_true,if_false,ieq_d]
 by_cases h1:q.Op=1
 ·simp[h1]
 by_cases h2:q.Op=2
 ·simp[h2]
 by_cases h3:q.Op=3
 ·simp[h3]
 by_cases h7:q.Op=7
 ·simp[h7]
 simp[h1,h2,h3,h7]
theorem Ok.other {l:List gQuad}{t o:gThread}{bx:List gBox}{q:gQuad}(h:Can l t bx q):Ok (loopM (wA) (0,o,q,(⟨t.Regs,t.Pc⟩:gThread))) (fun e=>e.1=o∧e.2.1=q∧Fit e.2.2 l.length∧e.2.2.Pc=t.Pc∧∀x,rds q x→rgv e.2.2 x=rgv t x):=by
 have hf:=h.fit
 obtain⟨L,u1,u2,u3⟩:=uses_val (by have:=h.len;omega) h.qv
 refine Ok.loop (fun s=>∃k:Nat,k≤12∧s.1=(k:Int)∧s.2.1=o∧s.2.2.1=q∧Fit s.2.2.2 l.length∧s.2.2.2.Pc=t.Pc∧∀x,rds q x→rgv s.2.2.2 x=rgv t x) (fun s=>12-s.1.toNat) _ ⟨0,by omega,rfl,rfl,rfl,hf,rfl,fun _ _=>rfl⟩ ?_
 rintro⟨s1,s2,s3,s4⟩ ⟨k,hk,h1,h2,h3,h4,h5,h6⟩
 simp only at h1 h2 h3 h4 h5 h6
 subst h1 h2 h3
 unfold wA
 dsimp only
 rw[iadd1 (by omega)]
 refine Ok.ite (fun hi=>?_) fun hi=>Ok.pure ⟨rfl,rfl,h4,h5,h6⟩
 rw[zF] at hi
 obtain⟨v,e1,e2⟩:=hasInt_any L k (by omega)
 rw[u1,bS',e1,bS']
 refine Ok.ite (fun hb=>?_) fun hb=>Ok.pure ⟨⟨k+1,by omega,rfl,rfl,rfl,h4,h5,h6⟩,by simp only;omega⟩
 have hL:=h4.1
 have hnk:(k:Int) ∉ L:=by
  intro hc
  rw[e2.2 hc] at hb
  cases hb
 refine Ok.bind (Ok.idx (by rw[hL];omega)) fun w hw=>Ok.bind (Ok.set (by rw[hL];omega)) fun l2 e3=>Ok.pure ⟨⟨k+1,by omega,rfl,rfl,rfl,?_,h5,fun x hx=>?_⟩,by simp only;omega⟩
 ·rw[e3]
  exact h4.set (by decide) h4.2.2.1 h4.2.2.2
 ·have hg:=rds_rg h.qv hx
  have hne:x≠(k:Int):=fun hc=>hnk (hc▸u3 x hx)
  rw[← h6 x hx]
  unfold rgv
  rw[e3]
  simp only
  rw[List.getElem?_set_ne (by unfold Rg at hg;omega)]
theorem fnUsesStep_true (l:List Int)(hb:Bytes l)(hl:l.length≤maxLen):l_FnUsesStep l=some true:=by
 unfold l_FnUsesStep
 refine headT hb hl (fun r hs=>rfl) fun r q hs h=>?_
 by_cases h0:ieq (thrP q r.2.1 r.2.2).2.2.2 0=true
 ·rw[if_pos h0]
 have hf:=h.fit
 rw[if_neg h0,h.idx,bS',appx_nil' _ (by have:=hf.1;omega),bS']
 obtain⟨⟨o,p,u⟩,e1,e2,e3,e4,e5,e6⟩:=Ok.other (o:=(thrP q r.2.1 r.2.2).1) h
 simp only at e2 e3 e4 e5 e6
 subst e2
 rw[e3] at e1
 rw[e1,bS']
 have hc:Can r.1 u r.2.2 q:=⟨h.code,e4,h.box,by rw[e5];exact h.at',h.talk⟩
 obtain⟨f1,f2,f3⟩:=thrP_uses h e4.1 e5 e6
 have hst:jC r.1 u r.2.2=some (thrP q u r.2.2):=by
  rcases step_eq (l:=r.1) (t:=u) (bx:=r.2.2) (by have:=h.len;omega) (by have:=e4.1;omega) (by have:=box_len h.box;omega) (fun b hb=>by have:=box_items h.box b hb;omega) with⟨a1,a2⟩|⟨q',a1,a2,a3⟩
  ·exfalso
   have:kS r.1 u r.2.2=some (thrP q u r.2.2):=by
    unfold kS xS
    rw[kH hc.code,sFits u r.1 (by have:=e4.1;omega) (by have:=h.len;omega),(fitB_iff _ _).2 e4,s_l15Boxes_val _ (by have:=box_len h.box;omega) (fun b hb=>by have:=box_items h.box b hb;omega),h.box]
    simp only[bS',yF,jL,if_or,bnot,Bool.and_true,Bool.not_true,Bool.or_false,Bool.false_eq_true,if_false,hc.idx,zG,(there_val _ _).2,decide_eq_true hc.talk,l23Step hc]
   rw[a2] at this
   have this:=congrArg (fun z=>z.2.2.2) (Option.some.inj this)
   simp only[f1] at this
   exact h0 (by rw[zO,← this])
  ·have:q'=q:=by have x1:=a1.at';have x2:=hc.at';rw[x1] at x2;exact Option.some.inj x2
   subst this
   exact a2
 have hk:=h.keeps
 simp only[hst,bS',sets_val (by have:=h.len;omega) h.qv,f1,f2]
 rw[sameBoxes_refl _ (by have:=box_len hk.2.1;omega) (fun b hb=>by have:=box_items hk.2.1 b hb;omega),sameInts_refl _ (by have:=h.printed;omega)]
 by_cases hs1:(thrP q r.2.1 r.2.2).2.2.2=1
 ·by_cases ho:q.Op=1∨q.Op=2∨q.Op=3∨q.Op=7
  ·obtain⟨x,g1,g2⟩:=f3 hs1 ho
   by_cases hd:q.Dst<0<;>simp[if_pos ho,ieq,ine,hs1,g1,g2,ilt,hd]
  ·simp[if_neg ho,ieq,ilt]
 ·have:ine (thrP q r.2.1 r.2.2).2.2.2 1=true:=by rw[ine_iff];exact hs1
  simp[this,ieq]
end Go.Abs
