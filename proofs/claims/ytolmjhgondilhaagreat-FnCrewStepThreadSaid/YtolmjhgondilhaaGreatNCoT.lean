/- Drawn statements are valid and are compiled to valid quads. -/
import Derived.Test.YtolmjhgondilhaaGreatNOkF
set_option linter.unusedSimpArgs false
set_option linter.unusedVariables false
set_option maxHeartbeats 4000000
namespace Go.Abs
open Go

variable {Z:Bool}

theorem SOk.blocks {n:Nat}{x:gStmt}(h:SOk Z n x):(x.Body=[]\/∃c,n=c+1/\(∀y∈x.Body,SOk Z c y)/\x.Body.length<=5)/\(x.Else=[]\/∃c,n=c+1/\(∀y∈x.Else,SOk Z c y)/\x.Else.length<=5):=by
 cases h
 case ife c e B E he hB lB hE lE=>exact⟨.inr ⟨c,rfl,hB,lB⟩,.inr ⟨c,rfl,hE,lE⟩⟩
 case whl c e B he hB lB=>exact⟨.inr ⟨c,rfl,hB,lB⟩,.inl rfl⟩
 all_goals exact⟨.inl rfl,.inl rfl⟩
def cN (n:Nat):Nat:=12 ^ n
theorem cN_succ (n:Nat):cN (n+1)=12*cN n:=by unfold cN;rw[Nat.pow_succ];omega
theorem cN_ge (n:Nat):1<=cN n:=Nat.one_le_pow _ _ (by omega)
theorem cN_le {n m:Nat}(h:n<=m):cN n<=cN m:=Nat.pow_le_pow_right (by omega) h

theorem count_nil (m:Nat):kX (m+1) []=some 0:=by
 show jG (kX m) []=_
 unfold jG
 rw[jR (e:=(0:Int)) (by unfold uQ;dsimp only;rw[if_neg (by simp[ilt,ilen])])]
 rfl
theorem countR:∀(m n:Nat) (l:List gStmt),(∀x∈l,SOk Z n x)->l.length<=100->n<=4->Okf (n+2<=m) (kX m l) (fun v=>0<=v/\v<=((l.length*cN n:Nat):Int)):=by
 intro m
 induction m with
 |zero=>intro n l _ _ _;exact Okf.none (by omega)
 |succ m ih=>
  intro n l hl hn h4
  have c4:cN n<=20736:=Nat.le_trans (cN_le h4) (by decide)
  show Okf _ (jG (kX m) l) _
  unfold jG
  refine Okf.bind (P:=fun v=>0<=v/\v<=((l.length*cN n:Nat):Int)) ?_ fun v hv=>Okf.pure hv
  refine Okf.loop (fun s=>∃i:Nat,s.2=(i:Int)/\i<=l.length/\0<=s.1/\s.1<=((i*cN n:Nat):Int)) (fun s=>l.length-s.2.toNat) _ ⟨0,rfl,by omega,by simp,by simp⟩ ?_
  rintro⟨a,i'⟩ ⟨i,h1,h2,h3,h5⟩
  simp only at h1 h2 h3 h5
  subst h1
  unfold uQ
  dsimp only
  have hi100:i*cN n<=100*20736:=Nat.mul_le_mul (by omega) c4
  refine Okf.ite (fun hi=>?_) fun hi=>?_
  .rw[zD,zF] at hi
   refine Okf.bnd (Ok.idx (by omega)) fun x hx=>?_
   have sub:∀B:List gStmt,(B=[]\/∃c,n=c+1/\(∀y∈B,SOk Z c y)/\B.length<=5)->Okf (n+2<=m+1) (kX m B) (fun v=>0<=v/\12*v<=5*((cN n:Nat):Int)):=by
    intro B hB
    rcases hB with rfl|⟨c,rfl,hc,lc⟩
    .refine⟨fun ht=>?_,fun v hv=>?_⟩
     .obtain⟨m',rfl⟩:∃m',m=m'+1:=⟨m-1,by omega⟩
      rw[count_nil];simp
     .cases m with
      |zero=>simp[kX] at hv
      |succ m'=>rw[count_nil] at hv;cases hv;omega
    .refine((ih c B hc (by omega) (by omega)).weak (by omega)).mono fun v hv=>⟨hv.1,?_⟩
     rw[cN_succ]
     have:B.length*cN c<=5*cN c:=Nat.mul_le_mul_right _ lc
     omega
   refine Okf.bind (sub _ (SOk.blocks (hl x hx)).1) fun v5 h6=>?_
   refine Okf.bind (sub _ (SOk.blocks (hl x hx)).2) fun v6 h7=>?_
   have e1:iadd .i64 a 1=a+1:=zS _ _ (by omega)
   have e2:iadd .i64 (a+1) v5=a+1+v5:=zS _ _ (by omega)
   have e3:iadd .i64 (a+1+v5) v6=a+1+v5+v6:=zS _ _ (by omega)
   have e4:iadd .i64 (i:Int) 1=((i+1:Nat):Int):=by rw[zS _ _ (by omega)];rfl
   have hm':(i+1)*cN n=i*cN n+cN n:=Nat.succ_mul _ _
   have hge:=cN_ge n
   rw[e1,e2,e3,e4]
   have hb6:v5+v6+1<=((cN n:Nat):Int):=by
    rcases Nat.eq_zero_or_pos n with h0|h0
    .subst h0
     have:cN 0=1:=rfl
     omega
    .obtain⟨c,rfl⟩:∃c,n=c+1:=⟨n-1,by omega⟩
     rw[cN_succ] at h6 h7 ⊢
     have:=cN_ge c
     omega
   exact Okf.pure ⟨⟨i+1,rfl,by omega,by simp only;omega,by simp only;rw[hm'];push_cast;omega⟩,by simp only;omega⟩
  .rw[zD,zF] at hi
   obtain rfl:i=l.length:=by omega
   exact Okf.pure ⟨h3,h5⟩
theorem Ok.count {n:Nat}{l:List gStmt}(hl:∀x∈l,SOk Z n x)(h1:l.length<=100)(h2:n<=4):Ok (jQ l) (fun v=>0<=v/\v<=((l.length*cN n:Nat):Int)):=Ok.rec' (n+2) fun m=>countR m n l hl h1 h2

section
variable {b:List Int} (hb:Bytes b) (hl:b.length<=1048576)
include hb hl
theorem Ok.stmts {k:Int}{r:gL6Rd}(hr:Rd b k r)(hk:k<=500000){p:Int}(hp:p<=bxm Z+1):Ok (qQ r p) (fun q=>Rd b (k+80000) q.2/\q.1.length<=12/\(∀x∈q.1,SOk Z 3 x)/\∃v,jQ q.1=some v/\v<=16):=by
 unfold qQ
 have h0:=hr.2.1
 have h0':=hr.2.2
 refine Ok.bind (Ok.pick hb hl hr (by decide) (by omega)) fun q1 h1=>?_
 have e1:iadd .i64 1 q1.1=((q1.1.toNat+1:Nat):Int):=by rw[zS _ _ (by omega)];omega
 have c3:cS 3=12500:=by decide
 have hc:(q1.1.toNat+1)*cS 3<=6*cS 3:=Nat.mul_le_mul_right _ (by omega)
 refine Ok.bind (P:=fun q=>Rd b (k+80000) q.2/\q.1.length<=12/\∀x∈q.1,SOk Z 3 x) ?_ fun q2 h2=>?_
 .rw[e1]
  have hg:∀m:Nat,Okf (12<=m) ((zC m).1 q1.2 p 3 ((q1.1.toNat+1:Nat):Int) true) (fun q=>Rd b (k+80000) q.2/\q.1.length<=12/\∀x∈q.1,SOk Z 3 x):=fun m=>
   (((group hb hl hp m).1 3 (q1.1.toNat+1) true q1.2 (k+1) (by omega) (by omega) h1.1 (by omega)).weak (by omega)).mono fun q h=>⟨h.1.le (by omega),by have:=h.2.1;omega,h.2.2⟩
  exact Ok.rec' 12 hg
 .refine Ok.bind (P:=fun e:List gStmt×gL6Rd=>Rd b (k+80000) e.2/\e.1.length<=12/\(∀x∈e.1,SOk Z 3 x)/\∃v,jQ e.1=some v/\v<=16) ?_ fun e he=>Ok.pure he
  refine Ok.loop (fun s=>Rd b (k+80000) s.2/\s.1.length<=12/\∀x∈s.1,SOk Z 3 x) (fun s=>s.1.length) _ h2 ?_
  rintro⟨l,rd⟩ ⟨h3,h4,h5⟩
  simp only at h3 h4 h5
  unfold nB
  dsimp only
  obtain⟨v,hv,hv2⟩:=Ok.count h5 (by omega) (by omega)
  rw[hv,bS']
  refine Ok.ite (fun h=>?_) fun h=>?_
  .rw[jJ] at h
   have hne:1<=l.length:=by
    rcases Nat.eq_zero_or_pos l.length with h6|h6
    .rw[h6] at hv2;omega
    .exact h6
   have e2:isub .i64 (ilen l) 1=((l.length-1:Nat):Int):=by rw[zF,yI _ _ (by omega)];omega
   rw[e2]
   have e3:cutx l 0 ((l.length-1:Nat):Int)=some (l.take (l.length-1)):=by
    unfold cutx
    rw[if_pos (by omega)]
    simp
   rw[e3,bS']
   exact Ok.pure ⟨⟨h3,by simp;omega,fun x hx=>h5 x (List.mem_of_mem_take hx)⟩,by simp;omega⟩
  .rw[jJ] at h
   exact Ok.pure ⟨h3,h4,h5,v,hv,by omega⟩
end

/-! valid -/
theorem cI (a b c:Int):kW a b c=some (ige a b&&ile a c):=by
 unfold kW;rw[jK,bS']
theorem exprR:∀(m d:Nat) (e:gExpr),EOk d e->d<=100->Okf (d<=m) (hP m e d) (fun v=>v=true):=by
 intro m
 induction m with
 |zero=>intro d e h _;exact Okf.none (by cases h<;>omega)
 |succ m ih=>
  intro d e h hd
  show Okf _ (fK (hP m) e d) _
  unfold fK
  cases h with
  |@num c n h=>
   rw[if_neg (by rw[zD];omega),if_pos (by simp[ieq])]
   simp only[cI,bS',jK]
   exact Okf.pure (by simp[ige,ile,ieq,ilen];omega)
  |@var c n h=>
   rw[if_neg (by rw[zD];omega),if_neg (by simp[ieq]),if_pos (by simp[ieq])]
   simp only[cI,bS',jK]
   exact Okf.pure (by simp[ige,ile,ieq,ilen];omega)
  |@bin c op x y h hx hy=>
   rw[if_neg (by rw[zD];omega),if_neg (by simp[ieq];omega),if_neg (by simp[ieq];omega)]
   have e1:isub .i64 ((c+1:Nat):Int) 1=((c:Nat):Int):=by rw[yI _ _ (by omega)];omega
   simp only[wK,cI,bS',jK,e1]
   have e2:(ige op 1&&ile op 12&&ieq 0 0&&ieq (ilen [x,y]) 2)=true:=by simp[ige,ile,ieq,ilen];omega
   rw[e2,if_pos rfl]
   refine Okf.bind (P:=fun v=>v=true) ?_ fun v hv=>?_
   .rw[show idx [x,y] 0=some x from rfl,bS']
    exact Okf.bind ((ih c x hx (by omega)).weak (by omega)) fun v hv=>Okf.pure hv
   subst hv
   rw[if_pos rfl]
   refine Okf.bind (P:=fun v=>v=true) ?_ fun v hv=>Okf.pure hv
   rw[show idx [x,y] 1=some y from rfl,bS']
   exact Okf.bind ((ih c y hy (by omega)).weak (by omega)) fun v hv=>Okf.pure hv
theorem mU {e:gExpr}(h:EOk 5 e):jH e=some true:=by
 obtain⟨v,hv,rfl⟩:=Ok.rec' 5 fun m=>exprR m 5 e h (by omega)
 unfold jH
 rw[show s_l4Ok e 5=some true from hv];rfl
theorem validR:∀m:Nat,(∀(n:Nat) (l:List gStmt),(∀x∈l,SOk Z n x)->l.length<=100->n<=100->Okf (2*n+2<=m) ((kD m).1 l n) (fun v=>v=true))/\(∀(n:Nat) (x:gStmt),SOk Z n x->n<=100->Okf (2*n+1<=m) ((kD m).2 x n) (fun v=>v=true)):=by
 intro m
 induction m with
 |zero=>exact⟨fun _ _ _ _ _=>Okf.none (by omega),fun _ _ _ _=>Okf.none (by omega)⟩
 |succ m ih=>
  refine⟨fun n l hl h1 hn=>?_,fun n x hx hn=>?_⟩
  .show Okf _ (wI ((kD m).1) ((kD m).2) l n) _
   unfold wI
   refine Okf.bind (P:=fun e=>e=.inl ()) ?_ fun e he=>by subst he;exact Okf.pure rfl
   refine Okf.loop (fun s=>∃i:Nat,s=(i:Int)/\i<=l.length) (fun s=>l.length-s.toNat) _ ⟨0,rfl,by omega⟩ ?_
   rintro _ ⟨i,rfl,hi⟩
   unfold sV
   dsimp only
   refine Okf.ite (fun h=>?_) fun h=>Okf.pure rfl
   rw[zD,zF] at h
   refine Okf.bnd (Ok.idx (by omega)) fun x hx=>?_
   refine Okf.bind ((ih.2 n x (hl x hx) hn).weak (by omega)) fun v hv=>?_
   subst hv
   rw[if_neg (by simp[bnot])]
   have e4:iadd .i64 (i:Int) 1=((i+1:Nat):Int):=by rw[zS _ _ (by omega)];rfl
   rw[e4]
   exact Okf.pure ⟨⟨i+1,rfl,by omega⟩,by omega⟩
  .show Okf _ (mD ((kD m).1) ((kD m).2) x n) _
   unfold mD
   cases hx with
   |set hv he=>
    rw[if_pos (by simp[ine]),bS',if_pos (by simp[ine])]
    have hs:∀z,z=some true->Okf (2*n+1<=m+1) (z.bind fun r2:Bool=>some r2) (fun v=>v=true):=fun z hz=>by rw[hz];exact Okf.pure rfl
    refine hs _ ?_
    simp[jF,yR,yS,jP,cI,igt,ilen,ieq,ige,ile,mU he,hv]
   |send hb he=>
    have hb:=And.intro hb.1 (Int.le_trans hb.2 (bxm_le Z).2)
    rw[if_pos (by simp[ine]),bS',if_pos (by simp[ine])]
    have hs:∀z,z=some true->Okf (2*n+1<=m+1) (z.bind fun r2:Bool=>some r2) (fun v=>v=true):=fun z hz=>by rw[hz];exact Okf.pure rfl
    refine hs _ ?_
    simp[jF,yR,yS,jP,cI,igt,ilen,ieq,ige,ile,mU he,hb]
   |recv hv hb=>
    have hb:=And.intro hb.1 (Int.le_trans hb.2 (bxm_le Z).2)
    rw[if_pos (by simp[ine]),bS',if_pos (by simp[ine])]
    have hs:∀z,z=some true->Okf (2*n+1<=m+1) (z.bind fun r2:Bool=>some r2) (fun v=>v=true):=fun z hz=>by rw[hz];exact Okf.pure rfl
    refine hs _ ?_
    simp[jF,yR,yS,jP,cI,igt,ilen,ieq,ige,ile,hv,hb]
   |yld=>
    rw[if_pos (by simp[ine]),bS',if_pos (by simp[ine])]
    have hs:∀z,z=some true->Okf (2*n+1<=m+1) (z.bind fun r2:Bool=>some r2) (fun v=>v=true):=fun z hz=>by rw[hz];exact Okf.pure rfl
    refine hs _ ?_
    simp[jF,yR,yS,jP,cI,igt,ilen,ieq,ige,ile]
   |prt he=>
    rw[if_pos (by simp[ine]),bS',if_pos (by simp[ine])]
    have hs:∀z,z=some true->Okf (2*n+1<=m+1) (z.bind fun r2:Bool=>some r2) (fun v=>v=true):=fun z hz=>by rw[hz];exact Okf.pure rfl
    refine hs _ ?_
    simp[jF,yR,yS,jP,cI,igt,ilen,ieq,ige,ile,mU he]
   |@ife c e B E he hB lB hE lE=>
    have e1:isub .i64 ((c+1:Nat):Int) 1=((c:Nat):Int):=by rw[yI _ _ (by omega)];omega
    refine Okf.bind (P:=fun g=>g=false) ?_ fun g1 h1=>?_
    .simp[ine];exact Okf.pure rfl
    subst h1
    rw[if_neg (by simp),if_neg (by rw[zD];omega),e1]
    refine Okf.bind (P:=fun g=>g=false) (Okf.bind (P:=fun g=>g=false) ?_ fun g hg=>Okf.pure hg) fun g4 h4=>?_
    .simp[ieq,igt,ilen];exact Okf.pure rfl
    subst h4
    rw[if_neg (by simp),show ∀k v e B E,yR ⟨k,0,v,e,B,E⟩ false=some true from fun _ _ _ _ _=>rfl,bS',if_pos rfl,show ∀k v e B E,yS ⟨k,v,0,e,B,E⟩ false=some true from fun _ _ _ _ _=>rfl,bS',bS',if_pos rfl,mU he,bS',bS',if_pos rfl]
    refine Okf.bind (P:=fun v=>v=true) ?_ fun v hv=>?_
    .refine Okf.bind ((ih.1 c B hB (by omega) (by omega)).weak (by omega)) fun v hv=>Okf.pure hv
    subst hv
    rw[if_pos rfl]
    refine Okf.bind (P:=fun v=>v=true) ?_ fun v hv=>Okf.pure hv
    refine Okf.bind ((ih.1 c E hE (by omega) (by omega)).weak (by omega)) fun v hv=>Okf.pure hv
   |@whl c e B he hB lB=>
    have e1:isub .i64 ((c+1:Nat):Int) 1=((c:Nat):Int):=by rw[yI _ _ (by omega)];omega
    refine Okf.bind (P:=fun g=>g=false) ?_ fun g1 h1=>?_
    .simp[ine];exact Okf.pure rfl
    subst h1
    rw[if_neg (by simp),if_neg (by rw[zD];omega),e1]
    refine Okf.bind (P:=fun g=>g=false) (Okf.bind (P:=fun g=>g=false) ?_ fun g hg=>Okf.pure hg) fun g4 h4=>?_
    .simp[ieq,igt,ilen];exact Okf.pure rfl
    subst h4
    rw[if_neg (by simp),show ∀k v e B E,yR ⟨k,0,v,e,B,E⟩ false=some true from fun _ _ _ _ _=>rfl,bS',if_pos rfl,show ∀k v e B E,yS ⟨k,v,0,e,B,E⟩ false=some true from fun _ _ _ _ _=>rfl,bS',bS',if_pos rfl,mU he,bS',bS',if_pos rfl]
    refine Okf.bind (P:=fun v=>v=true) ?_ fun v hv=>?_
    .refine Okf.bind ((ih.1 c B hB (by omega) (by omega)).weak (by omega)) fun v hv=>Okf.pure hv
    subst hv
    rw[if_pos rfl]
    refine Okf.bind (P:=fun v=>v=true) ?_ fun v hv=>Okf.pure hv
    refine Okf.bind ((ih.1 c [] (by simp) (by simp) (by omega)).weak (by omega)) fun v hv=>Okf.pure hv
theorem stmtsValid {l:List gStmt}(h:∀x∈l,SOk Z 3 x)(h1:l.length<=12){v:Int}(hv:jQ l=some v)(h2:v<=16):vY l=some true:=by
 obtain⟨u,hu,rfl⟩:=Ok.rec' 8 fun m=>(validR m).1 3 l h (by omega) (by omega)
 unfold vY
 rw[show nO l 3=some true from hu,bS',if_pos rfl,hv]
 simp only[bS']
 rw[(dV _ _).2 h2]
end Go.Abs

/- Drawn statements are compiled to valid quads. -/
set_option linter.unusedSimpArgs false
set_option linter.unusedVariables false
set_option maxHeartbeats 4000000
namespace Go.Abs
open Go

variable {Z:Bool}

def PE (Z:Bool)(d:Nat)(r:List gQuad):Prop:=r.length+1<=2 ^ d/\∀q∈r,QV Z q 0
theorem l22ExprR:∀(m d:Nat) (e:gExpr) (a:Int),EOk d e->4<=a->a+d<=12->Okf (d<=m) ((kO m).1 e a) (PE Z d)/\Okf (d<=m) ((kO m).2 e a) (PE Z d):=by
 intro m
 induction m with
 |zero=>intro d e a h _ _;exact⟨Okf.none (by cases h<;>omega),Okf.none (by cases h<;>omega)⟩
 |succ m ih=>
  intro d e a h h4 h12
  cases h with
  |@num c n h=>
   have hp:PE Z (c+1) [⟨1,a,0,0,n⟩]:=⟨by have:1<=2 ^ c:=Nat.one_le_pow _ _ (by omega);rw[Nat.pow_succ];simp;omega,fun q hq=>by simp at hq;subst hq;exact .inl ⟨rfl,by unfold Rg;dsimp only;omega,rfl,rfl,by unfold Wd;dsimp only;omega⟩⟩
   exact⟨Okf.pure hp,Okf.pure hp⟩
  |@var c n h=>
   have hp:PE Z (c+1) [⟨2,a,n,0,0⟩]:=⟨by have:1<=2 ^ c:=Nat.one_le_pow _ _ (by omega);rw[Nat.pow_succ];simp;omega,fun q hq=>by simp at hq;subst hq;exact .inr (.inl ⟨rfl,by unfold Rg;dsimp only;omega,by unfold Rg;dsimp only;omega,rfl,rfl⟩)⟩
   exact⟨Okf.pure hp,Okf.pure hp⟩
  |@bin c op x y h hx hy=>
   have hc:1<=c:=by cases hx<;>omega
   have e1:iadd .i64 a 1=a+1:=zS _ _ (by omega)
   have hpow:2 ^ (c+1)=2*2 ^ c:=by rw[Nat.pow_succ];omega
   have hp8:2 ^ c<=256:=Nat.le_trans (Nat.pow_le_pow_right (by omega) (show c<=8 by omega)) (by decide)
   have key:∀r3 r4:List gQuad,PE Z c r3->PE Z c r4->Okf (c+1<=m+1) ((appx 40 r3 r4).bind fun l5=>(appx 40 l5 ([(⟨3,a,a,a+1,op⟩:gQuad)]:List gQuad)).bind fun l6=>some l6) (PE Z (c+1)):=by
    intro r3 r4 k3 k4
    refine Okf.bnd (Ok.app (by have:=k3.1;have:=k4.1;omega)) fun l5 h5=>?_
    refine Okf.bnd (Ok.app (by have:=k3.1;have:=k4.1;rw[h5];simp;omega)) fun l6 h6=>Okf.pure ⟨by have:=k3.1;have:=k4.1;rw[h6,h5];simp;omega,fun q hq=>?_⟩
    rw[h6,h5] at hq
    rcases List.mem_append.1 hq with hq|hq
    .rcases List.mem_append.1 hq with hq|hq
     .exact k3.2 q hq
     .exact k4.2 q hq
    .simp at hq;subst hq
     exact .inr (.inr (.inl ⟨rfl,by unfold Rg;dsimp only;omega,by unfold Rg;dsimp only;omega,by unfold Rg;dsimp only;omega,h⟩))
   refine⟨?_,?_⟩
   .show Okf _ (tQ ((kO m).1) ((kO m).2) _ a) _
    unfold tQ
    rw[if_neg (by simp[ieq];omega),if_neg (by simp[ieq];omega),e1]
    refine Okf.bnd ⟨x,rfl,rfl⟩ fun v1 hv1=>Okf.bnd ⟨y,rfl,rfl⟩ fun v2 hv2=>?_
    subst hv1 hv2
    refine Okf.bind ((ih c x a hx h4 (by omega)).2.weak (by omega)) fun r3 h3=>?_
    exact Okf.bind ((ih c y (a+1) hy (by omega) (by omega)).1.weak (by omega)) fun r4 h4=>key r3 r4 h3 h4
   .show Okf _ (wE ((kO m).1) ((kO m).2) _ a) _
    unfold wE
    rw[if_neg (by simp[ieq];omega),if_neg (by simp[ieq];omega),e1]
    refine Okf.bnd ⟨x,rfl,rfl⟩ fun v1 hv1=>Okf.bnd ⟨y,rfl,rfl⟩ fun v2 hv2=>?_
    subst hv1 hv2
    refine Okf.bind ((ih c x a hx h4 (by omega)).2.weak (by omega)) fun r3 h3=>?_
    exact Okf.bind ((ih c y (a+1) hy (by omega) (by omega)).1.weak (by omega)) fun r4 h4=>key r3 r4 h3 h4
theorem Ok.l22Expr {e:gExpr}(h:EOk 5 e):Ok (wZ e 4) (fun r=>r.length<=31/\∀q∈r,QV Z q 0):=
 Ok.rec' 5 fun m=>((l22ExprR m 5 e 4 h (by omega) (by omega)).2).mono fun r hr=>⟨by have:=hr.1;omega,hr.2⟩

def PC (Z:Bool)(B:Nat)(a:Int)(r:List gQuad):Prop:=r.length<=B/\∀q∈r,QV Z q (a+r.length+1)
def qN (n:Nat):Nat:=40*30 ^ n
theorem qN_succ (n:Nat):qN (n+1)=30*qN n:=by unfold qN;rw[Nat.pow_succ];omega
theorem qN_ge (n:Nat):40<=qN n:=by
 unfold qN
 have:1<=30 ^ n:=Nat.one_le_pow _ _ (by omega)
 omega
theorem qN_le {n m:Nat}(h:n<=m):qN n<=qN m:=Nat.mul_le_mul_left _ (Nat.pow_le_pow_right (by omega) h)
theorem SOk.expr {n:Nat}{x:gStmt}(h:SOk Z n x):EOk 5 x.Expr:=by
 cases h<;>first|assumption|exact .num (by omega)
theorem quadsF {t:Prop}{Fr:gStmt->Int->Option (List gQuad)}{n:Nat}{l:List gStmt}{a:Int}(hn:n<=4)(hl:∀x∈l,SOk Z n x)(h1:l.length<=12)(ha:0<=a/\a+13*qN n<=2000000000)
  (h:∀x∈l,∀c:Int,0<=c/\c+qN n<=2000000000->Okf t (Fr x c) (PC Z (qN n) c)):
  Okf t (loopM (vX l a Fr) (0,([]:List gQuad))) (PC Z (l.length*qN n) a):=by
 have hq:qN n<=32400000:=Nat.le_trans (qN_le hn) (by decide)
 refine Okf.loop (fun s=>∃i:Nat,s.1=(i:Int)/\i<=l.length/\PC Z (i*qN n) a s.2) (fun s=>l.length-s.1.toNat) _ ⟨0,rfl,by omega,by simp,by simp⟩ ?_
 rintro⟨i',o⟩ ⟨i,h2,h3,h4⟩
 simp only at h2 h3 h4
 subst h2
 unfold vX
 dsimp only
 refine Okf.ite (fun hi=>?_) fun hi=>?_
 .rw[zD,zF] at hi
  have hm:(i+1)*qN n<=12*qN n:=Nat.mul_le_mul_right _ (by omega)
  have hm':(i+1)*qN n=i*qN n+qN n:=Nat.succ_mul _ _
  have h5:=h4.1
  have e1:iadd .i64 a (ilen o)=a+o.length:=by rw[zF,zS _ _ (by omega)]
  rw[e1]
  refine Okf.bnd (Ok.idx (by omega)) fun x hx=>?_
  refine Okf.bind (h x hx (a+o.length) (by omega)) fun r hr=>?_
  have h6:=hr.1
  refine Okf.bnd (Ok.app (by omega)) fun l2 k3=>Okf.pure ⟨⟨i+1,by rw[zS _ _ (by omega)];rfl,by omega,by rw[k3,hm'];simp;omega,fun q hq=>?_⟩,by simp only;rw[zS _ _ (by omega)];omega⟩
  simp only at hq
  rw[k3] at hq ⊢
  rw[List.length_append]
  rcases List.mem_append.1 hq with hq|hq
  .exact(h4.2 q hq).le (by push_cast;omega)
  .exact(hr.2 q hq).le (by push_cast;omega)
 .rw[zD,zF] at hi
  obtain rfl:i=l.length:=by omega
  exact Okf.pure h4
theorem QV.jump {n m:Int}(h:0<=n/\n<m):QV Z ⟨4,0,0,0,n⟩ m:=.inr (.inr (.inr (.inl ⟨rfl,rfl,rfl,rfl,h⟩)))
theorem QV.zero {n m:Int}(h:0<=n/\n<m):QV Z ⟨5,0,4,0,n⟩ m:=.inr (.inr (.inr (.inr (.inl ⟨rfl,rfl,by unfold Rg;dsimp only;omega,rfl,h⟩))))
theorem compR:∀m:Nat,
  (∀(n:Nat) (l:List gStmt) (a:Int),n<=4->(∀x∈l,SOk Z n x)->l.length<=12->0<=a/\a+13*qN n<=2000000000->Okf (3*n+3<=m) ((zN m).1 l a) (PC Z (l.length*qN n) a))/\
  (∀(n:Nat) (x:gStmt) (a:Int),n<=3->SOk Z (n+1) x->x.Kind=2->0<=a/\a+qN (n+1)<=2000000000->Okf (3*n+4<=m) ((zN m).2.1 x a) (PC Z (qN (n+1)) a))/\
  (∀(n:Nat) (x:gStmt) (a:Int),n<=3->SOk Z (n+1) x->x.Kind=3->0<=a/\a+qN (n+1)<=2000000000->Okf (3*n+4<=m) ((zN m).2.2.1 x a) (PC Z (qN (n+1)) a))/\
  (∀(n:Nat) (x:gStmt) (a:Int),n<=4->SOk Z n x->0<=a/\a+qN n<=2000000000->Okf (3*n+2<=m) ((zN m).2.2.2 x a) (PC Z (qN n) a)):=by
 intro m
 induction m with
 |zero=>exact⟨fun _ _ _ _ _ _ _=>Okf.none (by omega),fun _ _ _ _ _ _ _=>Okf.none (by omega),fun _ _ _ _ _ _ _=>Okf.none (by omega),fun _ _ _ _ _ _=>Okf.none (by omega)⟩
 |succ m ih=>
  obtain⟨i1,i2,i3,i4⟩:=ih
  refine⟨?_,?_,?_,?_⟩
  .intro n l a hn hl h1 ha
   show Okf _ (tP ((zN m).1) ((zN m).2.1) ((zN m).2.2.1) ((zN m).2.2.2) l a) _
   unfold tP
   have hq:qN n<=32400000:=Nat.le_trans (qN_le hn) (by decide)
   exact Okf.bind (quadsF hn hl h1 ha fun x hx c hc=>(i4 n x c hn (hl x hx) (by omega)).weak (by omega)) fun r hr=>Okf.pure hr
  .intro n x a hn hx hk ha
   show Okf _ (mC ((zN m).1) ((zN m).2.1) ((zN m).2.2.1) ((zN m).2.2.2) x a) _
   unfold mC
   cases hx with
   |@ife c e B E he hB lB hE lE=>
    dsimp only
    have hq:qN n<=32400000:=Nat.le_trans (qN_le (by omega:n<=4)) (by decide)
    have hg:=qN_ge n
    rw[qN_succ] at ha ⊢
    refine Okf.bnd (Ok.l22Expr (Z:=Z) he) fun r1 h1=>?_
    have e1:iadd .i64 a (ilen r1)=a+r1.length:=by rw[zF,zS _ _ (by omega)]
    have e2:iadd .i64 (a+r1.length) 1=a+r1.length+1:=zS _ _ (by omega)
    rw[e1,e2]
    have hB5:B.length*qN n<=5*qN n:=Nat.mul_le_mul_right _ lB
    have hE5:E.length*qN n<=5*qN n:=Nat.mul_le_mul_right _ lE
    refine Okf.bind ((i1 n B (a+r1.length+1) (by omega) hB (by omega) (by omega)).weak (by omega)) fun r2 h2=>?_
    have l1:=h1.1
    have l2:=h2.1
    have e3:iadd .i64 (a+r1.length+1) (ilen r2)=a+r1.length+1+r2.length:=by rw[zF,zS _ _ (by omega)]
    have e4:iadd .i64 (a+r1.length+1+r2.length) 1=a+r1.length+1+r2.length+1:=zS _ _ (by omega)
    rw[e3]
    refine Okf.ite (fun _=>?_) fun _=>?_
    .refine Okf.bnd (Ok.app (by simp;omega)) fun l3 h3=>Okf.bnd (Ok.app (by rw[h3];simp;omega)) fun l4 h4=>Okf.pure ⟨by rw[h4,h3];simp;omega,fun q hq=>?_⟩
     rw[h4,h3] at hq ⊢
     simp only[List.length_append,List.length_singleton]
     simp only[List.mem_append,List.mem_singleton] at hq
     rcases hq with(hq|rfl)|hq
     .exact(h1.2 q hq).le (by omega)
     .exact QV.zero (by push_cast;omega)
     .exact(h2.2 q hq).le (by push_cast;omega)
    .rw[e4]
     refine Okf.bind ((i1 n E (a+r1.length+1+r2.length+1) (by omega) hE (by omega) (by omega)).weak (by omega)) fun r5 h5=>?_
     have l5:=h5.1
     have e5:iadd .i64 (a+r1.length+1+r2.length+1) (ilen r5)=a+r1.length+1+r2.length+1+r5.length:=by rw[zF,zS _ _ (by omega)]
     rw[e5]
     refine Okf.bnd (Ok.app (by simp;omega)) fun l6 h6=>Okf.bnd (Ok.app (by rw[h6];simp;omega)) fun l7 h7=>Okf.bnd (Ok.app (by rw[h7,h6];simp;omega)) fun l8 h8=>Okf.bnd (Ok.app (by rw[h8,h7,h6];simp;omega)) fun l9 h9=>Okf.pure ⟨by rw[h9,h8,h7,h6];simp;omega,fun q hq=>?_⟩
     rw[h9,h8,h7,h6] at hq ⊢
     simp only[List.length_append,List.length_singleton]
     simp only[List.mem_append,List.mem_singleton] at hq
     rcases hq with(((hq|rfl)|hq)|rfl)|hq
     .exact(h1.2 q hq).le (by omega)
     .exact QV.zero (by push_cast;omega)
     .exact(h2.2 q hq).le (by push_cast;omega)
     .exact QV.jump (by push_cast;omega)
     .exact(h5.2 q hq).le (by push_cast;omega)
   |set _ _=>cases hk
   |send _ _=>cases hk
   |recv _ _=>cases hk
   |yld=>cases hk
   |prt _=>cases hk
   |whl _ _ _=>cases hk
  .intro n x a hn hx hk ha
   show Okf _ (vW ((zN m).1) ((zN m).2.1) ((zN m).2.2.1) ((zN m).2.2.2) x a) _
   unfold vW
   cases hx with
   |@whl c e B he hB lB=>
    dsimp only
    have hq:qN n<=32400000:=Nat.le_trans (qN_le (by omega:n<=4)) (by decide)
    have hg:=qN_ge n
    rw[qN_succ] at ha ⊢
    refine Okf.bnd (Ok.l22Expr (Z:=Z) he) fun r1 h1=>?_
    have l1:=h1.1
    have e1:iadd .i64 a (ilen r1)=a+r1.length:=by rw[zF,zS _ _ (by omega)]
    have e2:iadd .i64 (a+r1.length) 1=a+r1.length+1:=zS _ _ (by omega)
    rw[e1,e2]
    have hB5:B.length*qN n<=5*qN n:=Nat.mul_le_mul_right _ lB
    refine Okf.bind ((i1 n B (a+r1.length+1) (by omega) hB (by omega) (by omega)).weak (by omega)) fun r2 h2=>?_
    have l2:=h2.1
    have e3:iadd .i64 (a+r1.length+1) (ilen r2)=a+r1.length+1+r2.length:=by rw[zF,zS _ _ (by omega)]
    have e4:iadd .i64 (a+r1.length+1+r2.length) 1=a+r1.length+1+r2.length+1:=zS _ _ (by omega)
    rw[e3,e4]
    refine Okf.bnd (Ok.app (by simp;omega)) fun l3 h3=>Okf.bnd (Ok.app (by rw[h3];simp;omega)) fun l4 h4=>Okf.bnd (Ok.app (by rw[h4,h3];simp;omega)) fun l5 h5=>Okf.pure ⟨by rw[h5,h4,h3];simp;omega,fun q hq=>?_⟩
    rw[h5,h4,h3] at hq ⊢
    simp only[List.length_append,List.length_singleton]
    simp only[List.mem_append,List.mem_singleton] at hq
    rcases hq with((hq|rfl)|hq)|rfl
    .exact(h1.2 q hq).le (by omega)
    .exact QV.zero (by push_cast;omega)
    .exact(h2.2 q hq).le (by push_cast;omega)
    .exact QV.jump (by push_cast;omega)
   |set _ _=>cases hk
   |send _ _=>cases hk
   |recv _ _=>cases hk
   |yld=>cases hk
   |prt _=>cases hk
   |ife _ _ _ _ _=>cases hk
  .intro n x a hn hx ha
   show Okf _ (tO ((zN m).1) ((zN m).2.1) ((zN m).2.2.1) ((zN m).2.2.2) x a) _
   unfold tO
   have hg:=qN_ge n
   refine Okf.bnd (Ok.l22Expr (Z:=Z) hx.expr) fun r1 h1=>?_
   have l1:=h1.1
   have one:∀q0:gQuad,(∀m,QV Z q0 m)->Okf (3*n+2<=m+1) ((appx 40 r1 ([q0]:List gQuad)).bind fun l4=>some l4) (PC Z (qN n) a):=by
    intro q0 h0
    refine Okf.bnd (Ok.app (by simp;omega)) fun l3 h3=>Okf.pure ⟨by rw[h3];simp;omega,fun q hq=>?_⟩
    rw[h3] at hq
    rcases List.mem_append.1 hq with hq|hq
    .exact(h1.2 q hq).le (by omega)
    .simp at hq;subst hq;exact h0 _
   refine Okf.ite (fun hk=>?_) fun h2=>?_
   .rw[zP] at hk
    obtain⟨c,rfl⟩:∃c,n=c+1:=by cases hx<;>first|exact⟨_,rfl⟩|cases hk
    exact Okf.bind ((i2 c x a (by omega) hx hk ha).weak (by omega)) fun r hr=>Okf.pure hr
   refine Okf.ite (fun hk=>?_) fun h3=>?_
   .rw[zP] at hk
    obtain⟨c,rfl⟩:∃c,n=c+1:=by cases hx<;>first|exact⟨_,rfl⟩|cases hk
    exact Okf.bind ((i3 c x a (by omega) hx hk ha).weak (by omega)) fun r hr=>Okf.pure hr
   have var:0<=x.Var/\x.Var<=3/\0<=x.Box/\x.Box<=bxm Z:=by have hb1:=bxm_le Z;cases hx<;>dsimp only<;>omega
   refine Okf.ite (fun hk=>?_) fun _=>?_
   .exact one _ fun m=>.inr (.inl ⟨rfl,by unfold Rg;dsimp only;omega,by unfold Rg;dsimp only;omega,rfl,rfl⟩)
   refine Okf.ite (fun hk=>?_) fun _=>?_
   .exact one _ fun m=>.inr (.inr (.inr (.inr (.inr (.inl ⟨rfl,rfl,by unfold Rg;dsimp only;omega,rfl,by dsimp only;omega⟩)))))
   refine Okf.ite (fun hk=>?_) fun _=>?_
   .exact one _ fun m=>.inr (.inr (.inr (.inr (.inr (.inr (.inr (.inr (.inl ⟨rfl,rfl,by unfold Rg;dsimp only;omega,rfl,rfl⟩))))))))
   refine Okf.ite (fun hk=>?_) fun _=>?_
   .exact Okf.pure ⟨by simp;omega,fun q hq=>by simp at hq;subst hq;exact .inr (.inr (.inr (.inr (.inr (.inr (.inl ⟨rfl,by unfold Rg;dsimp only;omega,rfl,rfl,by dsimp only;omega⟩))))))⟩
   .exact Okf.pure ⟨by simp;omega,fun q hq=>by simp at hq;subst hq;exact .inr (.inr (.inr (.inr (.inr (.inr (.inr (.inl ⟨rfl,rfl,rfl,rfl,rfl⟩)))))))⟩
theorem Ok.compile {l:List gStmt}(h:∀x∈l,SOk Z 3 x)(h1:l.length<=12){v:Int}(hv:jQ l=some v)(h2:v<=16):
  Ok (wM l) (fun r=>r.2=true/\1<=r.1.length/\r.1.length<=13000000/\(∀q∈r.1,QV Z q r.1.length)/\∀q,r.1[r.1.length-1]? =some q->q.Op=10\/q.Op=4):=by
 unfold wM
 rw[stmtsValid h h1 hv h2,bS',if_neg (by simp[bnot])]
 have q3:qN 3=1080000:=by decide
 have hl3:l.length*qN 3<=12*qN 3:=Nat.mul_le_mul_right _ h1
 refine Ok.bind (P:=PC Z (l.length*qN 3) 0) ?_ fun r hr=>?_
 .unfold nN
  refine Ok.bind (P:=PC Z (l.length*qN 3) 0) ?_ fun r hr=>Ok.pure hr
  have e:sU l 0=vX l 0 fQ:=rfl
  rw[e]
  refine Okf.ok (quadsF (by omega) h h1 (by omega) fun x hx c hc=>Ok.f ?_)
  exact Ok.rec' 11 fun m=>(compR m).2.2.2 3 x c (by omega) (h x hx) (by omega)
 .have hr1:=hr.1
  refine Ok.bind (Ok.app (by simp;omega)) fun l3 h3=>Ok.pure ⟨rfl,?_⟩
  dsimp only
  rw[h3]
  refine⟨by simp,by simp;omega,fun q hq=>?_,fun q hq=>?_⟩
  .rcases List.mem_append.1 hq with hq|hq
   .exact(hr.2 q hq).le (by simp)
   .simp at hq;subst hq;exact .inr (.inr (.inr (.inr (.inr (.inr (.inr (.inr (.inr ⟨rfl,rfl,rfl,rfl,rfl⟩))))))))
  .simp at hq;subst hq;exact .inl rfl
end Go.Abs
