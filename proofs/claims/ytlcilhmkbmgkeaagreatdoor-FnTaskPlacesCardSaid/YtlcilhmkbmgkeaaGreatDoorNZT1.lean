/- The contracts of functions of the program, part 1: each computes what its mirror computes. No conditions. -/
import Derived.Test.YtlcilhmkbmgkeaaGreatDoorNZT0
set_option linter.unusedSimpArgs false
set_option linter.unusedVariables false
set_option maxRecDepth 20000
set_option maxHeartbeats 4000000
namespace Go.Proofs.YtlcilhmkbmgkeaaGreatDoor
open Go Go.Abs Go.RowKit

theorem c173B {Fr9:(List gStmt)→Int→Option (Bool)} {Fr10:gStmt→Int→Option (Bool)} (hFr9:∀{p0:(List gStmt)} {p1:Int} {r:Bool} (H:Fr9 p0 p1=some r),APure Tryz.prog G 173 [.fsl (encL rStmt p0),.int .i64 p1] (.bool r)) (hFr10:∀{p0:gStmt} {p1:Int} {r:Bool} (H:Fr10 p0 p1=some r),APure Tryz.prog G 181 [.agg [.int .i64 p0.Kind,.int .i64 p0.Var,.int .i64 p0.Box,.int .i64 p0.Expr.Op,.int .i64 p0.Expr.N,.fsl (encL rExpr p0.Expr.Args),.fsl (encL rStmt p0.Body),.fsl (encL rStmt p0.Else)],.int .i64 p1] (.bool r)) {p0:(List gStmt)} {p1:Int} {r:Bool} (H:s_l11Blocks_B Fr9 Fr10 p0 p1=some r):APure Tryz.prog G 173 [.fsl (encL rStmt p0),.int .i64 p1] (.bool r):=by
 refine APure_fn (fun N0=>?_) (by simp)
 refine fnK tok Tryz.func173 Tryz.ntmps173 Tryz.results173 ?_
 simp only[argsA,Nat.reduceAdd,hp_next]
 unfold s_l11Blocks_B at H
 refine S0 tok [] [0,1] ?_
 refine AWP_sq [] fun K1 hK1=>?_
 refine S0 tok [] [0,1,5] ?_
 refine AWP_block (AWP_thenB ?_)
 obtain⟨e1,hse1,H⟩:=bindE H
 refine AWP_lp [0,1,5] (fun s a σ=>∃M1:Nat,N0≤M1∧a=[(0,.fsl (encL rStmt p0)),(1,.int .i64 p1),(5,.int .i64 s)]∧σ=hp E0 [] M1) (fun e x a σ=>match e with|.inl s=>x=.exit 0∧Rc G 19 N0 (fun a σ=>∃M2:Nat,N0≤M2∧a=[]∧σ=hp E0 [] M2) (AAct.keep a []) σ|.inr s=>x=.ret∧∃vs,resA T σ a [.tmp 4]=some vs∧∃d,thawA (fun _=>true) σ d (tupA vs)=.bool s) hse1 ?_ ?_ ?_
 ·refine Rc.kp [0,1,5] [(0,.fsl (encL rStmt p0)),(1,.int .i64 p1),(5,.int .i64 0)] rfl ?_
  exact Rf ⟨N0+2,(by omega),rfl,rfl⟩
 ·clear H hse1
  rintro s1 fl a σ H ⟨M1,fM1_0,rfl,rfl⟩ K2 O2 hK2 hO2
  unfold s_l11Blocks_L1 at H;dsimp only at H
  refine AWP_sq [0,1,5] fun K3 hK3=>?_
  refine S0 tok [] [0,1,5,9] ?_
  refine Cd (fun C1=>?_) fun C1=>?_
  ·replace H:=ifT C1 H
   refine AWP_skip (Jn hK3 ?_)
   refine AWP_sq [0,1,5] fun K4 hK4=>?_
   refine AWP_block (AWP_thenB ?_)
   obtain⟨v2,hv2,H⟩:=bindE H
   obtain⟨r3,hr3,H⟩:=bindE H
   refine Sx tok [] [0,1,5,18] (by intro K k;(repeat first|simp -dsimp -implicitDefEqProofs [ix160 hv2]|refine(hFr10 hr3).app ?_);exact k) ?_
   refine Cd (fun C2=>?_) fun C2=>?_
   ·replace H:=ifT C2 H
    refine S0 tok [] [4] ?_
    obtain rfl:=oi H
    refine Kp [4] ?_
    refine AWP_ret (hO2 _ _ _ _ rfl ⟨rfl,?_⟩)
    exact⟨[.bool false],by simp,4,by simp[encL_nil]⟩
   ·replace H:=ifF C2 H
    refine AWP_skip (Jn hK4 ?_)
    refine Rt0 tok [] [0,1,5] fun a ha=>?_
    obtain rfl:=oi H
    refine hK2 _ _ _ rfl ?_;rw[ha]
    exact Rf ⟨M1+14,(by omega),rfl,rfl⟩
  ·obtain rfl:=oi (ifF C1 H)
   refine AWP_exit (hO2 _ _ _ _ rfl ⟨rfl,?_⟩)
   refine Rc.rw (l:=[]) (X:=[]) rfl ?_
   exact Rf ⟨M1+4,(by omega),rfl,rfl⟩
 ·intro x a σ hx
  rcases e1 with⟨⟩|r0
  ·obtain⟨rfl,b,τ,hr,M2,fM2_0,rfl,rfl⟩:=hx
   (try dsimp only at H)
   show K1 _ _
   refine hK1 _ _ (Rc_ref hr ?_)
   refine Rc.mk ?_
   refine S0 tok [] [4] ?_
   obtain rfl:=oi H;exact AWP_ret ⟨_,rfl,4,by simp[encL_nil]⟩
  ·obtain⟨rfl,hx2⟩:=hx
   (try dsimp only at H)
   obtain rfl:=oi H;first|exact hx2|(simp only[List.set_set] at hx2 ⊢;exact hx2)
theorem c181B {Fr9:(List gStmt)→Int→Option (Bool)} {Fr10:gStmt→Int→Option (Bool)} (hFr9:∀{p0:(List gStmt)} {p1:Int} {r:Bool} (H:Fr9 p0 p1=some r),APure Tryz.prog G 173 [.fsl (encL rStmt p0),.int .i64 p1] (.bool r)) (hFr10:∀{p0:gStmt} {p1:Int} {r:Bool} (H:Fr10 p0 p1=some r),APure Tryz.prog G 181 [.agg [.int .i64 p0.Kind,.int .i64 p0.Var,.int .i64 p0.Box,.int .i64 p0.Expr.Op,.int .i64 p0.Expr.N,.fsl (encL rExpr p0.Expr.Args),.fsl (encL rStmt p0.Body),.fsl (encL rStmt p0.Else)],.int .i64 p1] (.bool r)) {p0:gStmt} {p1:Int} {r:Bool} (H:s_l11Ok_B Fr9 Fr10 p0 p1=some r):APure Tryz.prog G 181 [.agg [.int .i64 p0.Kind,.int .i64 p0.Var,.int .i64 p0.Box,.int .i64 p0.Expr.Op,.int .i64 p0.Expr.N,.fsl (encL rExpr p0.Expr.Args),.fsl (encL rStmt p0.Body),.fsl (encL rStmt p0.Else)],.int .i64 p1] (.bool r):=by
 refine APure_fn (fun N0=>?_) (by simp)
 refine fnK tok Tryz.func181 Tryz.ntmps181 Tryz.results181 ?_
 simp only[argsA,Nat.reduceAdd,hp_next]
 unfold s_l11Ok_B at H
 refine S0 tok [0] [1,2] ?_
 refine AWP_sq [1,2] fun K1 hK1=>?_
 obtain⟨g1,hg1,H⟩:=bindE H
 refine Sx tok [] [1,2,12] (X:=[(1,.int .i64 p1),(2,.fptr [.int .i64 p0.Kind,.int .i64 p0.Var,.int .i64 p0.Box,.int .i64 p0.Expr.Op,.int .i64 p0.Expr.N,.fsl (encL rExpr p0.Expr.Args),.fsl (encL rStmt p0.Body),.fsl (encL rStmt p0.Else)] 0),(12,.bool g1)]) (Y:=hp E0 [] (N0+10)) (by
  intro K k
  simp -dsimp -implicitDefEqProofs
  cases hbg1:ine p0.Kind 2
  ·obtain rfl:=oi (ifF hbg1 hg1)
   try simp -dsimp -implicitDefEqProofs [hbg1]
   exact k
  ·obtain rfl:=oi (ifT hbg1 hg1)
   try simp -dsimp -implicitDefEqProofs [hbg1]
   exact k) ?_
 refine Cd (fun C1=>?_) fun C1=>?_
 ·replace H:=ifT C1 H
  obtain⟨r2,hr2,H⟩:=bindE H
  refine Sx tok [] [4] (by intro K k;(repeat first|simp -dsimp -implicitDefEqProofs|refine(c201 hr2).app ?_);exact k) ?_
  obtain rfl:=oi H;exact AWP_ret ⟨_,rfl,4,by simp[encL_nil]⟩
 ·replace H:=ifF C1 H
  refine AWP_skip (Jn hK1 ?_)
  refine AWP_sq [1,2] fun K2 hK2=>?_
  obtain⟨g4,hg4,H⟩:=bindE H
  refine Sx tok [] [1,2,27] (X:=[(1,.int .i64 p1),(2,.fptr [.int .i64 p0.Kind,.int .i64 p0.Var,.int .i64 p0.Box,.int .i64 p0.Expr.Op,.int .i64 p0.Expr.N,.fsl (encL rExpr p0.Expr.Args),.fsl (encL rStmt p0.Body),.fsl (encL rStmt p0.Else)] 0),(27,.bool g4)]) (Y:=hp E0 [] (N0+23)) (by
   intro K k
   simp -dsimp -implicitDefEqProofs
   cases hbg4:ilt p1 1
   ·replace hg4:=ifF hbg4 hg4
    obtain⟨g3,hg3,hg4⟩:=bindE hg4
    obtain rfl:=oi hg4
    try simp -dsimp -implicitDefEqProofs [hbg4]
    cases hbg3:ieq p0.Kind 3
    ·obtain rfl:=oi (ifF hbg3 hg3)
     try simp -dsimp -implicitDefEqProofs [hbg4,hbg3]
     exact k
    ·obtain rfl:=oi (ifT hbg3 hg3)
     try simp -dsimp -implicitDefEqProofs [hbg4,hbg3]
     exact k
   ·obtain rfl:=oi (ifT hbg4 hg4)
    try simp -dsimp -implicitDefEqProofs [hbg4]
    exact k) ?_
  refine Cd (fun C2=>?_) fun C2=>?_
  ·replace H:=ifT C2 H
   refine S0 tok [] [4] ?_
   obtain rfl:=oi H;exact AWP_ret ⟨_,rfl,4,by simp[encL_nil]⟩
  ·replace H:=ifF C2 H
   refine AWP_skip (Jn hK2 ?_)
   obtain⟨r5,hr5,H⟩:=bindE H
   obtain⟨g7,hg7,H⟩:=bindE H
   obtain⟨g9,hg9,H⟩:=bindE H
   obtain⟨g11,hg11,H⟩:=bindE H
   obtain⟨g13,hg13,H⟩:=bindE H
   refine Sx tok [] [4] (X:=[(4,.bool g13)]) (Y:=hp E0 [] (N0+49)) (by
    intro K k
    simp -dsimp -implicitDefEqProofs
    refine(c202 hr5).app ?_;try simp -dsimp -implicitDefEqProofs
    cases hbg7:r5
    ·obtain rfl:=oi (ifF hbg7 hg7)
     obtain rfl:=oi (ifF rfl hg9)
     obtain rfl:=oi (ifF rfl hg11)
     obtain rfl:=oi (ifF rfl hg13)
     try simp -dsimp -implicitDefEqProofs [hbg7]
     exact k
    ·replace hg7:=ifT hbg7 hg7
     obtain⟨r6,hr6,hg7⟩:=bindE hg7
     obtain rfl:=oi hg7
     try simp -dsimp -implicitDefEqProofs [hbg7]
     refine(c203 hr6).app ?_;try simp -dsimp -implicitDefEqProofs [hbg7]
     cases hbg9:r6
     ·obtain rfl:=oi (ifF hbg9 hg9)
      obtain rfl:=oi (ifF rfl hg11)
      obtain rfl:=oi (ifF rfl hg13)
      try simp -dsimp -implicitDefEqProofs [hbg7,hbg9]
      exact k
     ·replace hg9:=ifT hbg9 hg9
      obtain⟨r8,hr8,hg9⟩:=bindE hg9
      obtain rfl:=oi hg9
      try simp -dsimp -implicitDefEqProofs [hbg7,hbg9]
      refine(c204 hr8).app ?_;try simp -dsimp -implicitDefEqProofs [hbg7,hbg9]
      cases hbg11:r8
      ·obtain rfl:=oi (ifF hbg11 hg11)
       obtain rfl:=oi (ifF rfl hg13)
       try simp -dsimp -implicitDefEqProofs [hbg7,hbg9,hbg11]
       exact k
      ·replace hg11:=ifT hbg11 hg11
       obtain⟨r10,hr10,hg11⟩:=bindE hg11
       obtain rfl:=oi hg11
       try simp -dsimp -implicitDefEqProofs [hbg7,hbg9,hbg11]
       refine(hFr9 hr10).app ?_;try simp -dsimp -implicitDefEqProofs [hbg7,hbg9,hbg11]
       cases hbg13:r10
       ·obtain rfl:=oi (ifF hbg13 hg13)
        try simp -dsimp -implicitDefEqProofs [hbg7,hbg9,hbg11,hbg13]
        exact k
       ·replace hg13:=ifT hbg13 hg13
        obtain⟨r12,hr12,hg13⟩:=bindE hg13
        obtain rfl:=oi hg13
        try simp -dsimp -implicitDefEqProofs [hbg7,hbg9,hbg11,hbg13]
        refine(hFr9 hr12).app ?_;try simp -dsimp -implicitDefEqProofs [hbg7,hbg9,hbg11,hbg13]
        exact k) ?_
   obtain rfl:=oi H;exact AWP_ret ⟨_,rfl,4,by simp[encL_nil]⟩
theorem c173R:∀n:Nat,(∀{p0:(List gStmt)} {p1:Int} {r:Bool} (H:(s_l11Blocks_R n).1 p0 p1=some r),APure Tryz.prog G 173 [.fsl (encL rStmt p0),.int .i64 p1] (.bool r))∧(∀{p0:gStmt} {p1:Int} {r:Bool} (H:(s_l11Blocks_R n).2 p0 p1=some r),APure Tryz.prog G 181 [.agg [.int .i64 p0.Kind,.int .i64 p0.Var,.int .i64 p0.Box,.int .i64 p0.Expr.Op,.int .i64 p0.Expr.N,.fsl (encL rExpr p0.Expr.Args),.fsl (encL rStmt p0.Body),.fsl (encL rStmt p0.Else)],.int .i64 p1] (.bool r)):=by
 intro n;induction n with
 |zero=>exact⟨by intro p0 p1 r H;exact absurd H (by simp[s_l11Blocks_R]),by intro p0 p1 r H;exact absurd H (by simp[s_l11Blocks_R])⟩
 |succ n ih=>exact⟨by intro p0 p1 r H;exact c173B (hFr9:=ih.1) (hFr10:=ih.2) H,by intro p0 p1 r H;exact c181B (hFr9:=ih.1) (hFr10:=ih.2) H⟩
theorem c173 {p0:(List gStmt)} {p1:Int} {r:Bool} (H:s_l11Blocks p0 p1=some r):APure Tryz.prog G 173 [.fsl (encL rStmt p0),.int .i64 p1] (.bool r):=by
 unfold s_l11Blocks at H
 obtain⟨n,H⟩:=recF_some H
 exact(c173R n).1 H
theorem c161 {p0:(List gStmt)} {r:Bool} (H:s_StmtsValid p0=some r):APure Tryz.prog G 161 [.fsl (encL rStmt p0)] (.bool r):=by
 refine APure_fn (fun N0=>?_) (by simp)
 refine fnK tok Tryz.func161 Tryz.ntmps161 Tryz.results161 ?_
 simp only[argsA,Nat.reduceAdd,hp_next]
 unfold s_StmtsValid at H
 refine S0 tok [] [0] ?_
 obtain⟨r1,hr1,H⟩:=bindE H
 obtain⟨g3,hg3,H⟩:=bindE H
 refine Sx tok [] [2] (X:=[(2,.bool g3)]) (Y:=hp E0 [] (N0+9)) (by
  intro K k
  simp -dsimp -implicitDefEqProofs
  refine(c173 hr1).app ?_;try simp -dsimp -implicitDefEqProofs
  cases hbg3:r1
  ·obtain rfl:=oi (ifF hbg3 hg3)
   try simp -dsimp -implicitDefEqProofs [hbg3]
   exact k
  ·replace hg3:=ifT hbg3 hg3
   obtain⟨r2,hr2,hg3⟩:=bindE hg3
   obtain rfl:=oi hg3
   try simp -dsimp -implicitDefEqProofs [hbg3]
   refine(c164 hr2).app ?_;try simp -dsimp -implicitDefEqProofs [hbg3]
   exact k) ?_
 obtain rfl:=oi H;exact AWP_ret ⟨_,rfl,4,by simp[encL_nil]⟩
theorem c182B {Fr11:gExpr→Int→Option ((List gQuad))} {Fr12:gExpr→Int→Option ((List gQuad))} (hFr11:∀{p0:gExpr} {p1:Int} {r:(List gQuad)} (H:Fr11 p0 p1=some r),APure Tryz.prog G 182 [.agg [.int .i64 p0.Op,.int .i64 p0.N,.fsl (encL rExpr p0.Args)],.int .i64 p1] (.fsl (encL rQuad r))) (hFr12:∀{p0:gExpr} {p1:Int} {r:(List gQuad)} (H:Fr12 p0 p1=some r) {σ:AHeap},ACalls Tryz.prog G 182 [.agg [.int .i64 p0.Op,.int .i64 p0.N,.fsl (encL rExpr p0.Args)],.int .i64 p1] σ (fun v σ'=>∃M n0:Nat,σ.next≤M∧σ.next≤n0∧n0<M∧v=.sl n0 0 r.length∧σ'=hp σ.objs [(n0,some ⟨48,5,encL rQuad r⟩)] M)) {p0:gExpr} {p1:Int} {r:(List gQuad)} (H:s_l22Expr_B Fr11 Fr12 p0 p1=some r):APure Tryz.prog G 182 [.agg [.int .i64 p0.Op,.int .i64 p0.N,.fsl (encL rExpr p0.Args)],.int .i64 p1] (.fsl (encL rQuad r)):=by
 refine APure_fn (fun N0=>?_) (by simp)
 refine fnK tok Tryz.func182 Tryz.ntmps182 Tryz.results182 ?_
 simp only[argsA,Nat.reduceAdd,hp_next]
 unfold s_l22Expr_B at H
 refine S0 tok [0] [1,2] ?_
 refine AWP_sq [1,2] fun K1 hK1=>?_
 refine S0 tok [] [1,2,8] ?_
 refine Cd (fun C1=>?_) fun C1=>?_
 ·replace H:=ifT C1 H
  have q0:∀σ i,buildSliceA T 39 true i 1 [(0,.agg [.int .i64 1,.int .i64 p1,.int .i64 0,.int .i64 0,.int .i64 p0.N])] σ=some (.fsl (encL rQuad ([(⟨1,p1,0,0,p0.N⟩:gQuad)]:List gQuad)),σ):=fun _ _=>rfl
  refine Sx tok [4] [4] (by intro K k;simp -dsimp -implicitDefEqProofs [q0];exact k) ?_
  obtain rfl:=oi H;exact AWP_ret ⟨_,rfl,4,by simp[encL_nil]⟩
 ·replace H:=ifF C1 H
  refine AWP_skip (Jn hK1 ?_)
  refine AWP_sq [1,2] fun K2 hK2=>?_
  refine S0 tok [] [1,2,16] ?_
  refine Cd (fun C2=>?_) fun C2=>?_
  ·replace H:=ifT C2 H
   have q1:∀σ i,buildSliceA T 39 true i 1 [(0,.agg [.int .i64 2,.int .i64 p1,.int .i64 p0.N,.int .i64 0,.int .i64 0])] σ=some (.fsl (encL rQuad ([(⟨2,p1,p0.N,0,0⟩:gQuad)]:List gQuad)),σ):=fun _ _=>rfl
   refine Sx tok [4] [4] (by intro K k;simp -dsimp -implicitDefEqProofs [q1];exact k) ?_
   obtain rfl:=oi H;exact AWP_ret ⟨_,rfl,4,by simp[encL_nil]⟩
  ·replace H:=ifF C2 H
   refine AWP_skip (Jn hK2 ?_)
   obtain⟨v1,hv1,H⟩:=bindE H
   obtain⟨v2,hv2,H⟩:=bindE H
   obtain⟨r3,hr3,H⟩:=bindE H
   obtain⟨r4,hr4,H⟩:=bindE H
   obtain⟨l5,hl5,H⟩:=bindE H
   refine AWP_sd tok tokM [] [5,13] [0,1,2,3,4,6,7,8,9,10,11,5,12,13,14] [1,2,5] (fun a σ=>∃M1 o1:Nat,N0+23≤M1∧N0+23≤o1∧o1<M1∧a=[(1,.int .i64 p1),(2,.fptr [.int .i64 p0.Op,.int .i64 p0.N,.fsl (encL rExpr p0.Args)] 0),(5,.sl (N0+21) 0 l5.length)]∧σ=hp E0 [(N0+21,some ⟨48,5,encL rQuad l5⟩)] M1) (by decide) (fun K hK=>?_) ?_
   ·simp only[pickL,nthO_succ,nthO_zero]
    simp -dsimp -implicitDefEqProofs [ix176 hv1,ix176 hv2,app39 hl5]
    refine(hFr12 (H:=hr3)).mono ?_;rintro _ _ ⟨M1,o1,fM1_0,fM1_1,fM1_2,rfl,rfl⟩;simp only[hp_next] at fM1_0 fM1_1 fM1_2
    have eM1_0:=nQ o1 (N0+21)
    try simp -dsimp -implicitDefEqProofs [ix176 hv1,ix176 hv2,app39 hl5,eM1_0,hp_over_some,hp_over_none]
    refine Pc.mk (hFr11 hr4) ?_;try simp -dsimp -implicitDefEqProofs [ix176 hv1,ix176 hv2,app39 hl5,eM1_0,hp_over_some,hp_over_none]
    exact hK _ _ ⟨M1,o1,(by omega),(by omega),(by omega),rfl,rfl⟩
   rintro a σ ⟨M1,o1,fM1_0,fM1_1,fM1_2,rfl,rfl⟩
   obtain⟨l6,hl6,H⟩:=bindE H
   have q2:∀σ i,buildSliceA T 39 true i 1 [(0,.agg [.int .i64 3,.int .i64 p1,.int .i64 p1,.int .i64 (iadd .i64 p1 1),.int .i64 p0.Op])] σ=some (.fsl (encL rQuad ([(⟨3,p1,p1,iadd .i64 p1 1,p0.Op⟩:gQuad)]:List gQuad)),σ):=fun _ _=>rfl
   refine Sx tok [8] [4] (by
    intro K k
    have e0:=nQ (N0+21) (M1+9)
    have e1:=nQ (N0+12) M1
    simp -dsimp -implicitDefEqProofs [e0,e1,q2,app39 hl6]
    exact k) ?_
   refine gFrz AWP_ref 4 [M1+9] [] [(4,.fsl (encL rQuad l6))] (by simp) (cutD (by simp)) ?_
   obtain rfl:=oi H;exact AWP_ret ⟨_,rfl,4,by simp[encL_nil]⟩
theorem c182_oB {Fr11:gExpr→Int→Option ((List gQuad))} {Fr12:gExpr→Int→Option ((List gQuad))} (hFr11:∀{p0:gExpr} {p1:Int} {r:(List gQuad)} (H:Fr11 p0 p1=some r),APure Tryz.prog G 182 [.agg [.int .i64 p0.Op,.int .i64 p0.N,.fsl (encL rExpr p0.Args)],.int .i64 p1] (.fsl (encL rQuad r))) (hFr12:∀{p0:gExpr} {p1:Int} {r:(List gQuad)} (H:Fr12 p0 p1=some r) {σ:AHeap},ACalls Tryz.prog G 182 [.agg [.int .i64 p0.Op,.int .i64 p0.N,.fsl (encL rExpr p0.Args)],.int .i64 p1] σ (fun v σ'=>∃M n0:Nat,σ.next≤M∧σ.next≤n0∧n0<M∧v=.sl n0 0 r.length∧σ'=hp σ.objs [(n0,some ⟨48,5,encL rQuad r⟩)] M)) {p0:gExpr} {p1:Int} {r:(List gQuad)} (H:s_l22Expr_o_B Fr11 Fr12 p0 p1=some r) {σ:AHeap}:ACalls Tryz.prog G 182 [.agg [.int .i64 p0.Op,.int .i64 p0.N,.fsl (encL rExpr p0.Args)],.int .i64 p1] σ (fun v σ'=>∃M n0:Nat,σ.next≤M∧σ.next≤n0∧n0<M∧v=.sl n0 0 r.length∧σ'=hp σ.objs [(n0,some ⟨48,5,encL rQuad r⟩)] M):=by
 refine ACalls_fr (L:=[]) (Q1:=fun v σ'=>∃M n0:Nat,σ.next≤M∧σ.next≤n0∧n0<M∧v=.sl n0 0 r.length∧σ'=hp E0 [(n0,some ⟨48,5,encL rQuad r⟩)] M) (by simp[]) (fun hlt=>?_) ?_ ⟨_,Tryz.func182,rfl,rfl⟩
 rotate_left
 ·rintro v σ1 ⟨M,n0,h0,h1,h2,rfl,rfl⟩
  exact⟨_,M,rfl,by simp,by simp;try omega,M,n0,h0,h1,h2,rfl,rfl⟩
 generalize σ.next=N0 at hlt ⊢
 refine fnK tok Tryz.func182 Tryz.ntmps182 Tryz.results182 ?_
 simp only[argsA,Nat.reduceAdd,hp_next]
 unfold s_l22Expr_o_B at H
 refine S0 tok [0] [1,2] ?_
 refine AWP_sq [1,2] fun K1 hK1=>?_
 refine S0 tok [] [1,2,8] ?_
 refine Cd (fun C1=>?_) fun C1=>?_
 ·replace H:=ifT C1 H
  obtain⟨l1,hl1,H⟩:=bindE H
  have q0:∀σ i,buildSliceA T 39 false i 1 [(0,.agg [.int .i64 1,.int .i64 p1,.int .i64 0,.int .i64 0,.int .i64 p0.N])] σ=some (.sl i 0 (List.length l1),σ.put i ⟨48,5,encL rQuad l1⟩):=by rw[← Option.some.inj hl1];exact fun _ _=>rfl
  refine Sx tok [] [4] (by intro K k;simp -dsimp -implicitDefEqProofs [q0];exact k) ?_
  obtain rfl:=oi H
  refine Kp [4] ?_
  refine AWP_ret ?_
  refine⟨[.sl (N0+9) 0 l1.length],by simp,N0+11,N0+9,by omega,by omega,by omega,?_,?_⟩
  ·simp[encL_nil]
  ·first|rfl|simp[List.set_set]
 ·replace H:=ifF C1 H
  refine AWP_skip (Jn hK1 ?_)
  refine AWP_sq [1,2] fun K2 hK2=>?_
  refine S0 tok [] [1,2,16] ?_
  refine Cd (fun C2=>?_) fun C2=>?_
  ·replace H:=ifT C2 H
   obtain⟨l2,hl2,H⟩:=bindE H
   have q1:∀σ i,buildSliceA T 39 false i 1 [(0,.agg [.int .i64 2,.int .i64 p1,.int .i64 p0.N,.int .i64 0,.int .i64 0])] σ=some (.sl i 0 (List.length l2),σ.put i ⟨48,5,encL rQuad l2⟩):=by rw[← Option.some.inj hl2];exact fun _ _=>rfl
   refine Sx tok [] [4] (by intro K k;simp -dsimp -implicitDefEqProofs [q1];exact k) ?_
   obtain rfl:=oi H
   refine Kp [4] ?_
   refine AWP_ret ?_
   refine⟨[.sl (N0+12) 0 l2.length],by simp,N0+14,N0+12,by omega,by omega,by omega,?_,?_⟩
   ·simp[encL_nil]
   ·first|rfl|simp[List.set_set]
  ·replace H:=ifF C2 H
   refine AWP_skip (Jn hK2 ?_)
   obtain⟨v3,hv3,H⟩:=bindE H
   obtain⟨v4,hv4,H⟩:=bindE H
   obtain⟨r5,hr5,H⟩:=bindE H
   obtain⟨r6,hr6,H⟩:=bindE H
   obtain⟨l7,hl7,H⟩:=bindE H
   refine AWP_sd tok tokM [] [5,13] [0,1,2,3,4,6,7,8,9,10,11,5,12,13,14] [1,2,5] (fun a σ=>∃M1 o1:Nat,N0+23≤M1∧N0+23≤o1∧o1<M1∧a=[(1,.int .i64 p1),(2,.fptr [.int .i64 p0.Op,.int .i64 p0.N,.fsl (encL rExpr p0.Args)] 0),(5,.sl (N0+21) 0 l7.length)]∧σ=hp E0 [(N0+21,some ⟨48,5,encL rQuad l7⟩)] M1) (by decide) (fun K hK=>?_) ?_
   ·simp only[pickL,nthO_succ,nthO_zero]
    simp -dsimp -implicitDefEqProofs [ix176 hv3,ix176 hv4,app39 hl7]
    refine(hFr12 (H:=hr5)).mono ?_;rintro _ _ ⟨M1,o1,fM1_0,fM1_1,fM1_2,rfl,rfl⟩;simp only[hp_next] at fM1_0 fM1_1 fM1_2
    have eM1_0:=nQ o1 (N0+21)
    try simp -dsimp -implicitDefEqProofs [ix176 hv3,ix176 hv4,app39 hl7,eM1_0,hp_over_some,hp_over_none]
    refine Pc.mk (hFr11 hr6) ?_;try simp -dsimp -implicitDefEqProofs [ix176 hv3,ix176 hv4,app39 hl7,eM1_0,hp_over_some,hp_over_none]
    exact hK _ _ ⟨M1,o1,(by omega),(by omega),(by omega),rfl,rfl⟩
   rintro a σ ⟨M1,o1,fM1_0,fM1_1,fM1_2,rfl,rfl⟩
   obtain⟨l8,hl8,H⟩:=bindE H
   have q2:∀σ i,buildSliceA T 39 true i 1 [(0,.agg [.int .i64 3,.int .i64 p1,.int .i64 p1,.int .i64 (iadd .i64 p1 1),.int .i64 p0.Op])] σ=some (.fsl (encL rQuad ([(⟨3,p1,p1,iadd .i64 p1 1,p0.Op⟩:gQuad)]:List gQuad)),σ):=fun _ _=>rfl
   refine Sx tok [8] [4] (by
    intro K k
    have e0:=nQ (N0+21) (M1+9)
    have e1:=nQ (N0+12) M1
    simp -dsimp -implicitDefEqProofs [e0,e1,q2,app39 hl8]
    exact k) ?_
   obtain rfl:=oi H
   refine Kp [4] ?_
   refine AWP_ret ?_
   refine⟨[.sl (M1+9) 0 l8.length],by simp,M1+11,M1+9,by omega,by omega,by omega,?_,?_⟩
   ·simp[encL_nil]
   ·first|rfl|simp[List.set_set]
theorem c182R:∀n:Nat,(∀{p0:gExpr} {p1:Int} {r:(List gQuad)} (H:(s_l22Expr_R n).1 p0 p1=some r),APure Tryz.prog G 182 [.agg [.int .i64 p0.Op,.int .i64 p0.N,.fsl (encL rExpr p0.Args)],.int .i64 p1] (.fsl (encL rQuad r)))∧(∀{p0:gExpr} {p1:Int} {r:(List gQuad)} (H:(s_l22Expr_R n).2 p0 p1=some r) {σ:AHeap},ACalls Tryz.prog G 182 [.agg [.int .i64 p0.Op,.int .i64 p0.N,.fsl (encL rExpr p0.Args)],.int .i64 p1] σ (fun v σ'=>∃M n0:Nat,σ.next≤M∧σ.next≤n0∧n0<M∧v=.sl n0 0 r.length∧σ'=hp σ.objs [(n0,some ⟨48,5,encL rQuad r⟩)] M)):=by
 intro n;induction n with
 |zero=>exact⟨by intro p0 p1 r H;exact absurd H (by simp[s_l22Expr_R]),by intro p0 p1 r H;exact absurd H (by simp[s_l22Expr_R])⟩
 |succ n ih=>exact⟨by intro p0 p1 r H;exact c182B (hFr11:=ih.1) (hFr12:=ih.2) H,by intro p0 p1 r H;exact c182_oB (hFr11:=ih.1) (hFr12:=ih.2) H⟩
theorem c182_o {p0:gExpr} {p1:Int} {r:(List gQuad)} (H:s_l22Expr_o p0 p1=some r) {σ:AHeap}:ACalls Tryz.prog G 182 [.agg [.int .i64 p0.Op,.int .i64 p0.N,.fsl (encL rExpr p0.Args)],.int .i64 p1] σ (fun v σ'=>∃M n0:Nat,σ.next≤M∧σ.next≤n0∧n0<M∧v=.sl n0 0 r.length∧σ'=hp σ.objs [(n0,some ⟨48,5,encL rQuad r⟩)] M):=by
 unfold s_l22Expr_o at H
 obtain⟨n,H⟩:=recF_some H
 exact(c182R n).2 H
theorem c162B {Fr13:(List gStmt)→Int→Option ((List gQuad))} {Fr14:gStmt→Int→Option ((List gQuad))} {Fr15:gStmt→Int→Option ((List gQuad))} {Fr16:gStmt→Int→Option ((List gQuad))} (hFr13:∀{p0:(List gStmt)} {p1:Int} {r:(List gQuad)} (H:Fr13 p0 p1=some r),APure Tryz.prog G 162 [.fsl (encL rStmt p0),.int .i64 p1] (.fsl (encL rQuad r))) (hFr14:∀{p0:gStmt} {p1:Int} {r:(List gQuad)} (H:Fr14 p0 p1=some r),APure Tryz.prog G 183 [.agg [.int .i64 p0.Kind,.int .i64 p0.Var,.int .i64 p0.Box,.int .i64 p0.Expr.Op,.int .i64 p0.Expr.N,.fsl (encL rExpr p0.Expr.Args),.fsl (encL rStmt p0.Body),.fsl (encL rStmt p0.Else)],.int .i64 p1] (.fsl (encL rQuad r))) (hFr15:∀{p0:gStmt} {p1:Int} {r:(List gQuad)} (H:Fr15 p0 p1=some r),APure Tryz.prog G 184 [.agg [.int .i64 p0.Kind,.int .i64 p0.Var,.int .i64 p0.Box,.int .i64 p0.Expr.Op,.int .i64 p0.Expr.N,.fsl (encL rExpr p0.Expr.Args),.fsl (encL rStmt p0.Body),.fsl (encL rStmt p0.Else)],.int .i64 p1] (.fsl (encL rQuad r))) (hFr16:∀{p0:gStmt} {p1:Int} {r:(List gQuad)} (H:Fr16 p0 p1=some r),APure Tryz.prog G 174 [.agg [.int .i64 p0.Kind,.int .i64 p0.Var,.int .i64 p0.Box,.int .i64 p0.Expr.Op,.int .i64 p0.Expr.N,.fsl (encL rExpr p0.Expr.Args),.fsl (encL rStmt p0.Body),.fsl (encL rStmt p0.Else)],.int .i64 p1] (.fsl (encL rQuad r))) {p0:(List gStmt)} {p1:Int} {r:(List gQuad)} (H:s_l22List_B Fr13 Fr14 Fr15 Fr16 p0 p1=some r):APure Tryz.prog G 162 [.fsl (encL rStmt p0),.int .i64 p1] (.fsl (encL rQuad r)):=by
 refine APure_fn (fun N0=>?_) (by simp)
 refine fnK tok Tryz.func162 Tryz.ntmps162 Tryz.results162 ?_
 simp only[argsA,Nat.reduceAdd,hp_next]
 unfold s_l22List_B at H
 refine S0 tok [] [0,1] ?_
 have q0:∀σ i,buildSliceA T 39 true i 0 [] σ=some (.esl,σ):=fun _ _=>rfl
 refine Sx tok [0] [0,1,5] (by intro K k;simp -dsimp -implicitDefEqProofs [q0];exact k) ?_
 refine AWP_sq [5] fun K1 hK1=>?_
 refine S0 tok [] [0,1,5,6] ?_
 refine AWP_block (AWP_thenB ?_)
 obtain⟨e1,hse1,H⟩:=bindE H
 refine AWP_lp [0,1,5,6] (fun s a σ=>∃M1 o1:Nat,N0≤M1∧N0≤o1∧o1<M1∧a=[(0,.fsl (encL rStmt p0)),(1,.int .i64 p1),(5,.sl o1 0 s.2.length),(6,.int .i64 s.1)]∧σ=hp E0 [(o1,some ⟨48,5,encL rQuad s.2⟩)] M1) (fun s x a σ=>x=.exit 0∧Rc G 26 N0 (fun a σ=>∃M2 o2:Nat,N0≤M2∧N0≤o2∧o2<M2∧a=[(5,.sl o2 0 s.length)]∧σ=hp E0 [(o2,some ⟨48,5,encL rQuad s⟩)] M2) (AAct.keep a [5]) σ) hse1 ?_ ?_ ?_
 ·refine Rc.kp [0,1,5,6] [(0,.fsl (encL rStmt p0)),(1,.int .i64 p1),(5,.esl),(6,.int .i64 0)] rfl ?_
  refine gNilS Rc_ref 5 48 5 [(N0+4,some ⟨48,5,encL rQuad ([]:List gQuad)⟩)] [(0,.fsl (encL rStmt p0)),(1,.int .i64 p1),(5,.sl (N0+4) 0 ([]:List gQuad).length),(6,.int .i64 0)] (by simp(disch:=omega)) (by simp(disch:=omega) [encL_nil]) [0,1,5,6] rfl ?_
  exact Rf ⟨N0+5,(N0+4),(by omega),(by omega),(by omega),rfl,rfl⟩
 ·clear H hse1
  rintro⟨s1,s2⟩ fl a σ H ⟨M1,o1,fM1_0,fM1_1,fM1_2,rfl,rfl⟩ K2 O2 hK2 hO2
  unfold s_l22List_L1 at H;dsimp only at H
  refine AWP_sq [0,1,5,6] fun K3 hK3=>?_
  refine S0 tok [] [0,1,5,6,11] ?_
  refine Cd (fun C1=>?_) fun C1=>?_
  ·replace H:=ifT C1 H
   refine AWP_skip (Jn hK3 ?_)
   refine AWP_sq [0,1,5,6] fun K4 hK4=>?_
   refine AWP_block (AWP_thenB ?_)
   obtain⟨v4,hv4,H⟩:=bindE H
   obtain⟨r5,hr5,H⟩:=bindE H
   obtain⟨l6,hl6,H⟩:=bindE H
   refine Rt tok [] [0,1,5,6] (by
    intro K k
    have e0:=nQ o1 (M1+14)
    repeat first|simp -dsimp -implicitDefEqProofs [e0,ix160 hv4,app39 hl6]|refine(hFr16 hr5).app ?_
    exact k) fun a ha=>?_
   refine hK4 _ _ ?_;rw[ha]
   refine Rc.mk ?_
   refine Rt0 tok [] [0,1,5,6] fun a ha=>?_
   obtain rfl:=oi H
   refine hK2 _ _ _ rfl ?_;rw[ha]
   exact Rf ⟨M1+19,(M1+14),(by omega),(by omega),(by omega),rfl,rfl⟩
  ·obtain rfl:=oi (ifF C1 H)
   refine AWP_exit (hO2 _ _ _ _ rfl ⟨rfl,?_⟩)
   refine Rc.rw (l:=[5]) (X:=[(5,.sl o1 0 s2.length)]) rfl ?_
   exact Rf ⟨M1+4,o1,(by omega),(by omega),(by omega),rfl,rfl⟩
 ·intro x a σ hx
  obtain⟨y3,rfl⟩:∃x,x=e1:=⟨_,rfl⟩
  obtain⟨rfl,b,τ,hr,M2,o2,fM2_0,fM2_1,fM2_2,rfl,rfl⟩:=hx
  (try dsimp only at H)
  show K1 _ _
  refine hK1 _ _ (Rc_ref hr ?_)
  refine Rc.mk ?_
  refine S0 tok [] [4] ?_
  obtain rfl:=oi H;exact AWP_ret ⟨_,rfl,4,by simp[encL_nil]⟩
theorem c183B {Fr13:(List gStmt)→Int→Option ((List gQuad))} {Fr14:gStmt→Int→Option ((List gQuad))} {Fr15:gStmt→Int→Option ((List gQuad))} {Fr16:gStmt→Int→Option ((List gQuad))} (hFr13:∀{p0:(List gStmt)} {p1:Int} {r:(List gQuad)} (H:Fr13 p0 p1=some r),APure Tryz.prog G 162 [.fsl (encL rStmt p0),.int .i64 p1] (.fsl (encL rQuad r))) (hFr14:∀{p0:gStmt} {p1:Int} {r:(List gQuad)} (H:Fr14 p0 p1=some r),APure Tryz.prog G 183 [.agg [.int .i64 p0.Kind,.int .i64 p0.Var,.int .i64 p0.Box,.int .i64 p0.Expr.Op,.int .i64 p0.Expr.N,.fsl (encL rExpr p0.Expr.Args),.fsl (encL rStmt p0.Body),.fsl (encL rStmt p0.Else)],.int .i64 p1] (.fsl (encL rQuad r))) (hFr15:∀{p0:gStmt} {p1:Int} {r:(List gQuad)} (H:Fr15 p0 p1=some r),APure Tryz.prog G 184 [.agg [.int .i64 p0.Kind,.int .i64 p0.Var,.int .i64 p0.Box,.int .i64 p0.Expr.Op,.int .i64 p0.Expr.N,.fsl (encL rExpr p0.Expr.Args),.fsl (encL rStmt p0.Body),.fsl (encL rStmt p0.Else)],.int .i64 p1] (.fsl (encL rQuad r))) (hFr16:∀{p0:gStmt} {p1:Int} {r:(List gQuad)} (H:Fr16 p0 p1=some r),APure Tryz.prog G 174 [.agg [.int .i64 p0.Kind,.int .i64 p0.Var,.int .i64 p0.Box,.int .i64 p0.Expr.Op,.int .i64 p0.Expr.N,.fsl (encL rExpr p0.Expr.Args),.fsl (encL rStmt p0.Body),.fsl (encL rStmt p0.Else)],.int .i64 p1] (.fsl (encL rQuad r))) {p0:gStmt} {p1:Int} {r:(List gQuad)} (H:s_l22If_B Fr13 Fr14 Fr15 Fr16 p0 p1=some r):APure Tryz.prog G 183 [.agg [.int .i64 p0.Kind,.int .i64 p0.Var,.int .i64 p0.Box,.int .i64 p0.Expr.Op,.int .i64 p0.Expr.N,.fsl (encL rExpr p0.Expr.Args),.fsl (encL rStmt p0.Body),.fsl (encL rStmt p0.Else)],.int .i64 p1] (.fsl (encL rQuad r)):=by
 refine APure_fn (fun N0=>?_) (by simp)
 refine fnK tok Tryz.func183 Tryz.ntmps183 Tryz.results183 ?_
 simp only[argsA,Nat.reduceAdd,hp_next]
 unfold s_l22If_B at H
 refine S0 tok [0] [1,2] ?_
 obtain⟨r1,hr1,H⟩:=bindE H
 refine AWP_sr tok [] [1,2,5] (fun a σ=>∃M1 o1:Nat,N0+6≤M1∧N0+6≤o1∧o1<M1∧a=[(1,.int .i64 p1),(2,.fptr [.int .i64 p0.Kind,.int .i64 p0.Var,.int .i64 p0.Box,.int .i64 p0.Expr.Op,.int .i64 p0.Expr.N,.fsl (encL rExpr p0.Expr.Args),.fsl (encL rStmt p0.Body),.fsl (encL rStmt p0.Else)] 0),(5,.sl o1 0 r1.length)]∧σ=hp E0 [(o1,some ⟨48,5,encL rQuad r1⟩)] M1) (fun K hK=>?_) ?_
 ·skip
  simp -dsimp -implicitDefEqProofs
  refine(c182_o (H:=hr1)).mono ?_;rintro _ _ ⟨M1,o1,fM1_0,fM1_1,fM1_2,rfl,rfl⟩;simp only[hp_next] at fM1_0 fM1_1 fM1_2
  try simp -dsimp -implicitDefEqProofs [hp_over_some,hp_over_none]
  exact hK _ _ ⟨M1,o1,(by omega),(by omega),(by omega),rfl,rfl⟩
 rintro a σ ⟨M1,o1,fM1_0,fM1_1,fM1_2,rfl,rfl⟩
 obtain⟨r2,hr2,H⟩:=bindE H
 refine Sx tok [] [1,2,5,6] (by intro K k;(repeat first|simp -dsimp -implicitDefEqProofs|refine(hFr13 hr2).app ?_);exact k) ?_
 refine S0 tok [] [2,5,6,7] ?_
 refine AWP_sq [2,5,6,7] fun K1 hK1=>?_
 refine S0 tok [] [2,5,6,7,31] ?_
 refine Cd (fun C1=>?_) fun C1=>?_
 ·replace H:=ifT C1 H
  obtain⟨l3,hl3,H⟩:=bindE H
  have q0:∀σ i,buildSliceA T 39 true i 1 [(0,.agg [.int .i64 5,.int .i64 0,.int .i64 4,.int .i64 0,.int .i64 (iadd .i64 (iadd .i64 (iadd .i64 p1 (ilen r1)) 1) (ilen r2))])] σ=some (.fsl (encL rQuad ([(⟨5,0,4,0,iadd .i64 (iadd .i64 (iadd .i64 p1 (ilen r1)) 1) (ilen r2)⟩:gQuad)]:List gQuad)),σ):=fun _ _=>rfl
  refine Sx tok [3] [5,6] (by
   intro K k
   have e0:=nQ o1 (M1+26)
   simp -dsimp -implicitDefEqProofs [e0,q0,app39 hl3]
   exact k) ?_
  obtain⟨l4,hl4,H⟩:=bindE H
  refine Sx tok [] [4] (by intro K k;simp -dsimp -implicitDefEqProofs [app39 hl4];exact k) ?_
  refine gFrz AWP_ref 4 [M1+30] [] [(4,.fsl (encL rQuad l4))] (by simp) (cutD (by simp)) ?_
  obtain rfl:=oi H;exact AWP_ret ⟨_,rfl,4,by simp[encL_nil]⟩
 ·replace H:=ifF C1 H
  refine AWP_skip (Jn hK1 ?_)
  obtain⟨r5,hr5,H⟩:=bindE H
  refine Sx tok [] [5,6,7,8] (by intro K k;(repeat first|simp -dsimp -implicitDefEqProofs|refine(hFr13 hr5).app ?_);exact k) ?_
  obtain⟨l6,hl6,H⟩:=bindE H
  have q1:∀σ i,buildSliceA T 39 true i 1 [(0,.agg [.int .i64 5,.int .i64 0,.int .i64 4,.int .i64 0,.int .i64 (iadd .i64 (iadd .i64 (iadd .i64 (iadd .i64 p1 (ilen r1)) 1) (ilen r2)) 1)])] σ=some (.fsl (encL rQuad ([(⟨5,0,4,0,iadd .i64 (iadd .i64 (iadd .i64 (iadd .i64 p1 (ilen r1)) 1) (ilen r2)) 1⟩:gQuad)]:List gQuad)),σ):=fun _ _=>rfl
  refine Sx tok [4] [5,6,7,8] (by
   intro K k
   have e0:=nQ o1 (M1+33)
   simp -dsimp -implicitDefEqProofs [e0,q1,app39 hl6]
   exact k) ?_
  obtain⟨l7,hl7,H⟩:=bindE H
  refine Sx tok [] [5,7,8] (by intro K k;simp -dsimp -implicitDefEqProofs [app39 hl7];exact k) ?_
  obtain⟨l8,hl8,H⟩:=bindE H
  have q2:∀σ i,buildSliceA T 39 true i 1 [(0,.agg [.int .i64 4,.int .i64 0,.int .i64 0,.int .i64 0,.int .i64 (iadd .i64 (iadd .i64 (iadd .i64 (iadd .i64 (iadd .i64 p1 (ilen r1)) 1) (ilen r2)) 1) (ilen r5))])] σ=some (.fsl (encL rQuad ([(⟨4,0,0,0,iadd .i64 (iadd .i64 (iadd .i64 (iadd .i64 (iadd .i64 p1 (ilen r1)) 1) (ilen r2)) 1) (ilen r5)⟩:gQuad)]:List gQuad)),σ):=fun _ _=>rfl
  refine Sx tok [7] [5,8] (by intro K k;simp -dsimp -implicitDefEqProofs [q2,app39 hl8];exact k) ?_
  obtain⟨l9,hl9,H⟩:=bindE H
  refine Sx tok [] [4] (by intro K k;simp -dsimp -implicitDefEqProofs [app39 hl9];exact k) ?_
  refine gFrz AWP_ref 4 [M1+51] [] [(4,.fsl (encL rQuad l9))] (by simp) (cutD (by simp)) ?_
  obtain rfl:=oi H;exact AWP_ret ⟨_,rfl,4,by simp[encL_nil]⟩
theorem c184B {Fr13:(List gStmt)→Int→Option ((List gQuad))} {Fr14:gStmt→Int→Option ((List gQuad))} {Fr15:gStmt→Int→Option ((List gQuad))} {Fr16:gStmt→Int→Option ((List gQuad))} (hFr13:∀{p0:(List gStmt)} {p1:Int} {r:(List gQuad)} (H:Fr13 p0 p1=some r),APure Tryz.prog G 162 [.fsl (encL rStmt p0),.int .i64 p1] (.fsl (encL rQuad r))) (hFr14:∀{p0:gStmt} {p1:Int} {r:(List gQuad)} (H:Fr14 p0 p1=some r),APure Tryz.prog G 183 [.agg [.int .i64 p0.Kind,.int .i64 p0.Var,.int .i64 p0.Box,.int .i64 p0.Expr.Op,.int .i64 p0.Expr.N,.fsl (encL rExpr p0.Expr.Args),.fsl (encL rStmt p0.Body),.fsl (encL rStmt p0.Else)],.int .i64 p1] (.fsl (encL rQuad r))) (hFr15:∀{p0:gStmt} {p1:Int} {r:(List gQuad)} (H:Fr15 p0 p1=some r),APure Tryz.prog G 184 [.agg [.int .i64 p0.Kind,.int .i64 p0.Var,.int .i64 p0.Box,.int .i64 p0.Expr.Op,.int .i64 p0.Expr.N,.fsl (encL rExpr p0.Expr.Args),.fsl (encL rStmt p0.Body),.fsl (encL rStmt p0.Else)],.int .i64 p1] (.fsl (encL rQuad r))) (hFr16:∀{p0:gStmt} {p1:Int} {r:(List gQuad)} (H:Fr16 p0 p1=some r),APure Tryz.prog G 174 [.agg [.int .i64 p0.Kind,.int .i64 p0.Var,.int .i64 p0.Box,.int .i64 p0.Expr.Op,.int .i64 p0.Expr.N,.fsl (encL rExpr p0.Expr.Args),.fsl (encL rStmt p0.Body),.fsl (encL rStmt p0.Else)],.int .i64 p1] (.fsl (encL rQuad r))) {p0:gStmt} {p1:Int} {r:(List gQuad)} (H:s_l22While_B Fr13 Fr14 Fr15 Fr16 p0 p1=some r):APure Tryz.prog G 184 [.agg [.int .i64 p0.Kind,.int .i64 p0.Var,.int .i64 p0.Box,.int .i64 p0.Expr.Op,.int .i64 p0.Expr.N,.fsl (encL rExpr p0.Expr.Args),.fsl (encL rStmt p0.Body),.fsl (encL rStmt p0.Else)],.int .i64 p1] (.fsl (encL rQuad r)):=by
 refine APure_fn (fun N0=>?_) (by simp)
 refine fnK tok Tryz.func184 Tryz.ntmps184 Tryz.results184 ?_
 simp only[argsA,Nat.reduceAdd,hp_next]
 unfold s_l22While_B at H
 refine S0 tok [0] [1,2] ?_
 obtain⟨r1,hr1,H⟩:=bindE H
 refine AWP_sr tok [] [1,2,5] (fun a σ=>∃M1 o1:Nat,N0+6≤M1∧N0+6≤o1∧o1<M1∧a=[(1,.int .i64 p1),(2,.fptr [.int .i64 p0.Kind,.int .i64 p0.Var,.int .i64 p0.Box,.int .i64 p0.Expr.Op,.int .i64 p0.Expr.N,.fsl (encL rExpr p0.Expr.Args),.fsl (encL rStmt p0.Body),.fsl (encL rStmt p0.Else)] 0),(5,.sl o1 0 r1.length)]∧σ=hp E0 [(o1,some ⟨48,5,encL rQuad r1⟩)] M1) (fun K hK=>?_) ?_
 ·skip
  simp -dsimp -implicitDefEqProofs
  refine(c182_o (H:=hr1)).mono ?_;rintro _ _ ⟨M1,o1,fM1_0,fM1_1,fM1_2,rfl,rfl⟩;simp only[hp_next] at fM1_0 fM1_1 fM1_2
  try simp -dsimp -implicitDefEqProofs [hp_over_some,hp_over_none]
  exact hK _ _ ⟨M1,o1,(by omega),(by omega),(by omega),rfl,rfl⟩
 rintro a σ ⟨M1,o1,fM1_0,fM1_1,fM1_2,rfl,rfl⟩
 obtain⟨r2,hr2,H⟩:=bindE H
 refine Sx tok [] [1,5,6] (by intro K k;(repeat first|simp -dsimp -implicitDefEqProofs|refine(hFr13 hr2).app ?_);exact k) ?_
 obtain⟨l3,hl3,H⟩:=bindE H
 have q0:∀σ i,buildSliceA T 39 true i 1 [(0,.agg [.int .i64 5,.int .i64 0,.int .i64 4,.int .i64 0,.int .i64 (iadd .i64 (iadd .i64 (iadd .i64 (iadd .i64 p1 (ilen r1)) 1) (ilen r2)) 1)])] σ=some (.fsl (encL rQuad ([(⟨5,0,4,0,iadd .i64 (iadd .i64 (iadd .i64 (iadd .i64 p1 (ilen r1)) 1) (ilen r2)) 1⟩:gQuad)]:List gQuad)),σ):=fun _ _=>rfl
 refine Sx tok [11] [1,5,6] (by
  intro K k
  have e0:=nQ o1 (M1+21)
  simp -dsimp -implicitDefEqProofs [e0,q0,app39 hl3]
  exact k) ?_
 obtain⟨l4,hl4,H⟩:=bindE H
 refine Sx tok [] [1,5] (by intro K k;simp -dsimp -implicitDefEqProofs [app39 hl4];exact k) ?_
 obtain⟨l5,hl5,H⟩:=bindE H
 have q1:∀σ i,buildSliceA T 39 true i 1 [(0,.agg [.int .i64 4,.int .i64 0,.int .i64 0,.int .i64 0,.int .i64 p1])] σ=some (.fsl (encL rQuad ([(⟨4,0,0,0,p1⟩:gQuad)]:List gQuad)),σ):=fun _ _=>rfl
 refine Sx tok [3] [4] (by intro K k;simp -dsimp -implicitDefEqProofs [q1,app39 hl5];exact k) ?_
 refine gFrz AWP_ref 4 [M1+31] [] [(4,.fsl (encL rQuad l5))] (by simp) (cutD (by simp)) ?_
 obtain rfl:=oi H;exact AWP_ret ⟨_,rfl,4,by simp[encL_nil]⟩
theorem c174B {Fr13:(List gStmt)→Int→Option ((List gQuad))} {Fr14:gStmt→Int→Option ((List gQuad))} {Fr15:gStmt→Int→Option ((List gQuad))} {Fr16:gStmt→Int→Option ((List gQuad))} (hFr13:∀{p0:(List gStmt)} {p1:Int} {r:(List gQuad)} (H:Fr13 p0 p1=some r),APure Tryz.prog G 162 [.fsl (encL rStmt p0),.int .i64 p1] (.fsl (encL rQuad r))) (hFr14:∀{p0:gStmt} {p1:Int} {r:(List gQuad)} (H:Fr14 p0 p1=some r),APure Tryz.prog G 183 [.agg [.int .i64 p0.Kind,.int .i64 p0.Var,.int .i64 p0.Box,.int .i64 p0.Expr.Op,.int .i64 p0.Expr.N,.fsl (encL rExpr p0.Expr.Args),.fsl (encL rStmt p0.Body),.fsl (encL rStmt p0.Else)],.int .i64 p1] (.fsl (encL rQuad r))) (hFr15:∀{p0:gStmt} {p1:Int} {r:(List gQuad)} (H:Fr15 p0 p1=some r),APure Tryz.prog G 184 [.agg [.int .i64 p0.Kind,.int .i64 p0.Var,.int .i64 p0.Box,.int .i64 p0.Expr.Op,.int .i64 p0.Expr.N,.fsl (encL rExpr p0.Expr.Args),.fsl (encL rStmt p0.Body),.fsl (encL rStmt p0.Else)],.int .i64 p1] (.fsl (encL rQuad r))) (hFr16:∀{p0:gStmt} {p1:Int} {r:(List gQuad)} (H:Fr16 p0 p1=some r),APure Tryz.prog G 174 [.agg [.int .i64 p0.Kind,.int .i64 p0.Var,.int .i64 p0.Box,.int .i64 p0.Expr.Op,.int .i64 p0.Expr.N,.fsl (encL rExpr p0.Expr.Args),.fsl (encL rStmt p0.Body),.fsl (encL rStmt p0.Else)],.int .i64 p1] (.fsl (encL rQuad r))) {p0:gStmt} {p1:Int} {r:(List gQuad)} (H:s_l22Stmt_B Fr13 Fr14 Fr15 Fr16 p0 p1=some r):APure Tryz.prog G 174 [.agg [.int .i64 p0.Kind,.int .i64 p0.Var,.int .i64 p0.Box,.int .i64 p0.Expr.Op,.int .i64 p0.Expr.N,.fsl (encL rExpr p0.Expr.Args),.fsl (encL rStmt p0.Body),.fsl (encL rStmt p0.Else)],.int .i64 p1] (.fsl (encL rQuad r)):=by
 refine APure_fn (fun N0=>?_) (by simp)
 refine fnK tok Tryz.func174 Tryz.ntmps174 Tryz.results174 ?_
 simp only[argsA,Nat.reduceAdd,hp_next]
 unfold s_l22Stmt_B at H
 refine S0 tok [0] [1,2] ?_
 obtain⟨r1,hr1,H⟩:=bindE H
 refine AWP_sr tok [] [1,2,5] (fun a σ=>∃M1 o1:Nat,N0+6≤M1∧N0+6≤o1∧o1<M1∧a=[(1,.int .i64 p1),(2,.fptr [.int .i64 p0.Kind,.int .i64 p0.Var,.int .i64 p0.Box,.int .i64 p0.Expr.Op,.int .i64 p0.Expr.N,.fsl (encL rExpr p0.Expr.Args),.fsl (encL rStmt p0.Body),.fsl (encL rStmt p0.Else)] 0),(5,.sl o1 0 r1.length)]∧σ=hp E0 [(o1,some ⟨48,5,encL rQuad r1⟩)] M1) (fun K hK=>?_) ?_
 ·skip
  simp -dsimp -implicitDefEqProofs
  refine(c182_o (H:=hr1)).mono ?_;rintro _ _ ⟨M1,o1,fM1_0,fM1_1,fM1_2,rfl,rfl⟩;simp only[hp_next] at fM1_0 fM1_1 fM1_2
  try simp -dsimp -implicitDefEqProofs [hp_over_some,hp_over_none]
  exact hK _ _ ⟨M1,o1,(by omega),(by omega),(by omega),rfl,rfl⟩
 rintro a σ ⟨M1,o1,fM1_0,fM1_1,fM1_2,rfl,rfl⟩
 refine AWP_sq [] fun K1 hK1=>?_
 refine S0 tok [] [1,2,5,10] ?_
 refine AWP_block (AWP_thenB ?_)
 refine S0 tok [] [1,2,5,10,11] ?_
 refine Cd (fun C1=>?_) fun C1=>?_
 ·replace H:=ifT C1 H
  obtain⟨r2,hr2,H⟩:=bindE H
  refine Sx tok [] [4] (by intro K k;(repeat first|simp -dsimp -implicitDefEqProofs|refine(hFr14 hr2).app ?_);exact k) ?_
  obtain rfl:=oi H;exact AWP_ret ⟨_,rfl,4,by simp[encL_nil]⟩
 ·replace H:=ifF C1 H
  refine S0 tok [] [1,2,5,10,16] ?_
  refine Cd (fun C2=>?_) fun C2=>?_
  ·replace H:=ifT C2 H
   obtain⟨r3,hr3,H⟩:=bindE H
   refine Sx tok [] [4] (by intro K k;(repeat first|simp -dsimp -implicitDefEqProofs|refine(hFr15 hr3).app ?_);exact k) ?_
   obtain rfl:=oi H;exact AWP_ret ⟨_,rfl,4,by simp[encL_nil]⟩
  ·replace H:=ifF C2 H
   refine S0 tok [] [2,5,10,21] ?_
   refine Cd (fun C3=>?_) fun C3=>?_
   ·replace H:=ifT C3 H
    obtain⟨l4,hl4,H⟩:=bindE H
    have q0:∀σ i,buildSliceA T 39 true i 1 [(0,.agg [.int .i64 2,.int .i64 p0.Var,.int .i64 4,.int .i64 0,.int .i64 0])] σ=some (.fsl (encL rQuad ([(⟨2,p0.Var,4,0,0⟩:gQuad)]:List gQuad)),σ):=fun _ _=>rfl
    refine Sx tok [4] [4] (by
     intro K k
     have e0:=nQ o1 (M1+13)
     simp -dsimp -implicitDefEqProofs [e0,q0,app39 hl4]
     exact k) ?_
    refine gFrz AWP_ref 4 [M1+13] [] [(4,.fsl (encL rQuad l4))] (by simp) (cutD (by simp)) ?_
    obtain rfl:=oi H;exact AWP_ret ⟨_,rfl,4,by simp[encL_nil]⟩
   ·replace H:=ifF C3 H
    refine S0 tok [] [2,5,10,29] ?_
    refine Cd (fun C4=>?_) fun C4=>?_
    ·replace H:=ifT C4 H
     obtain⟨l5,hl5,H⟩:=bindE H
     have q1:∀σ i,buildSliceA T 39 true i 1 [(0,.agg [.int .i64 6,.int .i64 0,.int .i64 4,.int .i64 0,.int .i64 p0.Box])] σ=some (.fsl (encL rQuad ([(⟨6,0,4,0,p0.Box⟩:gQuad)]:List gQuad)),σ):=fun _ _=>rfl
     refine Sx tok [4] [4] (by
      intro K k
      have e0:=nQ o1 (M1+15)
      simp -dsimp -implicitDefEqProofs [e0,q1,app39 hl5]
      exact k) ?_
     refine gFrz AWP_ref 4 [M1+15] [] [(4,.fsl (encL rQuad l5))] (by simp) (cutD (by simp)) ?_
     obtain rfl:=oi H;exact AWP_ret ⟨_,rfl,4,by simp[encL_nil]⟩
    ·replace H:=ifF C4 H
     refine S0 tok [] [2,5,10,37] ?_
     refine Cd (fun C5=>?_) fun C5=>?_
     ·replace H:=ifT C5 H
      obtain⟨l6,hl6,H⟩:=bindE H
      have q2:∀σ i,buildSliceA T 39 true i 1 [(0,.agg [.int .i64 9,.int .i64 0,.int .i64 4,.int .i64 0,.int .i64 0])] σ=some (.fsl (encL rQuad ([(⟨9,0,4,0,0⟩:gQuad)]:List gQuad)),σ):=fun _ _=>rfl
      refine Sx tok [2] [4] (by
       intro K k
       have e0:=nQ o1 (M1+15)
       simp -dsimp -implicitDefEqProofs [e0,q2,app39 hl6]
       exact k) ?_
      refine gFrz AWP_ref 4 [M1+15] [] [(4,.fsl (encL rQuad l6))] (by simp) (cutD (by simp)) ?_
      obtain rfl:=oi H;exact AWP_ret ⟨_,rfl,4,by simp[encL_nil]⟩
     ·replace H:=ifF C5 H
      refine S0 tok [] [2,43] ?_
      refine Cd (fun C6=>?_) fun C6=>?_
      ·replace H:=ifT C6 H
       have q3:∀σ i,buildSliceA T 39 true i 1 [(0,.agg [.int .i64 7,.int .i64 p0.Var,.int .i64 0,.int .i64 0,.int .i64 p0.Box])] σ=some (.fsl (encL rQuad ([(⟨7,p0.Var,0,0,p0.Box⟩:gQuad)]:List gQuad)),σ):=fun _ _=>rfl
       refine Sx tok [5] [4] (by intro K k;simp -dsimp -implicitDefEqProofs [q3];exact k) ?_
       obtain rfl:=oi H;exact AWP_ret ⟨_,rfl,4,by simp[encL_nil]⟩
      ·replace H:=ifF C6 H
       refine AWP_skip (Jn hK1 ?_)
       have q4:∀σ i,buildSliceA T 39 true i 1 [(0,.agg [.int .i64 8,.int .i64 0,.int .i64 0,.int .i64 0,.int .i64 0])] σ=some (.fsl (encL rQuad ([(⟨8,0,0,0,0⟩:gQuad)]:List gQuad)),σ):=fun _ _=>rfl
       refine Sx tok [1] [4] (by intro K k;simp -dsimp -implicitDefEqProofs [q4];exact k) ?_
       obtain rfl:=oi H;exact AWP_ret ⟨_,rfl,4,by simp[encL_nil]⟩
theorem c162R:∀n:Nat,(∀{p0:(List gStmt)} {p1:Int} {r:(List gQuad)} (H:(s_l22List_R n).1 p0 p1=some r),APure Tryz.prog G 162 [.fsl (encL rStmt p0),.int .i64 p1] (.fsl (encL rQuad r)))∧(∀{p0:gStmt} {p1:Int} {r:(List gQuad)} (H:(s_l22List_R n).2.1 p0 p1=some r),APure Tryz.prog G 183 [.agg [.int .i64 p0.Kind,.int .i64 p0.Var,.int .i64 p0.Box,.int .i64 p0.Expr.Op,.int .i64 p0.Expr.N,.fsl (encL rExpr p0.Expr.Args),.fsl (encL rStmt p0.Body),.fsl (encL rStmt p0.Else)],.int .i64 p1] (.fsl (encL rQuad r)))∧(∀{p0:gStmt} {p1:Int} {r:(List gQuad)} (H:(s_l22List_R n).2.2.1 p0 p1=some r),APure Tryz.prog G 184 [.agg [.int .i64 p0.Kind,.int .i64 p0.Var,.int .i64 p0.Box,.int .i64 p0.Expr.Op,.int .i64 p0.Expr.N,.fsl (encL rExpr p0.Expr.Args),.fsl (encL rStmt p0.Body),.fsl (encL rStmt p0.Else)],.int .i64 p1] (.fsl (encL rQuad r)))∧(∀{p0:gStmt} {p1:Int} {r:(List gQuad)} (H:(s_l22List_R n).2.2.2 p0 p1=some r),APure Tryz.prog G 174 [.agg [.int .i64 p0.Kind,.int .i64 p0.Var,.int .i64 p0.Box,.int .i64 p0.Expr.Op,.int .i64 p0.Expr.N,.fsl (encL rExpr p0.Expr.Args),.fsl (encL rStmt p0.Body),.fsl (encL rStmt p0.Else)],.int .i64 p1] (.fsl (encL rQuad r))):=by
 intro n;induction n with
 |zero=>exact⟨by intro p0 p1 r H;exact absurd H (by simp[s_l22List_R]),by intro p0 p1 r H;exact absurd H (by simp[s_l22List_R]),by intro p0 p1 r H;exact absurd H (by simp[s_l22List_R]),by intro p0 p1 r H;exact absurd H (by simp[s_l22List_R])⟩
 |succ n ih=>exact⟨by intro p0 p1 r H;exact c162B (hFr13:=ih.1) (hFr14:=ih.2.1) (hFr15:=ih.2.2.1) (hFr16:=ih.2.2.2) H,by intro p0 p1 r H;exact c183B (hFr13:=ih.1) (hFr14:=ih.2.1) (hFr15:=ih.2.2.1) (hFr16:=ih.2.2.2) H,by intro p0 p1 r H;exact c184B (hFr13:=ih.1) (hFr14:=ih.2.1) (hFr15:=ih.2.2.1) (hFr16:=ih.2.2.2) H,by intro p0 p1 r H;exact c174B (hFr13:=ih.1) (hFr14:=ih.2.1) (hFr15:=ih.2.2.1) (hFr16:=ih.2.2.2) H⟩
theorem c174 {p0:gStmt} {p1:Int} {r:(List gQuad)} (H:s_l22Stmt p0 p1=some r):APure Tryz.prog G 174 [.agg [.int .i64 p0.Kind,.int .i64 p0.Var,.int .i64 p0.Box,.int .i64 p0.Expr.Op,.int .i64 p0.Expr.N,.fsl (encL rExpr p0.Expr.Args),.fsl (encL rStmt p0.Body),.fsl (encL rStmt p0.Else)],.int .i64 p1] (.fsl (encL rQuad r)):=by
 unfold s_l22Stmt at H
 obtain⟨n,H⟩:=recF_some H
 exact(c162R n).2.2.2 H
theorem c162_o {p0:(List gStmt)} {p1:Int} {r:(List gQuad)} (H:s_l22List_o p0 p1=some r) {σ:AHeap}:ACalls Tryz.prog G 162 [.fsl (encL rStmt p0),.int .i64 p1] σ (fun v σ'=>∃M n0:Nat,σ.next≤M∧σ.next≤n0∧n0<M∧v=.sl n0 0 r.length∧σ'=hp σ.objs [(n0,some ⟨48,5,encL rQuad r⟩)] M):=by
 refine ACalls_fr (L:=[]) (Q1:=fun v σ'=>∃M n0:Nat,σ.next≤M∧σ.next≤n0∧n0<M∧v=.sl n0 0 r.length∧σ'=hp E0 [(n0,some ⟨48,5,encL rQuad r⟩)] M) (by simp[]) (fun hlt=>?_) ?_ ⟨_,Tryz.func162,rfl,rfl⟩
 rotate_left
 ·rintro v σ1 ⟨M,n0,h0,h1,h2,rfl,rfl⟩
  exact⟨_,M,rfl,by simp,by simp;try omega,M,n0,h0,h1,h2,rfl,rfl⟩
 generalize σ.next=N0 at hlt ⊢
 refine fnK tok Tryz.func162 Tryz.ntmps162 Tryz.results162 ?_
 simp only[argsA,Nat.reduceAdd,hp_next]
 unfold s_l22List_o at H
 refine S0 tok [] [0,1] ?_
 have q0:∀σ i,buildSliceA T 39 true i 0 [] σ=some (.esl,σ):=fun _ _=>rfl
 refine Sx tok [0] [0,1,5] (by intro K k;simp -dsimp -implicitDefEqProofs [q0];exact k) ?_
 refine AWP_sq [5] fun K1 hK1=>?_
 refine S0 tok [] [0,1,5,6] ?_
 refine AWP_block (AWP_thenB ?_)
 obtain⟨e1,hse1,H⟩:=bindE H
 refine AWP_lp [0,1,5,6] (fun s a σ=>∃M1 o1:Nat,N0≤M1∧N0≤o1∧o1<M1∧a=[(0,.fsl (encL rStmt p0)),(1,.int .i64 p1),(5,.sl o1 0 s.2.length),(6,.int .i64 s.1)]∧σ=hp E0 [(o1,some ⟨48,5,encL rQuad s.2⟩)] M1) (fun s x a σ=>x=.exit 0∧Rc G 26 N0 (fun a σ=>∃M2 o2:Nat,N0≤M2∧N0≤o2∧o2<M2∧a=[(5,.sl o2 0 s.length)]∧σ=hp E0 [(o2,some ⟨48,5,encL rQuad s⟩)] M2) (AAct.keep a [5]) σ) hse1 ?_ ?_ ?_
 ·refine Rc.kp [0,1,5,6] [(0,.fsl (encL rStmt p0)),(1,.int .i64 p1),(5,.esl),(6,.int .i64 0)] rfl ?_
  refine gNilS Rc_ref 5 48 5 [(N0+4,some ⟨48,5,encL rQuad ([]:List gQuad)⟩)] [(0,.fsl (encL rStmt p0)),(1,.int .i64 p1),(5,.sl (N0+4) 0 ([]:List gQuad).length),(6,.int .i64 0)] (by simp(disch:=omega)) (by simp(disch:=omega) [encL_nil]) [0,1,5,6] rfl ?_
  exact Rf ⟨N0+5,(N0+4),(by omega),(by omega),(by omega),rfl,rfl⟩
 ·clear H hse1
  rintro⟨s1,s2⟩ fl a σ H ⟨M1,o1,fM1_0,fM1_1,fM1_2,rfl,rfl⟩ K2 O2 hK2 hO2
  unfold s_l22List_o_L1 at H;dsimp only at H
  refine AWP_sq [0,1,5,6] fun K3 hK3=>?_
  refine S0 tok [] [0,1,5,6,11] ?_
  refine Cd (fun C1=>?_) fun C1=>?_
  ·replace H:=ifT C1 H
   refine AWP_skip (Jn hK3 ?_)
   refine AWP_sq [0,1,5,6] fun K4 hK4=>?_
   refine AWP_block (AWP_thenB ?_)
   obtain⟨v4,hv4,H⟩:=bindE H
   obtain⟨r5,hr5,H⟩:=bindE H
   obtain⟨l6,hl6,H⟩:=bindE H
   refine Rt tok [] [0,1,5,6] (by
    intro K k
    have e0:=nQ o1 (M1+14)
    repeat first|simp -dsimp -implicitDefEqProofs [e0,ix160 hv4,app39 hl6]|refine(c174 hr5).app ?_
    exact k) fun a ha=>?_
   refine hK4 _ _ ?_;rw[ha]
   refine Rc.mk ?_
   refine Rt0 tok [] [0,1,5,6] fun a ha=>?_
   obtain rfl:=oi H
   refine hK2 _ _ _ rfl ?_;rw[ha]
   exact Rf ⟨M1+19,(M1+14),(by omega),(by omega),(by omega),rfl,rfl⟩
  ·obtain rfl:=oi (ifF C1 H)
   refine AWP_exit (hO2 _ _ _ _ rfl ⟨rfl,?_⟩)
   refine Rc.rw (l:=[5]) (X:=[(5,.sl o1 0 s2.length)]) rfl ?_
   exact Rf ⟨M1+4,o1,(by omega),(by omega),(by omega),rfl,rfl⟩
 ·intro x a σ hx
  obtain⟨y3,rfl⟩:∃x,x=e1:=⟨_,rfl⟩
  obtain⟨rfl,b,τ,hr,M2,o2,fM2_0,fM2_1,fM2_2,rfl,rfl⟩:=hx
  (try dsimp only at H)
  show K1 _ _
  refine hK1 _ _ (Rc_ref hr ?_)
  refine Rc.mk ?_
  refine S0 tok [] [4] ?_
  obtain rfl:=oi H
  refine Kp [4] ?_
  refine AWP_ret ?_
  refine⟨[.sl o2 0 y3.length],by simp,M2+2,o2,by omega,by omega,by omega,?_,?_⟩
  ·simp[encL_nil]
  ·first|rfl|simp[List.set_set]
theorem c143 {p0:(List gStmt)} {r:(List gQuad)×Bool} (H:s_CompileTask p0=some r):APure Tryz.prog G 143 [.fsl (encL rStmt p0)] (.tup [.fsl (encL rQuad r.1),.bool r.2]):=by
 refine APure_fn (fun N0=>?_) (by simp)
 refine fnK tok Tryz.func143 Tryz.ntmps143 Tryz.results143 ?_
 simp only[argsA,Nat.reduceAdd,hp_next]
 unfold s_CompileTask at H
 refine S0 tok [] [0] ?_
 refine AWP_sq [0] fun K1 hK1=>?_
 obtain⟨r1,hr1,H⟩:=bindE H
 refine Sx tok [] [0,6] (by intro K k;(repeat first|simp -dsimp -implicitDefEqProofs|refine(c161 hr1).app ?_);exact k) ?_
 refine Cd (fun C1=>?_) fun C1=>?_
 ·replace H:=ifT C1 H
  have q0:∀σ i,buildSliceA T 39 true i 0 [] σ=some (.esl,σ):=fun _ _=>rfl
  refine Sx tok [0] [2,3] (by intro K k;simp -dsimp -implicitDefEqProofs [q0];exact k) ?_
  obtain rfl:=oi H;exact AWP_ret ⟨_,rfl,4,by simp[encL_nil]⟩
 ·replace H:=ifF C1 H
  refine AWP_skip (Jn hK1 ?_)
  obtain⟨r2,hr2,H⟩:=bindE H
  obtain⟨l3,hl3,H⟩:=bindE H
  have q1:∀σ i,buildSliceA T 39 true i 1 [(0,.agg [.int .i64 10,.int .i64 0,.int .i64 0,.int .i64 0,.int .i64 0])] σ=some (.fsl (encL rQuad ([(⟨10,0,0,0,0⟩:gQuad)]:List gQuad)),σ):=fun _ _=>rfl
  refine AWP_sr tok [3] [2,3] (fun a σ=>∃M1 o1:Nat,N0+12≤M1∧N0+12≤o1∧o1<M1∧a=[(2,.sl (N0+9) 0 l3.length),(3,.bool true)]∧σ=hp E0 [(N0+9,some ⟨48,5,encL rQuad l3⟩)] M1) (fun K hK=>?_) ?_
  ·skip
   simp -dsimp -implicitDefEqProofs [q1,app39 hl3]
   refine(c162_o (H:=hr2)).mono ?_;rintro _ _ ⟨M1,o1,fM1_0,fM1_1,fM1_2,rfl,rfl⟩;simp only[hp_next] at fM1_0 fM1_1 fM1_2
   have eM1_0:=nQ o1 (N0+9)
   try simp -dsimp -implicitDefEqProofs [q1,app39 hl3,eM1_0,hp_over_some,hp_over_none]
   exact hK _ _ ⟨M1,o1,(by omega),(by omega),(by omega),rfl,rfl⟩
  rintro a σ ⟨M1,o1,fM1_0,fM1_1,fM1_2,rfl,rfl⟩
  refine gFrz AWP_ref 4 [N0+9] [] [(2,.fsl (encL rQuad l3)),(3,.bool true)] (by simp) (cutD (by simp)) ?_
  obtain rfl:=oi H;exact AWP_ret ⟨_,rfl,4,by simp[encL_nil]⟩
theorem c146 {p0:Int} {p1:Bool} {r:Bool} (H:s_l21Reg p0 p1=some r):APure Tryz.prog G 146 [.int .i64 p0,.bool p1] (.bool r):=by
 refine APure_fn (fun N0=>?_) (by simp)
 refine fnK tok Tryz.func146 Tryz.ntmps146 Tryz.results146 ?_
 simp only[argsA,Nat.reduceAdd,hp_next]
 unfold s_l21Reg at H
 refine S0 tok [] [0,1] ?_
 refine AWP_sq [0] fun K1 hK1=>?_
 refine S0 tok [] [0,5] ?_
 refine Cd (fun C1=>?_) fun C1=>?_
 ·replace H:=ifT C1 H
  obtain⟨r1,hr1,H⟩:=bindE H
  refine Sx tok [] [4] (by intro K k;(repeat first|simp -dsimp -implicitDefEqProofs|refine(c21 hr1).app ?_);exact k) ?_
  obtain rfl:=oi H;exact AWP_ret ⟨_,rfl,4,by simp[encL_nil]⟩
 ·replace H:=ifF C1 H
  refine AWP_skip (Jn hK1 ?_)
  refine S0 tok [] [4] ?_
  obtain rfl:=oi H;exact AWP_ret ⟨_,rfl,4,by simp[encL_nil]⟩
theorem c116 {p0:gQuad} {p1:Bool} {p2:Bool} {p3:Bool} {r:Bool} (H:s_l21Regs p0 p1 p2 p3=some r):APure Tryz.prog G 116 [.agg [.int .i64 p0.Op,.int .i64 p0.Dst,.int .i64 p0.A,.int .i64 p0.B,.int .i64 p0.N],.bool p1,.bool p2,.bool p3] (.bool r):=by
 refine APure_fn (fun N0=>?_) (by simp)
 refine fnK tok Tryz.func116 Tryz.ntmps116 Tryz.results116 ?_
 simp only[argsA,Nat.reduceAdd,hp_next]
 unfold s_l21Regs at H
 refine S0 tok [0] [1,2,3,4] ?_
 obtain⟨r1,hr1,H⟩:=bindE H
 obtain⟨g3,hg3,H⟩:=bindE H
 obtain⟨g5,hg5,H⟩:=bindE H
 refine Sx tok [] [8] (X:=[(8,.bool g5)]) (Y:=hp E0 [] (N0+19)) (by
  intro K k
  simp -dsimp -implicitDefEqProofs
  refine(c146 hr1).app ?_;try simp -dsimp -implicitDefEqProofs
  cases hbg3:r1
  ·obtain rfl:=oi (ifF hbg3 hg3)
   obtain rfl:=oi (ifF rfl hg5)
   try simp -dsimp -implicitDefEqProofs [hbg3]
   exact k
  ·replace hg3:=ifT hbg3 hg3
   obtain⟨r2,hr2,hg3⟩:=bindE hg3
   obtain rfl:=oi hg3
   try simp -dsimp -implicitDefEqProofs [hbg3]
   refine(c146 hr2).app ?_;try simp -dsimp -implicitDefEqProofs [hbg3]
   cases hbg5:r2
   ·obtain rfl:=oi (ifF hbg5 hg5)
    try simp -dsimp -implicitDefEqProofs [hbg3,hbg5]
    exact k
   ·replace hg5:=ifT hbg5 hg5
    obtain⟨r4,hr4,hg5⟩:=bindE hg5
    obtain rfl:=oi hg5
    try simp -dsimp -implicitDefEqProofs [hbg3,hbg5]
    refine(c146 hr4).app ?_;try simp -dsimp -implicitDefEqProofs [hbg3,hbg5]
    exact k) ?_
 obtain rfl:=oi H;exact AWP_ret ⟨_,rfl,4,by simp[encL_nil]⟩
theorem c100 {p0:Int} {r:Bool} (H:s_WordValid p0=some r):APure Tryz.prog G 100 [.int .i64 p0] (.bool r):=by
 refine APure_fn (fun N0=>?_) (by simp)
 refine fnK tok Tryz.func100 Tryz.ntmps100 Tryz.results100 ?_
 simp only[argsA,Nat.reduceAdd,hp_next]
 unfold s_WordValid at H
 refine S0 tok [] [0] ?_
 obtain⟨r1,hr1,H⟩:=bindE H
 refine Sx tok [] [2] (by intro K k;(repeat first|simp -dsimp -implicitDefEqProofs|refine(c21 hr1).app ?_);exact k) ?_
 obtain rfl:=oi H;exact AWP_ret ⟨_,rfl,4,by simp[encL_nil]⟩
theorem c94 {p0:gQuad} {p1:Int} {r:Bool} (H:s_QuadValid p0 p1=some r):APure Tryz.prog G 94 [.agg [.int .i64 p0.Op,.int .i64 p0.Dst,.int .i64 p0.A,.int .i64 p0.B,.int .i64 p0.N],.int .i64 p1] (.bool r):=by
 refine APure_fn (fun N0=>?_) (by simp)
 refine fnK tok Tryz.func94 Tryz.ntmps94 Tryz.results94 ?_
 simp only[argsA,Nat.reduceAdd,hp_next]
 unfold s_QuadValid at H
 refine S0 tok [0] [1,2] ?_
 refine AWP_sq [] fun K1 hK1=>?_
 refine S0 tok [] [1,2,6] ?_
 refine AWP_block (AWP_thenB ?_)
 refine S0 tok [] [1,2,6,7] ?_
 refine Cd (fun C1=>?_) fun C1=>?_
 ·replace H:=ifT C1 H
  obtain⟨r1,hr1,H⟩:=bindE H
  obtain⟨g3,hg3,H⟩:=bindE H
  refine Sx tok [] [4] (X:=[(4,.bool g3)]) (Y:=hp E0 [] (N0+14)) (by
   intro K k
   simp -dsimp -implicitDefEqProofs
   refine(c116 hr1).app ?_;try simp -dsimp -implicitDefEqProofs
   cases hbg3:r1
   ·obtain rfl:=oi (ifF hbg3 hg3)
    try simp -dsimp -implicitDefEqProofs [hbg3]
    exact k
   ·replace hg3:=ifT hbg3 hg3
    obtain⟨r2,hr2,hg3⟩:=bindE hg3
    obtain rfl:=oi hg3
    try simp -dsimp -implicitDefEqProofs [hbg3]
    refine(c100 hr2).app ?_;try simp -dsimp -implicitDefEqProofs [hbg3]
    exact k) ?_
  obtain rfl:=oi H;exact AWP_ret ⟨_,rfl,4,by simp[encL_nil]⟩
 ·replace H:=ifF C1 H
  refine S0 tok [] [1,2,6,16] ?_
  refine Cd (fun C2=>?_) fun C2=>?_
  ·replace H:=ifT C2 H
   obtain⟨r4,hr4,H⟩:=bindE H
   obtain⟨g5,hg5,H⟩:=bindE H
   refine Sx tok [] [4] (X:=[(4,.bool g5)]) (Y:=hp E0 [] (N0+16)) (by
    intro K k
    simp -dsimp -implicitDefEqProofs
    refine(c116 hr4).app ?_;try simp -dsimp -implicitDefEqProofs
    cases hbg5:r4
    ·obtain rfl:=oi (ifF hbg5 hg5)
     try simp -dsimp -implicitDefEqProofs [hbg5]
     exact k
    ·obtain rfl:=oi (ifT hbg5 hg5)
     try simp -dsimp -implicitDefEqProofs [hbg5]
     exact k) ?_
   obtain rfl:=oi H;exact AWP_ret ⟨_,rfl,4,by simp[encL_nil]⟩
  ·replace H:=ifF C2 H
   refine S0 tok [] [1,2,6,25] ?_
   refine Cd (fun C3=>?_) fun C3=>?_
   ·replace H:=ifT C3 H
    obtain⟨r6,hr6,H⟩:=bindE H
    obtain⟨g8,hg8,H⟩:=bindE H
    refine Sx tok [] [4] (X:=[(4,.bool g8)]) (Y:=hp E0 [] (N0+18)) (by
     intro K k
     simp -dsimp -implicitDefEqProofs
     refine(c116 hr6).app ?_;try simp -dsimp -implicitDefEqProofs
     cases hbg8:r6
     ·obtain rfl:=oi (ifF hbg8 hg8)
      try simp -dsimp -implicitDefEqProofs [hbg8]
      exact k
     ·replace hg8:=ifT hbg8 hg8
      obtain⟨r7,hr7,hg8⟩:=bindE hg8
      obtain rfl:=oi hg8
      try simp -dsimp -implicitDefEqProofs [hbg8]
      refine(c117 hr7).app ?_;try simp -dsimp -implicitDefEqProofs [hbg8]
      exact k) ?_
    obtain rfl:=oi H;exact AWP_ret ⟨_,rfl,4,by simp[encL_nil]⟩
   ·replace H:=ifF C3 H
    refine S0 tok [] [1,2,6,34] ?_
    refine Cd (fun C4=>?_) fun C4=>?_
    ·replace H:=ifT C4 H
     obtain⟨r9,hr9,H⟩:=bindE H
     obtain⟨g10,hg10,H⟩:=bindE H
     obtain⟨g11,hg11,H⟩:=bindE H
     refine Sx tok [] [4] (X:=[(4,.bool g11)]) (Y:=hp E0 [] (N0+26)) (by
      intro K k
      simp -dsimp -implicitDefEqProofs
      refine(c116 hr9).app ?_;try simp -dsimp -implicitDefEqProofs
      cases hbg10:r9
      ·obtain rfl:=oi (ifF hbg10 hg10)
       obtain rfl:=oi (ifF rfl hg11)
       try simp -dsimp -implicitDefEqProofs [hbg10]
       exact k
      ·obtain rfl:=oi (ifT hbg10 hg10)
       try simp -dsimp -implicitDefEqProofs [hbg10]
       cases hbg11:(ige p0.N 0)
       ·obtain rfl:=oi (ifF hbg11 hg11)
        try simp -dsimp -implicitDefEqProofs [hbg10,hbg11]
        exact k
       ·obtain rfl:=oi (ifT hbg11 hg11)
        try simp -dsimp -implicitDefEqProofs [hbg10,hbg11]
        exact k) ?_
     obtain rfl:=oi H;exact AWP_ret ⟨_,rfl,4,by simp[encL_nil]⟩
    ·replace H:=ifF C4 H
     refine S0 tok [] [1,2,6,49] ?_
     refine Cd (fun C5=>?_) fun C5=>?_
     ·replace H:=ifT C5 H
      obtain⟨r12,hr12,H⟩:=bindE H
      obtain⟨g13,hg13,H⟩:=bindE H
      obtain⟨g14,hg14,H⟩:=bindE H
      refine Sx tok [] [4] (X:=[(4,.bool g14)]) (Y:=hp E0 [] (N0+28)) (by
       intro K k
       simp -dsimp -implicitDefEqProofs
       refine(c116 hr12).app ?_;try simp -dsimp -implicitDefEqProofs
       cases hbg13:r12
       ·obtain rfl:=oi (ifF hbg13 hg13)
        obtain rfl:=oi (ifF rfl hg14)
        try simp -dsimp -implicitDefEqProofs [hbg13]
        exact k
       ·obtain rfl:=oi (ifT hbg13 hg13)
        try simp -dsimp -implicitDefEqProofs [hbg13]
        cases hbg14:(ige p0.N 0)
        ·obtain rfl:=oi (ifF hbg14 hg14)
         try simp -dsimp -implicitDefEqProofs [hbg13,hbg14]
         exact k
        ·obtain rfl:=oi (ifT hbg14 hg14)
         try simp -dsimp -implicitDefEqProofs [hbg13,hbg14]
         exact k) ?_
      obtain rfl:=oi H;exact AWP_ret ⟨_,rfl,4,by simp[encL_nil]⟩
     ·replace H:=ifF C5 H
      refine S0 tok [] [2,6,64] ?_
      refine Cd (fun C6=>?_) fun C6=>?_
      ·replace H:=ifT C6 H
       obtain⟨r15,hr15,H⟩:=bindE H
       obtain⟨g17,hg17,H⟩:=bindE H
       refine Sx tok [] [4] (X:=[(4,.bool g17)]) (Y:=hp E0 [] (N0+24)) (by
        intro K k
        simp -dsimp -implicitDefEqProofs
        refine(c116 hr15).app ?_;try simp -dsimp -implicitDefEqProofs
        cases hbg17:r15
        ·obtain rfl:=oi (ifF hbg17 hg17)
         try simp -dsimp -implicitDefEqProofs [hbg17]
         exact k
        ·replace hg17:=ifT hbg17 hg17
         obtain⟨r16,hr16,hg17⟩:=bindE hg17
         obtain rfl:=oi hg17
         try simp -dsimp -implicitDefEqProofs [hbg17]
         refine(c21 hr16).app ?_;try simp -dsimp -implicitDefEqProofs [hbg17]
         exact k) ?_
       obtain rfl:=oi H;exact AWP_ret ⟨_,rfl,4,by simp[encL_nil]⟩
      ·replace H:=ifF C6 H
       refine S0 tok [] [2,6,73] ?_
       refine Cd (fun C7=>?_) fun C7=>?_
       ·replace H:=ifT C7 H
        obtain⟨r18,hr18,H⟩:=bindE H
        obtain⟨g20,hg20,H⟩:=bindE H
        refine Sx tok [] [4] (X:=[(4,.bool g20)]) (Y:=hp E0 [] (N0+26)) (by
         intro K k
         simp -dsimp -implicitDefEqProofs
         refine(c116 hr18).app ?_;try simp -dsimp -implicitDefEqProofs
         cases hbg20:r18
         ·obtain rfl:=oi (ifF hbg20 hg20)
          try simp -dsimp -implicitDefEqProofs [hbg20]
          exact k
         ·replace hg20:=ifT hbg20 hg20
          obtain⟨r19,hr19,hg20⟩:=bindE hg20
          obtain rfl:=oi hg20
          try simp -dsimp -implicitDefEqProofs [hbg20]
          refine(c21 hr19).app ?_;try simp -dsimp -implicitDefEqProofs [hbg20]
          exact k) ?_
        obtain rfl:=oi H;exact AWP_ret ⟨_,rfl,4,by simp[encL_nil]⟩
       ·replace H:=ifF C7 H
        refine S0 tok [] [2,6,82] ?_
        refine Cd (fun C8=>?_) fun C8=>?_
        ·replace H:=ifT C8 H
         obtain⟨r21,hr21,H⟩:=bindE H
         obtain⟨g22,hg22,H⟩:=bindE H
         refine Sx tok [] [4] (X:=[(4,.bool g22)]) (Y:=hp E0 [] (N0+28)) (by
          intro K k
          simp -dsimp -implicitDefEqProofs
          refine(c116 hr21).app ?_;try simp -dsimp -implicitDefEqProofs
          cases hbg22:r21
          ·obtain rfl:=oi (ifF hbg22 hg22)
           try simp -dsimp -implicitDefEqProofs [hbg22]
           exact k
          ·obtain rfl:=oi (ifT hbg22 hg22)
           try simp -dsimp -implicitDefEqProofs [hbg22]
           exact k) ?_
         obtain rfl:=oi H;exact AWP_ret ⟨_,rfl,4,by simp[encL_nil]⟩
        ·replace H:=ifF C8 H
         obtain⟨j1,hj1,H⟩:=bindE H
         refine AWP_seq (AWP_named fun K2 hK2=>?_)
         have hJ1:∀a σ,Rc G 101 N0 (fun a σ=>∃M1:Nat,N0≤M1∧a=[(2,.fptr [.int .i64 p0.Op,.int .i64 p0.Dst,.int .i64 p0.A,.int .i64 p0.B,.int .i64 p0.N] 0),(91,.bool j1)]∧σ=hp E0 [] M1) (a.keep [2,91]) σ→K2 a σ:=by
          rintro a σ ⟨b,τ,hr,M1,fM1_0,rfl,rfl⟩
          refine hK2 _ _ (AWP_keep [2,91] (AWP_ref hr ?_))
          refine Cd (fun C9=>?_) fun C9=>?_
          ·replace H:=ifT C9 H
           obtain⟨r24,hr24,H⟩:=bindE H
           obtain⟨g25,hg25,H⟩:=bindE H
           refine Sx tok [] [4] (X:=[(4,.bool g25)]) (Y:=hp E0 [] (M1+8)) (by
            intro K k
            simp -dsimp -implicitDefEqProofs
            refine(c116 hr24).app ?_;try simp -dsimp -implicitDefEqProofs
            cases hbg25:r24
            ·obtain rfl:=oi (ifF hbg25 hg25)
             try simp -dsimp -implicitDefEqProofs [hbg25]
             exact k
            ·obtain rfl:=oi (ifT hbg25 hg25)
             try simp -dsimp -implicitDefEqProofs [hbg25]
             exact k) ?_
           obtain rfl:=oi H;exact AWP_ret ⟨_,rfl,4,by simp[encL_nil]⟩
          ·replace H:=ifF C9 H
           refine AWP_skip (Jn hK1 ?_)
           refine S0 tok [] [4] ?_
           obtain rfl:=oi H;exact AWP_ret ⟨_,rfl,4,by simp[encL_nil]⟩
         replace H:=hj1
         refine S0 tok [] [2,6,91] ?_
         refine Cd (fun C10=>?_) fun C10=>?_
         ·replace H:=ifT C10 H
          refine AWP_skip ?_
          show K2 _ _
          refine kE [2,91] fun a' ha=>?_
          obtain rfl:=oi H
          refine hJ1 _ _ ?_;rw[ha]
          exact Rf ⟨N0+22,(by omega),rfl,rfl⟩
         ·replace H:=ifF C10 H
          refine Rt0 tok [] [2,91] fun a ha=>?_
          obtain rfl:=oi H
          refine hJ1 _ _ ?_;rw[ha]
          exact Rf ⟨N0+24,(by omega),rfl,rfl⟩
theorem c47 {p0:(List gQuad)} {r:Bool} (H:s_CodeValid p0=some r):APure Tryz.prog G 47 [.fsl (encL rQuad p0)] (.bool r):=by
 refine APure_fn (fun N0=>?_) (by simp)
 refine fnK tok Tryz.func47 Tryz.ntmps47 Tryz.results47 ?_
 simp only[argsA,Nat.reduceAdd,hp_next]
 unfold s_CodeValid at H
 refine S0 tok [] [0] ?_
 refine S0 tok [] [0,3] ?_
 refine AWP_sq [0,3] fun K1 hK1=>?_
 obtain⟨r1,hr1,H⟩:=bindE H
 refine Sx tok [] [0,3,9] (by intro K k;(repeat first|simp -dsimp -implicitDefEqProofs|refine(c21 hr1).app ?_);exact k) ?_
 refine Cd (fun C1=>?_) fun C1=>?_
 ·replace H:=ifT C1 H
  refine S0 tok [] [2] ?_
  obtain rfl:=oi H;exact AWP_ret ⟨_,rfl,4,by simp[encL_nil]⟩
 ·replace H:=ifF C1 H
  refine AWP_skip (Jn hK1 ?_)
  refine AWP_sq [0,3] fun K2 hK2=>?_
  refine S0 tok [] [0,3,4] ?_
  refine AWP_block (AWP_thenB ?_)
  obtain⟨e1,hse1,H⟩:=bindE H
  refine AWP_lp [0,3,4] (fun s a σ=>∃M1:Nat,N0≤M1∧a=[(0,.fsl (encL rQuad p0)),(3,.int .i64 (ilen p0)),(4,.int .i64 s)]∧σ=hp E0 [] M1) (fun e x a σ=>match e with|.inl s=>x=.exit 0∧Rc G 38 N0 (fun a σ=>∃M2:Nat,N0≤M2∧a=[(0,.fsl (encL rQuad p0)),(3,.int .i64 (ilen p0))]∧σ=hp E0 [] M2) (AAct.keep a [0,3]) σ|.inr s=>x=.ret∧∃vs,resA T σ a [.tmp 2]=some vs∧∃d,thawA (fun _=>true) σ d (tupA vs)=.bool s) hse1 ?_ ?_ ?_
  ·refine Rc.kp [0,3,4] [(0,.fsl (encL rQuad p0)),(3,.int .i64 (ilen p0)),(4,.int .i64 0)] rfl ?_
   exact Rf ⟨N0+8,(by omega),rfl,rfl⟩
  ·clear H hse1
   rintro s2 fl a σ H ⟨M1,fM1_0,rfl,rfl⟩ K3 O3 hK3 hO3
   unfold s_CodeValid_L1 at H;dsimp only at H
   refine AWP_sq [0,3,4] fun K4 hK4=>?_
   refine S0 tok [] [0,3,4,12] ?_
   refine Cd (fun C2=>?_) fun C2=>?_
   ·replace H:=ifT C2 H
    refine AWP_skip (Jn hK4 ?_)
    refine AWP_sq [0,3,4] fun K5 hK5=>?_
    refine AWP_block (AWP_thenB ?_)
    obtain⟨v3,hv3,H⟩:=bindE H
    obtain⟨r4,hr4,H⟩:=bindE H
    refine Sx tok [] [0,3,4,21] (by intro K k;(repeat first|simp -dsimp -implicitDefEqProofs [ix39 hv3]|refine(c94 hr4).app ?_);exact k) ?_
    refine Cd (fun C3=>?_) fun C3=>?_
    ·replace H:=ifT C3 H
     refine S0 tok [] [2] ?_
     obtain rfl:=oi H
     refine Kp [2] ?_
     refine AWP_ret (hO3 _ _ _ _ rfl ⟨rfl,?_⟩)
     exact⟨[.bool false],by simp,4,by simp[encL_nil]⟩
    ·replace H:=ifF C3 H
     refine AWP_skip (Jn hK5 ?_)
     refine Rt0 tok [] [0,3,4] fun a ha=>?_
     obtain rfl:=oi H
     refine hK3 _ _ _ rfl ?_;rw[ha]
     exact Rf ⟨M1+13,(by omega),rfl,rfl⟩
   ·obtain rfl:=oi (ifF C2 H)
    refine AWP_exit (hO3 _ _ _ _ rfl ⟨rfl,?_⟩)
    refine Rc.rw (l:=[0,3]) (X:=[(0,.fsl (encL rQuad p0)),(3,.int .i64 (ilen p0))]) rfl ?_
    exact Rf ⟨M1+3,(by omega),rfl,rfl⟩
  ·intro x a σ hx
   rcases e1 with⟨⟩|r0
   ·obtain⟨rfl,b,τ,hr,M2,fM2_0,rfl,rfl⟩:=hx
    (try dsimp only at H)
    show K2 _ _
    refine hK2 _ _ (Rc_ref hr ?_)
    refine Rc.mk ?_
    obtain⟨v5,hv5,H⟩:=bindE H
    obtain⟨g6,hg6,H⟩:=bindE H
    refine Sx tok [] [2] (X:=[(2,.bool g6)]) (Y:=hp E0 [] (M2+17)) (by
     intro K k
     simp -dsimp -implicitDefEqProofs [ix39 hv5]
     cases hbg6:ieq v5.Op 10
     ·obtain rfl:=oi (ifF hbg6 hg6)
      try simp -dsimp -implicitDefEqProofs [ix39 hv5,hbg6,ix39 hv5]
      exact k
     ·obtain rfl:=oi (ifT hbg6 hg6)
      try simp -dsimp -implicitDefEqProofs [ix39 hv5,hbg6]
      exact k) ?_
    obtain rfl:=oi H;exact AWP_ret ⟨_,rfl,4,by simp[encL_nil]⟩
   ·obtain⟨rfl,hx2⟩:=hx
    (try dsimp only at H)
    obtain rfl:=oi H;first|exact hx2|(simp only[List.set_set] at hx2 ⊢;exact hx2)
theorem c214 {p0:(List gQuad)} {p1:Int} {r:(List Int)} (H:s_l31Next p0 p1=some r):APure Tryz.prog G 214 [.fsl (encL rQuad p0),.int .i64 p1] (.fsl (encL rI r)):=by
 refine APure_fn (fun N0=>?_) (by simp)
 refine fnK tok Tryz.func214 Tryz.ntmps214 Tryz.results214 ?_
 simp only[argsA,Nat.reduceAdd,hp_next]
 unfold s_l31Next at H
 refine S0 tok [] [0,1] ?_
 obtain⟨v1,hv1,H⟩:=bindE H
 refine Sx tok [] [1,5] (by intro K k;simp -dsimp -implicitDefEqProofs [ix39 hv1];exact k) ?_
 refine AWP_sq [1] fun K1 hK1=>?_
 refine AWP_block (AWP_thenB ?_)
 refine S0 tok [] [1,5,10] ?_
 refine Cd (fun C1=>?_) fun C1=>?_
 ·replace H:=ifT C1 H
  have q0:∀σ i,buildSliceA T 24 true i 0 [] σ=some (.esl,σ):=fun _ _=>rfl
  refine Sx tok [0] [4] (by intro K k;simp -dsimp -implicitDefEqProofs [q0];exact k) ?_
  obtain rfl:=oi H;exact AWP_ret ⟨_,rfl,4,by simp[encL_nil]⟩
 ·replace H:=ifF C1 H
  refine S0 tok [] [1,5,15] ?_
  refine Cd (fun C2=>?_) fun C2=>?_
  ·replace H:=ifT C2 H
   have q1:∀σ i,buildSliceA T 24 true i 1 [(0,.int .i64 v1.N)] σ=some (.fsl (encL rI ([v1.N]:List Int)),σ):=fun _ _=>rfl
   refine Sx tok [2] [4] (by intro K k;simp -dsimp -implicitDefEqProofs [q1];exact k) ?_
   obtain rfl:=oi H;exact AWP_ret ⟨_,rfl,4,by simp[encL_nil]⟩
  ·replace H:=ifF C2 H
   obtain⟨g2,hg2,H⟩:=bindE H
   refine Sx tok [] [1,5,22] (X:=[(1,.int .i64 p1),(5,.ptr (N0+5) 0 0),(22,.bool g2)]) (Y:=hp E0 [(N0+5,some ⟨48,5,[[.int .i64 v1.Op,.int .i64 v1.Dst,.int .i64 v1.A,.int .i64 v1.B,.int .i64 v1.N]]⟩)] (N0+26)) (by
    intro K k
    simp -dsimp -implicitDefEqProofs
    cases hbg2:ieq v1.Op 5
    ·obtain rfl:=oi (ifF hbg2 hg2)
     try simp -dsimp -implicitDefEqProofs [hbg2]
     exact k
    ·obtain rfl:=oi (ifT hbg2 hg2)
     try simp -dsimp -implicitDefEqProofs [hbg2]
     exact k) ?_
   refine Cd (fun C3=>?_) fun C3=>?_
   ·replace H:=ifT C3 H
    have q2:∀σ i,buildSliceA T 24 true i 2 [(0,.int .i64 v1.N),(1,.int .i64 (iadd .i64 p1 1))] σ=some (.fsl (encL rI ([v1.N,iadd .i64 p1 1]:List Int)),σ):=fun _ _=>rfl
    refine Sx tok [4] [4] (by intro K k;simp -dsimp -implicitDefEqProofs [q2];exact k) ?_
    obtain rfl:=oi H;exact AWP_ret ⟨_,rfl,4,by simp[encL_nil]⟩
   ·replace H:=ifF C3 H
    obtain⟨g3,hg3,H⟩:=bindE H
    refine Sx tok [] [1,5,38] (X:=[(1,.int .i64 p1),(5,.ptr (N0+5) 0 0),(38,.bool g3)]) (Y:=hp E0 [(N0+5,some ⟨48,5,[[.int .i64 v1.Op,.int .i64 v1.Dst,.int .i64 v1.A,.int .i64 v1.B,.int .i64 v1.N]]⟩)] (N0+37)) (by
     intro K k
     simp -dsimp -implicitDefEqProofs
     cases hbg3:ieq v1.Op 5
     ·obtain rfl:=oi (ifF hbg3 hg3)
      try simp -dsimp -implicitDefEqProofs [hbg3]
      exact k
     ·obtain rfl:=oi (ifT hbg3 hg3)
      try simp -dsimp -implicitDefEqProofs [hbg3]
      exact k) ?_
    refine Cd (fun C4=>?_) fun C4=>?_
    ·replace H:=ifT C4 H
     have q3:∀σ i,buildSliceA T 24 true i 2 [(0,.int .i64 (iadd .i64 p1 1)),(1,.int .i64 v1.N)] σ=some (.fsl (encL rI ([iadd .i64 p1 1,v1.N]:List Int)),σ):=fun _ _=>rfl
     refine Sx tok [4] [4] (by intro K k;simp -dsimp -implicitDefEqProofs [q3];exact k) ?_
     obtain rfl:=oi H;exact AWP_ret ⟨_,rfl,4,by simp[encL_nil]⟩
    ·replace H:=ifF C4 H
     refine AWP_skip (Jn hK1 ?_)
     have q4:∀σ i,buildSliceA T 24 true i 1 [(0,.int .i64 (iadd .i64 p1 1))] σ=some (.fsl (encL rI ([iadd .i64 p1 1]:List Int)),σ):=fun _ _=>rfl
     refine Sx tok [2] [4] (by intro K k;simp -dsimp -implicitDefEqProofs [q4];exact k) ?_
     obtain rfl:=oi H;exact AWP_ret ⟨_,rfl,4,by simp[encL_nil]⟩
theorem c137 {p0:Bool} {r:Int} (H:s_l2Flag p0=some r):APure Tryz.prog G 137 [.bool p0] (.int .i64 r):=by
 refine APure_fn (fun N0=>?_) (by simp)
 refine fnK tok Tryz.func137 Tryz.ntmps137 Tryz.results137 ?_
 simp only[argsA,Nat.reduceAdd,hp_next]
 unfold s_l2Flag at H
 refine S0 tok [] [0] ?_
 refine AWP_sq [] fun K1 hK1=>?_
 refine S0 tok [] [3] ?_
 refine Cd (fun C1=>?_) fun C1=>?_
 ·replace H:=ifT C1 H
  refine S0 tok [] [2] ?_
  obtain rfl:=oi H;exact AWP_ret ⟨_,rfl,4,by simp[encL_nil]⟩
 ·replace H:=ifF C1 H
  refine AWP_skip (Jn hK1 ?_)
  refine S0 tok [] [2] ?_
  obtain rfl:=oi H;exact AWP_ret ⟨_,rfl,4,by simp[encL_nil]⟩
theorem c167 {p0:Int} {p1:Int} {p2:Bool} {r:Int} (H:s_l2Shift p0 p1 p2=some r):APure Tryz.prog G 167 [.int .i64 p0,.int .i64 p1,.bool p2] (.int .i64 r):=by
 refine APure_fn (fun N0=>?_) (by simp)
 refine fnK tok Tryz.func167 Tryz.ntmps167 Tryz.results167 ?_
 simp only[argsA,Nat.reduceAdd,hp_next]
 unfold s_l2Shift at H
 refine S0 tok [] [0,1,2] ?_
 refine AWP_sq [0,1] fun K1 hK1=>?_
 refine S0 tok [] [0,1,7] ?_
 refine Cd (fun C1=>?_) fun C1=>?_
 ·replace H:=ifT C1 H
  obtain⟨v1,hv1,H⟩:=bindE H
  refine Sx tok [] [6] (by intro K k;simp -dsimp -implicitDefEqProofs [hv1];exact k) ?_
  obtain rfl:=oi H;exact AWP_ret ⟨_,rfl,4,by simp[encL_nil]⟩
 ·replace H:=ifF C1 H
  refine AWP_skip (Jn hK1 ?_)
  obtain⟨v2,hv2,H⟩:=bindE H
  obtain⟨r3,hr3,H⟩:=bindE H
  refine Sx tok [] [6] (by intro K k;(repeat first|simp -dsimp -implicitDefEqProofs [hv2]|refine(c136 hr3).app ?_);exact k) ?_
  obtain rfl:=oi H;exact AWP_ret ⟨_,rfl,4,by simp[encL_nil]⟩
theorem c168 {p0:Int} {p1:Int} {r:Int} (H:s_l2Divide p0 p1=some r):APure Tryz.prog G 168 [.int .i64 p0,.int .i64 p1] (.int .i64 r):=by
 refine APure_fn (fun N0=>?_) (by simp)
 refine fnK tok Tryz.func168 Tryz.ntmps168 Tryz.results168 ?_
 simp only[argsA,Nat.reduceAdd,hp_next]
 unfold s_l2Divide at H
 refine S0 tok [] [0,1] ?_
 refine AWP_sq [0,1] fun K1 hK1=>?_
 refine S0 tok [] [0,1,6] ?_
 refine Cd (fun C1=>?_) fun C1=>?_
 ·replace H:=ifT C1 H
  refine S0 tok [] [4] ?_
  obtain rfl:=oi H;exact AWP_ret ⟨_,rfl,4,by simp[encL_nil]⟩
 ·replace H:=ifF C1 H
  refine AWP_skip (Jn hK1 ?_)
  obtain⟨v1,hv1,H⟩:=bindE H
  obtain⟨r2,hr2,H⟩:=bindE H
  refine Sx tok [] [4] (by intro K k;(repeat first|simp -dsimp -implicitDefEqProofs [hv1]|refine(c136 hr2).app ?_);exact k) ?_
  obtain rfl:=oi H;exact AWP_ret ⟨_,rfl,4,by simp[encL_nil]⟩
theorem c169 {p0:Int} {p1:Int} {r:Int} (H:s_l2Remain p0 p1=some r):APure Tryz.prog G 169 [.int .i64 p0,.int .i64 p1] (.int .i64 r):=by
 refine APure_fn (fun N0=>?_) (by simp)
 refine fnK tok Tryz.func169 Tryz.ntmps169 Tryz.results169 ?_
 simp only[argsA,Nat.reduceAdd,hp_next]
 unfold s_l2Remain at H
 refine S0 tok [] [0,1] ?_
 refine AWP_sq [0,1] fun K1 hK1=>?_
 refine S0 tok [] [0,1,6] ?_
 refine Cd (fun C1=>?_) fun C1=>?_
 ·replace H:=ifT C1 H
  refine S0 tok [] [4] ?_
  obtain rfl:=oi H;exact AWP_ret ⟨_,rfl,4,by simp[encL_nil]⟩
 ·replace H:=ifF C1 H
  refine AWP_skip (Jn hK1 ?_)
  obtain⟨v1,hv1,H⟩:=bindE H
  refine Sx tok [] [4] (by intro K k;simp -dsimp -implicitDefEqProofs [hv1];exact k) ?_
  obtain rfl:=oi H;exact AWP_ret ⟨_,rfl,4,by simp[encL_nil]⟩
theorem c158 {p0:Int} {p1:Int} {p2:Int} {r:Int×Bool} (H:s_Apply p0 p1 p2=some r):APure Tryz.prog G 158 [.int .i64 p0,.int .i64 p1,.int .i64 p2] (.tup [.int .i64 r.1,.bool r.2]):=by
 refine APure_fn (fun N0=>?_) (by simp)
 refine fnK tok Tryz.func158 Tryz.ntmps158 Tryz.results158 ?_
 simp only[argsA,Nat.reduceAdd,hp_next]
 unfold s_Apply at H
 refine S0 tok [] [0,1,2] ?_
 refine AWP_sq [0,1,2] fun K1 hK1=>?_
 obtain⟨r1,hr1,H⟩:=bindE H
 obtain⟨g3,hg3,H⟩:=bindE H
 obtain⟨g5,hg5,H⟩:=bindE H
 refine Sx tok [] [0,1,2,20] (X:=[(0,.int .i64 p0),(1,.int .i64 p1),(2,.int .i64 p2),(20,.bool g5)]) (Y:=hp E0 [] (N0+15)) (by
  intro K k
  simp -dsimp -implicitDefEqProofs
  refine(c117 hr1).app ?_;try simp -dsimp -implicitDefEqProofs
  cases hbg3:bnot r1
  ·replace hg3:=ifF hbg3 hg3
   obtain⟨r2,hr2,hg3⟩:=bindE hg3
   obtain rfl:=oi hg3
   try simp -dsimp -implicitDefEqProofs [hbg3]
   refine(c100 hr2).app ?_;try simp -dsimp -implicitDefEqProofs [hbg3]
   cases hbg5:(bnot r2)
   ·replace hg5:=ifF hbg5 hg5
    obtain⟨r4,hr4,hg5⟩:=bindE hg5
    obtain rfl:=oi hg5
    try simp -dsimp -implicitDefEqProofs [hbg3,hbg5]
    refine(c100 hr4).app ?_;try simp -dsimp -implicitDefEqProofs [hbg3,hbg5]
    exact k
   ·obtain rfl:=oi (ifT hbg5 hg5)
    try simp -dsimp -implicitDefEqProofs [hbg3,hbg5]
    exact k
  ·obtain rfl:=oi (ifT hbg3 hg3)
   obtain rfl:=oi (ifT rfl hg5)
   try simp -dsimp -implicitDefEqProofs [hbg3]
   exact k) ?_
 refine Cd (fun C1=>?_) fun C1=>?_
 ·replace H:=ifT C1 H
  refine S0 tok [] [6,7] ?_
  obtain rfl:=oi H;exact AWP_ret ⟨_,rfl,4,by simp[encL_nil]⟩
 ·replace H:=ifF C1 H
  refine AWP_skip (Jn hK1 ?_)
  refine AWP_sq [1,2] fun K2 hK2=>?_
  refine S0 tok [] [1,2,21] ?_
  refine AWP_block (AWP_thenB ?_)
  refine S0 tok [] [1,2,21,22] ?_
  refine Cd (fun C2=>?_) fun C2=>?_
  ·replace H:=ifT C2 H
   refine S0 tok [] [6,7] ?_
   obtain rfl:=oi H;exact AWP_ret ⟨_,rfl,4,by simp[encL_nil]⟩
  ·replace H:=ifF C2 H
   refine S0 tok [] [1,2,21,27] ?_
   refine Cd (fun C3=>?_) fun C3=>?_
   ·replace H:=ifT C3 H
    refine S0 tok [] [6,7] ?_
    obtain rfl:=oi H;exact AWP_ret ⟨_,rfl,4,by simp[encL_nil]⟩
   ·replace H:=ifF C3 H
    refine S0 tok [] [1,2,21,32] ?_
    refine Cd (fun C4=>?_) fun C4=>?_
    ·replace H:=ifT C4 H
     refine S0 tok [] [6,7] ?_
     obtain rfl:=oi H;exact AWP_ret ⟨_,rfl,4,by simp[encL_nil]⟩
    ·replace H:=ifF C4 H
     refine S0 tok [] [1,2,21,37] ?_
     refine Cd (fun C5=>?_) fun C5=>?_
     ·replace H:=ifT C5 H
      obtain⟨r6,hr6,H⟩:=bindE H
      refine Sx tok [] [6,7] (by intro K k;(repeat first|simp -dsimp -implicitDefEqProofs|refine(c137 hr6).app ?_);exact k) ?_
      obtain rfl:=oi H;exact AWP_ret ⟨_,rfl,4,by simp[encL_nil]⟩
     ·replace H:=ifF C5 H
      refine S0 tok [] [1,2,21,43] ?_
      refine Cd (fun C6=>?_) fun C6=>?_
      ·replace H:=ifT C6 H
       obtain⟨r7,hr7,H⟩:=bindE H
       refine Sx tok [] [6,7] (by intro K k;(repeat first|simp -dsimp -implicitDefEqProofs|refine(c137 hr7).app ?_);exact k) ?_
       obtain rfl:=oi H;exact AWP_ret ⟨_,rfl,4,by simp[encL_nil]⟩
      ·replace H:=ifF C6 H
       refine S0 tok [] [1,2,21,49] ?_
       refine Cd (fun C7=>?_) fun C7=>?_
       ·replace H:=ifT C7 H
        obtain⟨r8,hr8,H⟩:=bindE H
        refine Sx tok [] [6,7] (by intro K k;(repeat first|simp -dsimp -implicitDefEqProofs|refine(c167 hr8).app ?_);exact k) ?_
        obtain rfl:=oi H;exact AWP_ret ⟨_,rfl,4,by simp[encL_nil]⟩
       ·replace H:=ifF C7 H
        refine S0 tok [] [1,2,21,54] ?_
        refine Cd (fun C8=>?_) fun C8=>?_
        ·replace H:=ifT C8 H
         obtain⟨r9,hr9,H⟩:=bindE H
         refine Sx tok [] [6,7] (by intro K k;(repeat first|simp -dsimp -implicitDefEqProofs|refine(c167 hr9).app ?_);exact k) ?_
         obtain rfl:=oi H;exact AWP_ret ⟨_,rfl,4,by simp[encL_nil]⟩
        ·replace H:=ifF C8 H
         refine S0 tok [] [1,2,21,59] ?_
         refine Cd (fun C9=>?_) fun C9=>?_
         ·replace H:=ifT C9 H
          obtain⟨r10,hr10,H⟩:=bindE H
          refine Sx tok [] [6,7] (by intro K k;(repeat first|simp -dsimp -implicitDefEqProofs|refine(c136 hr10).app ?_);exact k) ?_
          obtain rfl:=oi H;exact AWP_ret ⟨_,rfl,4,by simp[encL_nil]⟩
         ·replace H:=ifF C9 H
          refine S0 tok [] [1,2,21,65] ?_
          refine Cd (fun C10=>?_) fun C10=>?_
          ·replace H:=ifT C10 H
           obtain⟨r11,hr11,H⟩:=bindE H
           refine Sx tok [] [6,7] (by intro K k;(repeat first|simp -dsimp -implicitDefEqProofs|refine(c136 hr11).app ?_);exact k) ?_
           obtain rfl:=oi H;exact AWP_ret ⟨_,rfl,4,by simp[encL_nil]⟩
          ·replace H:=ifF C10 H
           refine S0 tok [] [1,2,21,71] ?_
           refine Cd (fun C11=>?_) fun C11=>?_
           ·replace H:=ifT C11 H
            obtain⟨r12,hr12,H⟩:=bindE H
            refine Sx tok [] [6,7] (by intro K k;(repeat first|simp -dsimp -implicitDefEqProofs|refine(c136 hr12).app ?_);exact k) ?_
            obtain rfl:=oi H;exact AWP_ret ⟨_,rfl,4,by simp[encL_nil]⟩
           ·replace H:=ifF C11 H
            refine S0 tok [] [1,2,77] ?_
            refine Cd (fun C12=>?_) fun C12=>?_
            ·replace H:=ifT C12 H
             obtain⟨r13,hr13,H⟩:=bindE H
             refine Sx tok [] [6,7] (by intro K k;(repeat first|simp -dsimp -implicitDefEqProofs|refine(c168 hr13).app ?_);exact k) ?_
             obtain rfl:=oi H;exact AWP_ret ⟨_,rfl,4,by simp[encL_nil]⟩
            ·replace H:=ifF C12 H
             refine AWP_skip (Jn hK2 ?_)
             obtain⟨r14,hr14,H⟩:=bindE H
             refine Sx tok [] [6,7] (by intro K k;(repeat first|simp -dsimp -implicitDefEqProofs|refine(c169 hr14).app ?_);exact k) ?_
             obtain rfl:=oi H;exact AWP_ret ⟨_,rfl,4,by simp[encL_nil]⟩
theorem c221 {p0:gQuad} {p1:gFact} {p2:gFact} {r:gFact} (H:s_l33Result p0 p1 p2=some r):APure Tryz.prog G 221 [.agg [.int .i64 p0.Op,.int .i64 p0.Dst,.int .i64 p0.A,.int .i64 p0.B,.int .i64 p0.N],.agg [.int .i64 p1.Kind,.int .i64 p1.N],.agg [.int .i64 p2.Kind,.int .i64 p2.N]] (.agg [.int .i64 r.Kind,.int .i64 r.N]):=by
 refine APure_fn (fun N0=>?_) (by simp)
 refine fnK tok Tryz.func221 Tryz.ntmps221 Tryz.results221 ?_
 simp only[argsA,Nat.reduceAdd,hp_next]
 unfold s_l33Result at H
 refine S0 tok [0,1,2] [3,4,5,6] ?_
 refine AWP_sq [3,4,5,6] fun K1 hK1=>?_
 obtain⟨g1,hg1,H⟩:=bindE H
 refine Sx tok [] [3,4,5,6,16] (X:=[(3,.fptr [.int .i64 p0.Op,.int .i64 p0.Dst,.int .i64 p0.A,.int .i64 p0.B,.int .i64 p0.N] 0),(4,.fptr [.int .i64 p1.Kind,.int .i64 p1.N] 0),(5,.fptr [.int .i64 p2.Kind,.int .i64 p2.N] 0),(6,.ptr (N0+3) 0 0),(16,.bool g1)]) (Y:=hp E0 [(N0+3,some ⟨212,2,[[.int .i64 0,.int .i64 0]]⟩)] (N0+12)) (by
  intro K k
  simp -dsimp -implicitDefEqProofs
  cases hbg1:ine p1.Kind 1
  ·obtain rfl:=oi (ifF hbg1 hg1)
   try simp -dsimp -implicitDefEqProofs [hbg1]
   exact k
  ·obtain rfl:=oi (ifT hbg1 hg1)
   try simp -dsimp -implicitDefEqProofs [hbg1]
   exact k) ?_
 refine Cd (fun C1=>?_) fun C1=>?_
 ·replace H:=ifT C1 H
  refine S0 tok [] [6] ?_
  obtain rfl:=oi H
  refine Kp [6] ?_
  refine AWP_ret ?_
  exact⟨[.agg [.int .i64 2,.int .i64 0]],by simp,4,by simp[encL_nil]⟩
 ·replace H:=ifF C1 H
  refine AWP_skip (Jn hK1 ?_)
  obtain⟨r2,hr2,H⟩:=bindE H
  refine Sx tok [] [6,7] (by intro K k;(repeat first|simp -dsimp -implicitDefEqProofs|refine(c158 hr2).app ?_);exact k) ?_
  refine S0 tok [] [6] ?_
  obtain rfl:=oi H
  refine Kp [6] ?_
  refine AWP_ret ?_
  exact⟨[.agg [.int .i64 1,.int .i64 r2.1]],by simp,4,by simp[encL_nil]⟩
theorem c227 {p0:gFact} {p1:gFact} {r:gFact} (H:s_l33Join p0 p1=some r):APure Tryz.prog G 227 [.agg [.int .i64 p0.Kind,.int .i64 p0.N],.agg [.int .i64 p1.Kind,.int .i64 p1.N]] (.agg [.int .i64 r.Kind,.int .i64 r.N]):=by
 refine APure_fn (fun N0=>?_) (by simp)
 refine fnK tok Tryz.func227 Tryz.ntmps227 Tryz.results227 ?_
 simp only[argsA,Nat.reduceAdd,hp_next]
 unfold s_l33Join at H
 refine S0 tok [0,1] [2,3,4] ?_
 refine AWP_sq [2,3,4] fun K1 hK1=>?_
 refine S0 tok [] [2,3,4,7] ?_
 refine Cd (fun C1=>?_) fun C1=>?_
 ·replace H:=ifT C1 H
  refine S0 tok [] [4] ?_
  obtain rfl:=oi H
  refine Kp [4] ?_
  refine AWP_ret ?_
  exact⟨[.agg [.int .i64 p1.Kind,.int .i64 p1.N]],by simp,4,by simp[encL_nil]⟩
 ·replace H:=ifF C1 H
  refine AWP_skip (Jn hK1 ?_)
  refine AWP_sq [4] fun K2 hK2=>?_
  obtain⟨g1,hg1,H⟩:=bindE H
  refine Sx tok [] [2,4,16] (X:=[(2,.fptr [.int .i64 p0.Kind,.int .i64 p0.N] 0),(4,.ptr (N0+2) 0 0),(16,.bool g1)]) (Y:=hp E0 [(N0+2,some ⟨212,2,[[.int .i64 0,.int .i64 0]]⟩)] (N0+14)) (by
   intro K k
   simp -dsimp -implicitDefEqProofs
   cases hbg1:ieq p1.Kind 0
   ·obtain rfl:=oi (ifF hbg1 hg1)
    try simp -dsimp -implicitDefEqProofs [hbg1]
    exact k
   ·obtain rfl:=oi (ifT hbg1 hg1)
    try simp -dsimp -implicitDefEqProofs [hbg1]
    exact k) ?_
  refine Cd (fun C2=>?_) fun C2=>?_
  ·replace H:=ifT C2 H
   refine S0 tok [] [4] ?_
   obtain rfl:=oi H
   refine Kp [4] ?_
   refine AWP_ret ?_
   exact⟨[.agg [.int .i64 p0.Kind,.int .i64 p0.N]],by simp,4,by simp[encL_nil]⟩
  ·replace H:=ifF C2 H
   refine AWP_skip (Jn hK2 ?_)
   refine S0 tok [] [4] ?_
   obtain rfl:=oi H
   refine Kp [4] ?_
   refine AWP_ret ?_
   exact⟨[.agg [.int .i64 2,.int .i64 0]],by simp,4,by simp[encL_nil]⟩
theorem c220 {p0:(List (List gFact))} {p1:Int} {p2:(List gFact)} {r:Bool×(List (List gFact))} (H:s_l33Carry p0 p1 p2=some r) {σ:AHeap} {w0:Nat} (q0:σ.objs w0=some ⟨193,1,encL rL_Fact_o p0⟩):ACalls Tryz.prog G 220 [.sl w0 0 p0.length,.int .i64 p1,.fsl (encL rFact p2)] σ (fun v σ'=>∃M:Nat,σ.next≤M∧r.2.length=p0.length∧v=.bool r.1∧σ'=hp σ.objs [(w0,some ⟨193,1,encL rL_Fact_o r.2⟩)] M):=by
 refine ACalls_fr (L:=[(w0,some ⟨193,1,encL rL_Fact_o p0⟩)]) (Q1:=fun v σ'=>∃M:Nat,σ.next≤M∧r.2.length=p0.length∧v=.bool r.1∧σ'=hp E0 [(w0,some ⟨193,1,encL rL_Fact_o r.2⟩)] M) (by simp[q0]) (fun hlt=>?_) ?_ ⟨_,Tryz.func220,rfl,rfl⟩
 rotate_left
 ·rintro v σ1 ⟨M,h0,h1,rfl,rfl⟩
  exact⟨_,M,rfl,by simp,by simp;try omega,M,h0,h1,rfl,rfl⟩
 generalize σ.next=N0 at hlt ⊢
 have lw0:w0<N0:=hlt _ (.head _) rfl
 refine fnK tok Tryz.func220 Tryz.ntmps220 Tryz.results220 ?_
 simp only[argsA,Nat.reduceAdd,hp_next]
 unfold s_l33Carry at H
 refine S0 tok [] [0,1,2] ?_
 refine S0 tok [] [0,1,2,7] ?_
 refine AWP_sq [7] fun K1 hK1=>?_
 refine S0 tok [] [0,1,2,7,8] ?_
 refine AWP_block (AWP_thenB ?_)
 obtain⟨e1,hse1,H⟩:=bindE H
 refine AWP_lp [0,1,2,7,8] (fun s a σ=>∃M1:Nat,N0≤M1∧s.2.2.length=p0.length∧a=[(0,.sl w0 0 s.2.2.length),(1,.int .i64 p1),(2,.fsl (encL rFact p2)),(7,.bool s.1),(8,.int .i64 s.2.1)]∧σ=hp E0 [(w0,some ⟨193,1,encL rL_Fact_o s.2.2⟩)] M1) (fun s x a σ=>x=.exit 0∧Rc G 43 N0 (fun a σ=>∃M2:Nat,N0≤M2∧s.2.length=p0.length∧a=[(7,.bool s.1)]∧σ=hp E0 [(w0,some ⟨193,1,encL rL_Fact_o s.2⟩)] M2) (AAct.keep a [7]) σ) hse1 ?_ ?_ ?_
 ·refine Rc.kp [0,1,2,7,8] [(0,.sl w0 0 p0.length),(1,.int .i64 p1),(2,.fsl (encL rFact p2)),(7,.bool false),(8,.int .i64 0)] rfl ?_
  exact Rf ⟨N0+3,(by omega),(by first|rfl|exact rfl|omega),rfl,rfl⟩
 ·clear H hse1
  rintro⟨s1,s2,s3⟩ fl a σ H ⟨M1,fM1_0,fM1_1,rfl,rfl⟩ K2 O2 hK2 hO2
  unfold s_l33Carry_L1 at H;dsimp only at H
  refine AWP_sq [0,1,2,7,8] fun K3 hK3=>?_
  refine S0 tok [] [0,1,2,7,8,11] ?_
  refine Cd (fun C1=>?_) fun C1=>?_
  ·replace H:=ifT C1 H
   refine AWP_skip (Jn hK3 ?_)
   refine AWP_sq [0,1,2,7,8] fun K4 hK4=>?_
   refine AWP_block (AWP_thenB ?_)
   obtain⟨v6,hv6,H⟩:=bindE H
   refine gU AWP_ref w0 p1.toNat 0 ?_ (hr:=by exact encL_at rL_Fact_o hv6)
   obtain⟨v7,hv7,H⟩:=bindE H
   obtain⟨v8,hv8,H⟩:=bindE H
   obtain⟨r9,hr9,H⟩:=bindE H
   refine Sd tok tokM [] [2,3,5,6,12,13] [0,1,4,7,8,9,10,2,3,5,6,11,12,13] [0,1,2,7,8,9] (by
    intro K k
    have e0:=nQ w0 (M1+2)
    have e1:=nQ w0 (M1+15)
    simp only[pickL,nthO_succ,nthO_zero]
    repeat first|simp -dsimp -implicitDefEqProofs [e0,e1,(gset hv6 _),List.set_set,ix193 hv7,ixo190 hv6,(idx_lt3 hv6).2.2,ixo193 hv8,(idx_lt3 hv8).2.2]|refine Pc.mk (c227 hr9) ?_
    exact k) ?_
   refine Sd tok tokM [] [0,3,4,6,7] [1,2,5,0,3,4,6,7,8] [0,1,2,7,8,9,34] (by
    intro K k
    have e0:=nQ w0 (M1+2)
    have e1:=nQ w0 (M1+15)
    simp only[pickL,nthO_succ,nthO_zero]
    simp -dsimp -implicitDefEqProofs [e0,e1,(gset hv6 _),List.set_set,ixo190 hv6,(idx_lt3 hv6).2.2,ixo193 hv8,(idx_lt3 hv8).2.2]
    exact k) ?_
   refine Cd (fun C2=>?_) fun C2=>?_
   ·replace H:=ifT C2 H
    obtain⟨l10,hl10,H⟩:=bindE H
    refine Sd tok tokM [] [2,3,5,6,7] [0,1,4,2,3,5,6,7] [0,1,2,8] (by
     intro K k
     have e0:=nQ w0 (M1+2)
     have e1:=nQ w0 (M1+15)
     simp only[pickL,nthO_succ,nthO_zero]
     simp -dsimp -implicitDefEqProofs [e0,e1,(gset hv6 _),List.set_set,ixo190 hv6,(idx_lt3 hv6).2.2,ixo193 hv8,(idx_lt3 hv8).2.2,(setx_iff.1 hl10).2.symm]
     exact k) ?_
    try rw[← setx_len hl10]
    refine Rt tok [] [0,1,2,7,8] (by
     intro K k
     have e0:=nQ w0 (M1+2)
     have e1:=nQ w0 (M1+15)
     simp -dsimp -implicitDefEqProofs [e0,e1,(gset hv6 _),List.set_set]
     exact k) fun a ha=>?_
    refine hK4 _ _ ?_;rw[ha]
    refine Rc.mk ?_
    refine Rt tok [] [0,1,2,7,8] (by
     intro K k
     have e0:=nQ w0 (M1+2)
     have e1:=nQ w0 (M1+15)
     simp -dsimp -implicitDefEqProofs [e0,e1,(gset hv6 _),List.set_set]
     exact k) fun a ha=>?_
    obtain⟨l11,hl11,H⟩:=bindE H
    obtain rfl:=oi H
    refine hK2 _ _ _ rfl ?_;rw[ha]
    refine gP Rc_ref w0 p1.toNat 0 ?_ (hr:=by exact gset hv6 _)
    rw[show hp E0 [(w0,some ⟨193,1,(encL rL_Fact_o s3).set p1.toNat [.osl 212 2 (encL rFact l10)]⟩),(M1+15,some ⟨212,2,[[.int .i64 r9.Kind,.int .i64 r9.N]]⟩)] (M1+38)=hp E0 [(w0,some ⟨193,1,encL rL_Fact_o l11⟩),(M1+15,some ⟨212,2,[[.int .i64 r9.Kind,.int .i64 r9.N]]⟩)] (M1+38) from by rw[(setx_iff.1 hl11).2,← encL_set];rfl];(try rw[← setx_len hl11])
    exact Rc.fin (hp_skip (AHeap.Sub.trans (AHeap.Sub.refl _) (hp_drop rfl (by simp;try omega)))) ⟨M1+38,(by omega),(by first|rfl|exact((setx_len hl11).trans fM1_1)|omega),rfl,rfl⟩
   ·replace H:=ifF C2 H
    refine AWP_skip (Jn hK4 ?_)
    refine Rt tok [] [0,1,2,7,8] (by
     intro K k
     have e0:=nQ w0 (M1+2)
     have e1:=nQ w0 (M1+15)
     simp -dsimp -implicitDefEqProofs [e0,e1,(gset hv6 _),List.set_set]
     exact k) fun a ha=>?_
    obtain⟨l12,hl12,H⟩:=bindE H
    obtain rfl:=oi H
    refine hK2 _ _ _ rfl ?_;rw[ha]
    refine gP Rc_ref w0 p1.toNat 0 ?_ (hr:=by exact gset hv6 _)
    rw[show hp E0 [(w0,some ⟨193,1,(encL rL_Fact_o s3).set p1.toNat [.osl 212 2 (encL rFact v6)]⟩),(M1+15,some ⟨212,2,[[.int .i64 r9.Kind,.int .i64 r9.N]]⟩)] (M1+29)=hp E0 [(w0,some ⟨193,1,encL rL_Fact_o l12⟩),(M1+15,some ⟨212,2,[[.int .i64 r9.Kind,.int .i64 r9.N]]⟩)] (M1+29) from by rw[(setx_iff.1 hl12).2,← encL_set];rfl];(try rw[← setx_len hl12])
    exact Rc.fin (hp_skip (AHeap.Sub.trans (AHeap.Sub.refl _) (hp_drop rfl (by simp;try omega)))) ⟨M1+29,(by omega),(by first|rfl|exact((setx_len hl12).trans fM1_1)|omega),rfl,rfl⟩
  ·obtain rfl:=oi (ifF C1 H)
   refine AWP_exit (hO2 _ _ _ _ rfl ⟨rfl,?_⟩)
   refine Rc.rw (l:=[7]) (X:=[(7,.bool s1)]) rfl ?_
   exact Rf ⟨M1+2,(by omega),(by first|rfl|exact fM1_1|omega),rfl,rfl⟩
 ·intro x a σ hx
  obtain⟨y4,y5⟩:=e1
  obtain⟨rfl,b,τ,hr,M2,fM2_0,fM2_1,rfl,rfl⟩:=hx
  (try dsimp only at H)
  show K1 _ _
  refine hK1 _ _ (Rc_ref hr ?_)
  refine Rc.mk ?_
  refine S0 tok [] [6] ?_
  obtain rfl:=oi H
  refine Kp [6] ?_
  refine AWP_ret ?_
  refine⟨[.bool y4],by simp,M2+2,by omega,by first|rfl|exact fM2_1|omega,?_,?_⟩
  ·simp[encL_nil]
  ·first|rfl|simp[List.set_set]
theorem c214_o {p0:(List gQuad)} {p1:Int} {r:(List Int)} (H:s_l31Next_o p0 p1=some r) {σ:AHeap}:ACalls Tryz.prog G 214 [.fsl (encL rQuad p0),.int .i64 p1] σ (fun v σ'=>∃M n0:Nat,σ.next≤M∧σ.next≤n0∧n0<M∧v=.sl n0 0 r.length∧σ'=hp σ.objs [(n0,some ⟨3,1,encL rI r⟩)] M):=by
 refine ACalls_fr (L:=[]) (Q1:=fun v σ'=>∃M n0:Nat,σ.next≤M∧σ.next≤n0∧n0<M∧v=.sl n0 0 r.length∧σ'=hp E0 [(n0,some ⟨3,1,encL rI r⟩)] M) (by simp[]) (fun hlt=>?_) ?_ ⟨_,Tryz.func214,rfl,rfl⟩
 rotate_left
 ·rintro v σ1 ⟨M,n0,h0,h1,h2,rfl,rfl⟩
  exact⟨_,M,rfl,by simp,by simp;try omega,M,n0,h0,h1,h2,rfl,rfl⟩
 generalize σ.next=N0 at hlt ⊢
 refine fnK tok Tryz.func214 Tryz.ntmps214 Tryz.results214 ?_
 simp only[argsA,Nat.reduceAdd,hp_next]
 unfold s_l31Next_o at H
 refine S0 tok [] [0,1] ?_
 obtain⟨v1,hv1,H⟩:=bindE H
 refine Sx tok [] [1,5] (by intro K k;simp -dsimp -implicitDefEqProofs [ix39 hv1];exact k) ?_
 refine AWP_sq [1] fun K1 hK1=>?_
 refine AWP_block (AWP_thenB ?_)
 refine S0 tok [] [1,5,10] ?_
 refine Cd (fun C1=>?_) fun C1=>?_
 ·replace H:=ifT C1 H
  have q0:∀σ i,buildSliceA T 24 true i 0 [] σ=some (.esl,σ):=fun _ _=>rfl
  refine Sx tok [0] [4] (by intro K k;simp -dsimp -implicitDefEqProofs [q0];exact k) ?_
  obtain rfl:=oi H
  refine Kp [4] ?_
  refine gNilS AWP_ref 4 3 1 [(N0+5,some ⟨48,5,[[.int .i64 v1.Op,.int .i64 v1.Dst,.int .i64 v1.A,.int .i64 v1.B,.int .i64 v1.N]]⟩),(N0+13,some ⟨3,1,encL rI ([]:List Int)⟩)] [(4,.sl (N0+13) 0 ([]:List Int).length)] (by simp(disch:=omega)) (by simp(disch:=omega) [encL_nil]) [4] rfl ?_
  refine gDrop AWP_ref [(N0+13,some ⟨3,1,encL rI ([]:List Int)⟩)] (AHeap.Sub.trans (hp_skip (AHeap.Sub.refl _)) (hp_drop rfl (by simp;try omega))) ?_
  refine AWP_ret ?_
  refine⟨[.sl (N0+13) 0 ([]:List Int).length],by simp,N0+14,N0+13,by omega,by omega,by omega,?_,?_⟩
  ·simp[encL_nil]
  ·first|rfl|simp[List.set_set]
 ·replace H:=ifF C1 H
  refine S0 tok [] [1,5,15] ?_
  refine Cd (fun C2=>?_) fun C2=>?_
  ·replace H:=ifT C2 H
   obtain⟨l2,hl2,H⟩:=bindE H
   have q1:∀σ i,buildSliceA T 24 false i 1 [(0,.int .i64 v1.N)] σ=some (.sl i 0 (List.length l2),σ.put i ⟨3,1,encL rI l2⟩):=by rw[← Option.some.inj hl2];exact fun _ _=>rfl
   refine Sx tok [] [4] (by intro K k;simp -dsimp -implicitDefEqProofs [q1];exact k) ?_
   obtain rfl:=oi H
   refine Kp [4] ?_
   refine gDrop AWP_ref [(N0+17,some ⟨3,1,encL rI l2⟩)] (AHeap.Sub.trans (hp_skip (AHeap.Sub.refl _)) (hp_drop rfl (by simp;try omega))) ?_
   refine AWP_ret ?_
   refine⟨[.sl (N0+17) 0 l2.length],by simp,N0+19,N0+17,by omega,by omega,by omega,?_,?_⟩
   ·simp[encL_nil]
   ·first|rfl|simp[List.set_set]
  ·replace H:=ifF C2 H
   obtain⟨g3,hg3,H⟩:=bindE H
   refine Sx tok [] [1,5,22] (X:=[(1,.int .i64 p1),(5,.ptr (N0+5) 0 0),(22,.bool g3)]) (Y:=hp E0 [(N0+5,some ⟨48,5,[[.int .i64 v1.Op,.int .i64 v1.Dst,.int .i64 v1.A,.int .i64 v1.B,.int .i64 v1.N]]⟩)] (N0+26)) (by
    intro K k
    simp -dsimp -implicitDefEqProofs
    cases hbg3:ieq v1.Op 5
    ·obtain rfl:=oi (ifF hbg3 hg3)
     try simp -dsimp -implicitDefEqProofs [hbg3]
     exact k
    ·obtain rfl:=oi (ifT hbg3 hg3)
     try simp -dsimp -implicitDefEqProofs [hbg3]
     exact k) ?_
   refine Cd (fun C3=>?_) fun C3=>?_
   ·replace H:=ifT C3 H
    obtain⟨l4,hl4,H⟩:=bindE H
    have q2:∀σ i,buildSliceA T 24 false i 2 [(0,.int .i64 v1.N),(1,.int .i64 (iadd .i64 p1 1))] σ=some (.sl i 0 (List.length l4),σ.put i ⟨3,1,encL rI l4⟩):=by rw[← Option.some.inj hl4];exact fun _ _=>rfl
    refine Sx tok [] [4] (by intro K k;simp -dsimp -implicitDefEqProofs [q2];exact k) ?_
    obtain rfl:=oi H
    refine Kp [4] ?_
    refine gDrop AWP_ref [(N0+30,some ⟨3,1,encL rI l4⟩)] (AHeap.Sub.trans (hp_skip (AHeap.Sub.refl _)) (hp_drop rfl (by simp;try omega))) ?_
    refine AWP_ret ?_
    refine⟨[.sl (N0+30) 0 l4.length],by simp,N0+32,N0+30,by omega,by omega,by omega,?_,?_⟩
    ·simp[encL_nil]
    ·first|rfl|simp[List.set_set]
   ·replace H:=ifF C3 H
    obtain⟨g5,hg5,H⟩:=bindE H
    refine Sx tok [] [1,5,38] (X:=[(1,.int .i64 p1),(5,.ptr (N0+5) 0 0),(38,.bool g5)]) (Y:=hp E0 [(N0+5,some ⟨48,5,[[.int .i64 v1.Op,.int .i64 v1.Dst,.int .i64 v1.A,.int .i64 v1.B,.int .i64 v1.N]]⟩)] (N0+37)) (by
     intro K k
     simp -dsimp -implicitDefEqProofs
     cases hbg5:ieq v1.Op 5
     ·obtain rfl:=oi (ifF hbg5 hg5)
      try simp -dsimp -implicitDefEqProofs [hbg5]
      exact k
     ·obtain rfl:=oi (ifT hbg5 hg5)
      try simp -dsimp -implicitDefEqProofs [hbg5]
      exact k) ?_
    refine Cd (fun C4=>?_) fun C4=>?_
    ·replace H:=ifT C4 H
     obtain⟨l6,hl6,H⟩:=bindE H
     have q3:∀σ i,buildSliceA T 24 false i 2 [(0,.int .i64 (iadd .i64 p1 1)),(1,.int .i64 v1.N)] σ=some (.sl i 0 (List.length l6),σ.put i ⟨3,1,encL rI l6⟩):=by rw[← Option.some.inj hl6];exact fun _ _=>rfl
     refine Sx tok [] [4] (by intro K k;simp -dsimp -implicitDefEqProofs [q3];exact k) ?_
     obtain rfl:=oi H
     refine Kp [4] ?_
     refine gDrop AWP_ref [(N0+41,some ⟨3,1,encL rI l6⟩)] (AHeap.Sub.trans (hp_skip (AHeap.Sub.refl _)) (hp_drop rfl (by simp;try omega))) ?_
     refine AWP_ret ?_
     refine⟨[.sl (N0+41) 0 l6.length],by simp,N0+43,N0+41,by omega,by omega,by omega,?_,?_⟩
     ·simp[encL_nil]
     ·first|rfl|simp[List.set_set]
    ·replace H:=ifF C4 H
     refine AWP_skip (Jn hK1 ?_)
     obtain⟨l7,hl7,H⟩:=bindE H
     have q4:∀σ i,buildSliceA T 24 false i 1 [(0,.int .i64 (iadd .i64 p1 1))] σ=some (.sl i 0 (List.length l7),σ.put i ⟨3,1,encL rI l7⟩):=by rw[← Option.some.inj hl7];exact fun _ _=>rfl
     refine Sx tok [] [4] (by intro K k;simp -dsimp -implicitDefEqProofs [q4];exact k) ?_
     obtain rfl:=oi H
     refine Kp [4] ?_
     refine gDrop AWP_ref [(N0+39,some ⟨3,1,encL rI l7⟩)] (AHeap.Sub.trans (hp_skip (AHeap.Sub.refl _)) (hp_drop rfl (by simp;try omega))) ?_
     refine AWP_ret ?_
     refine⟨[.sl (N0+39) 0 l7.length],by simp,N0+41,N0+39,by omega,by omega,by omega,?_,?_⟩
     ·simp[encL_nil]
     ·first|rfl|simp[List.set_set]
theorem c218_o {p0:(List gQuad)} {p1:(List gFact)} {p2:Int} {r:(List Int)} (H:s_l33Edges_o p0 p1 p2=some r) {σ:AHeap}:ACalls Tryz.prog G 218 [.fsl (encL rQuad p0),.fsl (encL rFact p1),.int .i64 p2] σ (fun v σ'=>∃M n0:Nat,σ.next≤M∧σ.next≤n0∧n0<M∧v=.sl n0 0 r.length∧σ'=hp σ.objs [(n0,some ⟨3,1,encL rI r⟩)] M):=by
 refine ACalls_fr (L:=[]) (Q1:=fun v σ'=>∃M n0:Nat,σ.next≤M∧σ.next≤n0∧n0<M∧v=.sl n0 0 r.length∧σ'=hp E0 [(n0,some ⟨3,1,encL rI r⟩)] M) (by simp[]) (fun hlt=>?_) ?_ ⟨_,Tryz.func218,rfl,rfl⟩
 rotate_left
 ·rintro v σ1 ⟨M,n0,h0,h1,h2,rfl,rfl⟩
  exact⟨_,M,rfl,by simp,by simp;try omega,M,n0,h0,h1,h2,rfl,rfl⟩
 generalize σ.next=N0 at hlt ⊢
 refine fnK tok Tryz.func218 Tryz.ntmps218 Tryz.results218 ?_
 simp only[argsA,Nat.reduceAdd,hp_next]
 unfold s_l33Edges_o at H
 refine S0 tok [] [0,1,2] ?_
 obtain⟨v1,hv1,H⟩:=bindE H
 refine Sx tok [] [0,1,2,7] (by intro K k;simp -dsimp -implicitDefEqProofs [ix39 hv1];exact k) ?_
 refine AWP_sq [1,2,7] fun K1 hK1=>?_
 obtain⟨g3,hg3,H⟩:=bindE H
 refine Sx tok [] [0,1,2,7,23] (X:=[(0,.fsl (encL rQuad p0)),(1,.fsl (encL rFact p1)),(2,.int .i64 p2),(7,.ptr (N0+5) 0 0),(23,.bool g3)]) (Y:=hp E0 [(N0+5,some ⟨48,5,[[.int .i64 v1.Op,.int .i64 v1.Dst,.int .i64 v1.A,.int .i64 v1.B,.int .i64 v1.N]]⟩)] (N0+19)) (by
  intro K k
  simp -dsimp -implicitDefEqProofs
  cases hbg3:ine v1.Op 5
  ·replace hg3:=ifF hbg3 hg3
   obtain⟨v2,hv2,hg3⟩:=bindE hg3
   obtain rfl:=oi hg3
   try simp -dsimp -implicitDefEqProofs [hbg3,ix193 hv2]
   exact k
  ·obtain rfl:=oi (ifT hbg3 hg3)
   try simp -dsimp -implicitDefEqProofs [hbg3]
   exact k) ?_
 refine Cd (fun C1=>?_) fun C1=>?_
 ·replace H:=ifT C1 H
  obtain⟨r4,hr4,H⟩:=bindE H
  refine AWP_sr tok [] [6] (fun a σ=>∃M1 o1:Nat,N0+23≤M1∧N0+23≤o1∧o1<M1∧a=[(6,.sl o1 0 r4.length)]∧σ=hp E0 [(N0+5,some ⟨48,5,[[.int .i64 v1.Op,.int .i64 v1.Dst,.int .i64 v1.A,.int .i64 v1.B,.int .i64 v1.N]]⟩),(o1,some ⟨3,1,encL rI r4⟩)] M1) (fun K hK=>?_) ?_
  ·skip
   simp -dsimp -implicitDefEqProofs
   refine(c214_o (H:=hr4)).mono ?_;rintro _ _ ⟨M1,o1,fM1_0,fM1_1,fM1_2,rfl,rfl⟩;simp only[hp_next] at fM1_0 fM1_1 fM1_2
   have eM1_0:=nQ o1 (N0+5)
   try simp -dsimp -implicitDefEqProofs [eM1_0,hp_over_some,hp_over_none]
   exact hK _ _ ⟨M1,o1,(by omega),(by omega),(by omega),rfl,rfl⟩
  rintro a σ ⟨M1,o1,fM1_0,fM1_1,fM1_2,rfl,rfl⟩
  obtain rfl:=oi H
  refine Kp [6] ?_
  have z0:=nQ (N0+5) o1
  refine gDrop AWP_ref [(o1,some ⟨3,1,encL rI r4⟩)] (AHeap.Sub.trans (hp_skip (AHeap.Sub.refl _)) (hp_drop rfl (by simp;try omega))) ?_
  refine AWP_ret ?_
  refine⟨[.sl o1 0 r4.length],by simp[z0],M1,o1,by omega,by omega,by omega,?_,?_⟩
  ·simp[encL_nil]
  ·first|rfl|simp[List.set_set]
 ·replace H:=ifF C1 H
  refine AWP_skip (Jn hK1 ?_)
  refine AWP_sq [2] fun K2 hK2=>?_
  obtain⟨v5,hv5,H⟩:=bindE H
  refine Sx tok [] [2,7,33] (by intro K k;simp -dsimp -implicitDefEqProofs [ix193 hv5];exact k) ?_
  refine Cd (fun C2=>?_) fun C2=>?_
  ·replace H:=ifT C2 H
   obtain⟨l6,hl6,H⟩:=bindE H
   have q0:∀σ i,buildSliceA T 24 false i 1 [(0,.int .i64 v1.N)] σ=some (.sl i 0 (List.length l6),σ.put i ⟨3,1,encL rI l6⟩):=by rw[← Option.some.inj hl6];exact fun _ _=>rfl
   refine Sx tok [] [6] (by intro K k;simp -dsimp -implicitDefEqProofs [q0];exact k) ?_
   obtain rfl:=oi H
   refine Kp [6] ?_
   refine gDrop AWP_ref [(N0+28,some ⟨3,1,encL rI l6⟩)] (AHeap.Sub.trans (hp_skip (AHeap.Sub.refl _)) (hp_drop rfl (by simp;try omega))) ?_
   refine AWP_ret ?_
   refine⟨[.sl (N0+28) 0 l6.length],by simp,N0+30,N0+28,by omega,by omega,by omega,?_,?_⟩
   ·simp[encL_nil]
   ·first|rfl|simp[List.set_set]
  ·replace H:=ifF C2 H
   refine AWP_skip (Jn hK2 ?_)
   obtain⟨l7,hl7,H⟩:=bindE H
   have q1:∀σ i,buildSliceA T 24 false i 1 [(0,.int .i64 (iadd .i64 p2 1))] σ=some (.sl i 0 (List.length l7),σ.put i ⟨3,1,encL rI l7⟩):=by rw[← Option.some.inj hl7];exact fun _ _=>rfl
   refine Sx tok [] [6] (by intro K k;simp -dsimp -implicitDefEqProofs [q1];exact k) ?_
   obtain rfl:=oi H
   refine Kp [6] ?_
   refine gDrop AWP_ref [(N0+28,some ⟨3,1,encL rI l7⟩)] (AHeap.Sub.trans (hp_skip (AHeap.Sub.refl _)) (hp_drop rfl (by simp;try omega))) ?_
   refine AWP_ret ?_
   refine⟨[.sl (N0+28) 0 l7.length],by simp,N0+30,N0+28,by omega,by omega,by omega,?_,?_⟩
   ·simp[encL_nil]
   ·first|rfl|simp[List.set_set]
theorem c218_o_b {p0:(List gQuad)} {p1:(List gFact)} {p2:Int} {r:(List Int)} (H:s_l33Edges_o p0 p1 p2=some r) {σ:AHeap} {args:List AV} (hy:args.map (thawA (fun _=>true) σ 8)=[.fsl (encL rQuad p0),.fsl (encL rFact p1),.int .i64 p2]):ACalls Tryz.prog G 218 args σ (fun v σ'=>∃M n0:Nat,σ.next≤M∧σ.next≤n0∧n0<M∧v=.sl n0 0 r.length∧σ'=hp σ.objs [(n0,some ⟨3,1,encL rI r⟩)] M):=by
 refine borrowQ 8 8 (c218_o (σ:=⟨E0,σ.next⟩) H) hy ?_
 rintro _ _ ⟨M,n0,h0,h1,h2,rfl,rfl⟩
 refine⟨_,M,rfl,by simp[AV.rnf,AV.simp1],fun p hp ob ho=>?_,by simp,M,n0,h0,h1,h2,rfl,rfl⟩
 simp only[List.mem_cons,List.not_mem_nil,or_false] at hp
 rcases hp with rfl<;>(cases ho;first|exact encL_nf (fun x=>nf_rI 7 x) _|simp[AV.nf,AV.simp1])
theorem c219_o {p0:gQuad} {p1:(List gFact)} {r:(List gFact)} (H:s_l33After_o p0 p1=some r) {σ:AHeap}:ACalls Tryz.prog G 219 [.agg [.int .i64 p0.Op,.int .i64 p0.Dst,.int .i64 p0.A,.int .i64 p0.B,.int .i64 p0.N],.fsl (encL rFact p1)] σ (fun v σ'=>∃M n0:Nat,σ.next≤M∧σ.next≤n0∧n0<M∧v=.sl n0 0 r.length∧σ'=hp σ.objs [(n0,some ⟨212,2,encL rFact r⟩)] M):=by
 refine ACalls_fr (L:=[]) (Q1:=fun v σ'=>∃M n0:Nat,σ.next≤M∧σ.next≤n0∧n0<M∧v=.sl n0 0 r.length∧σ'=hp E0 [(n0,some ⟨212,2,encL rFact r⟩)] M) (by simp[]) (fun hlt=>?_) ?_ ⟨_,Tryz.func219,rfl,rfl⟩
 rotate_left
 ·rintro v σ1 ⟨M,n0,h0,h1,h2,rfl,rfl⟩
  exact⟨_,M,rfl,by simp,by simp;try omega,M,n0,h0,h1,h2,rfl,rfl⟩
 generalize σ.next=N0 at hlt ⊢
 refine fnK tok Tryz.func219 Tryz.ntmps219 Tryz.results219 ?_
 simp only[argsA,Nat.reduceAdd,hp_next]
 unfold s_l33After_o at H
 refine S0 tok [0] [1,2] ?_
 obtain⟨l1,hl1,H⟩:=bindE H
 have q0:∀σ i,buildSliceA T 193 true i 0 [] σ=some (.esl,σ):=fun _ _=>rfl
 refine Sx tok [0] [1,2,5] (by intro K k;simp -dsimp -implicitDefEqProofs [q0,appe193 hl1];exact k) ?_
 refine AWP_sq [5] fun K1 hK1=>?_
 refine S0 tok [] [1,2,5,10] ?_
 refine AWP_block (AWP_thenB ?_)
 refine S0 tok [] [1,2,5,10,11] ?_
 refine Cd (fun C1=>?_) fun C1=>?_
 ·replace H:=ifT C1 H
  obtain⟨v2,hv2,H⟩:=bindE H
  obtain⟨l3,hl3,H⟩:=bindE H
  refine Rt tok [] [5] (by intro K k;simp -dsimp -implicitDefEqProofs [ixo193 hv2,(idx_lt3 hv2).2.2,(setx_iff.1 hl3).2.symm];exact k) fun a ha=>?_
  (try rw[← setx_len hl3] at ha);(try rw[← setx_len hl3])
  refine hK1 _ _ ?_;rw[ha]
  refine Rc.mk ?_
  refine S0 tok [] [4] ?_
  obtain rfl:=oi H
  refine Kp [4] ?_
  refine AWP_ret ?_
  refine⟨[.sl (N0+4) 0 l3.length],by simp,N0+20,N0+4,by omega,by omega,by omega,?_,?_⟩
  ·simp[encL_nil]
  ·first|rfl|simp[List.set_set]
 ·replace H:=ifF C1 H
  refine S0 tok [] [1,2,5,10,20] ?_
  refine Cd (fun C2=>?_) fun C2=>?_
  ·replace H:=ifT C2 H
   obtain⟨v4,hv4,H⟩:=bindE H
   obtain⟨v5,hv5,H⟩:=bindE H
   obtain⟨l6,hl6,H⟩:=bindE H
   refine AWP_rd tok tokM [] [8,9] [0,1,2,3,4,5,6,7,8,9] [5] (fun a σ=>a=[(5,.sl (N0+4) 0 l1.length)]∧σ=hp E0 [(N0+4,some ⟨212,2,encL rFact l6⟩)] (N0+22)) (by decide) (fun K hK=>?_) ?_
   ·simp only[pickL,nthO_succ,nthO_zero]
    simp -dsimp -implicitDefEqProofs [ix193 hv4,ixo193 hv5,(idx_lt3 hv5).2.2,(setx_iff.1 hl6).2.symm]
    exact hK _ _ ⟨rfl,rfl⟩
   rintro a σ ⟨ha,rfl⟩
   (try rw[← setx_len hl6] at ha);(try rw[← setx_len hl6])
   refine hK1 _ _ ?_;rw[ha]
   refine Rc.mk ?_
   refine S0 tok [] [4] ?_
   obtain rfl:=oi H
   refine Kp [4] ?_
   refine AWP_ret ?_
   refine⟨[.sl (N0+4) 0 l6.length],by simp,N0+24,N0+4,by omega,by omega,by omega,?_,?_⟩
   ·simp[encL_nil]
   ·first|rfl|simp[List.set_set]
  ·replace H:=ifF C2 H
   refine S0 tok [] [1,2,5,10,31] ?_
   refine Cd (fun C3=>?_) fun C3=>?_
   ·replace H:=ifT C3 H
    obtain⟨v7,hv7,H⟩:=bindE H
    obtain⟨l8,hl8,H⟩:=bindE H
    refine Rt tok [] [5] (by intro K k;simp -dsimp -implicitDefEqProofs [ixo193 hv7,(idx_lt3 hv7).2.2,(setx_iff.1 hl8).2.symm];exact k) fun a ha=>?_
    (try rw[← setx_len hl8] at ha);(try rw[← setx_len hl8])
    refine hK1 _ _ ?_;rw[ha]
    refine Rc.mk ?_
    refine S0 tok [] [4] ?_
    obtain rfl:=oi H
    refine Kp [4] ?_
    refine AWP_ret ?_
    refine⟨[.sl (N0+4) 0 l8.length],by simp,N0+22,N0+4,by omega,by omega,by omega,?_,?_⟩
    ·simp[encL_nil]
    ·first|rfl|simp[List.set_set]
   ·replace H:=ifF C3 H
    refine S0 tok [] [1,2,5,38] ?_
    refine Cd (fun C4=>?_) fun C4=>?_
    ·replace H:=ifT C4 H
     obtain⟨v9,hv9,H⟩:=bindE H
     obtain⟨v10,hv10,H⟩:=bindE H
     obtain⟨r11,hr11,H⟩:=bindE H
     obtain⟨v12,hv12,H⟩:=bindE H
     obtain⟨l13,hl13,H⟩:=bindE H
     refine AWP_rd tok tokM [] [15,16] [0,1,2,3,4,5,6,7,8,9,10,11,12,13,14,15,16] [5] (fun a σ=>a=[(5,.sl (N0+4) 0 l1.length)]∧σ=hp E0 [(N0+4,some ⟨212,2,encL rFact l13⟩)] (N0+33)) (by decide) (fun K hK=>?_) ?_
     ·simp only[pickL,nthO_succ,nthO_zero]
      simp -dsimp -implicitDefEqProofs [ix193 hv9,ix193 hv10,ixo193 hv12,(idx_lt3 hv12).2.2,(setx_iff.1 hl13).2.symm]
      refine Pc.mk (c221 hr11) ?_;try simp -dsimp -implicitDefEqProofs [ix193 hv9,ix193 hv10,ixo193 hv12,(idx_lt3 hv12).2.2,(setx_iff.1 hl13).2.symm]
      exact hK _ _ ⟨rfl,rfl⟩
     rintro a σ ⟨ha,rfl⟩
     (try rw[← setx_len hl13] at ha);(try rw[← setx_len hl13])
     refine hK1 _ _ ?_;rw[ha]
     refine Rc.mk ?_
     refine S0 tok [] [4] ?_
     obtain rfl:=oi H
     refine Kp [4] ?_
     refine AWP_ret ?_
     refine⟨[.sl (N0+4) 0 l13.length],by simp,N0+35,N0+4,by omega,by omega,by omega,?_,?_⟩
     ·simp[encL_nil]
     ·first|rfl|simp[List.set_set]
    ·replace H:=ifF C4 H
     refine AWP_skip (Jn hK1 ?_)
     refine S0 tok [] [4] ?_
     obtain rfl:=oi H
     refine Kp [4] ?_
     refine AWP_ret ?_
     refine⟨[.sl (N0+4) 0 l1.length],by simp,N0+18,N0+4,by omega,by omega,by omega,?_,?_⟩
     ·simp[encL_nil]
     ·first|rfl|simp[List.set_set]
theorem c219_o_b {p0:gQuad} {p1:(List gFact)} {r:(List gFact)} (H:s_l33After_o p0 p1=some r) {σ:AHeap} {args:List AV} (hy:args.map (thawA (fun _=>true) σ 8)=[.agg [.int .i64 p0.Op,.int .i64 p0.Dst,.int .i64 p0.A,.int .i64 p0.B,.int .i64 p0.N],.fsl (encL rFact p1)]):ACalls Tryz.prog G 219 args σ (fun v σ'=>∃M n0:Nat,σ.next≤M∧σ.next≤n0∧n0<M∧v=.sl n0 0 r.length∧σ'=hp σ.objs [(n0,some ⟨212,2,encL rFact r⟩)] M):=by
 refine borrowQ 8 8 (c219_o (σ:=⟨E0,σ.next⟩) H) hy ?_
 rintro _ _ ⟨M,n0,h0,h1,h2,rfl,rfl⟩
 refine⟨_,M,rfl,by simp[AV.rnf,AV.simp1],fun p hp ob ho=>?_,by simp,M,n0,h0,h1,h2,rfl,rfl⟩
 simp only[List.mem_cons,List.not_mem_nil,or_false] at hp
 rcases hp with rfl<;>(cases ho;first|exact encL_nf (fun x=>nf_rFact 7 x) _|simp[AV.nf,AV.simp1])
theorem c208 {p0:(List gQuad)} {p1:(List (List gFact))} {r:Bool×(List (List gFact))} (H:s_l33Round p0 p1=some r) {σ:AHeap} {w1:Nat} (q1:σ.objs w1=some ⟨193,1,encL rL_Fact_o p1⟩):ACalls Tryz.prog G 208 [.fsl (encL rQuad p0),.sl w1 0 p1.length] σ (fun v σ'=>∃M:Nat,σ.next≤M∧r.2.length=p1.length∧v=.bool r.1∧σ'=hp σ.objs [(w1,some ⟨193,1,encL rL_Fact_o r.2⟩)] M):=by
 refine ACalls_fr (L:=[(w1,some ⟨193,1,encL rL_Fact_o p1⟩)]) (Q1:=fun v σ'=>∃M:Nat,σ.next≤M∧r.2.length=p1.length∧v=.bool r.1∧σ'=hp E0 [(w1,some ⟨193,1,encL rL_Fact_o r.2⟩)] M) (by simp[q1]) (fun hlt=>?_) ?_ ⟨_,Tryz.func208,rfl,rfl⟩
 rotate_left
 ·rintro v σ1 ⟨M,h0,h1,rfl,rfl⟩
  exact⟨_,M,rfl,by simp,by simp;try omega,M,h0,h1,rfl,rfl⟩
 generalize σ.next=N0 at hlt ⊢
 have lw1:w1<N0:=hlt _ (.head _) rfl
 refine fnK tok Tryz.func208 Tryz.ntmps208 Tryz.results208 ?_
 simp only[argsA,Nat.reduceAdd,hp_next]
 unfold s_l33Round at H
 refine S0 tok [] [0,1] ?_
 refine S0 tok [] [0,1,5] ?_
 refine AWP_sq [5] fun K1 hK1=>?_
 refine S0 tok [] [0,1,5,6] ?_
 refine AWP_block (AWP_thenB ?_)
 obtain⟨e2,hse2,H⟩:=bindE H
 refine AWP_lp [0,1,5,6] (fun s a σ=>∃M1:Nat,N0≤M1∧s.2.2.length=p1.length∧a=[(0,.fsl (encL rQuad p0)),(1,.sl w1 0 s.2.2.length),(5,.bool s.1),(6,.int .i64 s.2.1)]∧σ=hp E0 [(w1,some ⟨193,1,encL rL_Fact_o s.2.2⟩)] M1) (fun s x a σ=>x=.exit 0∧Rc G 54 N0 (fun a σ=>∃M2:Nat,N0≤M2∧s.2.length=p1.length∧a=[(5,.bool s.1)]∧σ=hp E0 [(w1,some ⟨193,1,encL rL_Fact_o s.2⟩)] M2) (AAct.keep a [5]) σ) hse2 ?_ ?_ ?_
 ·refine Rc.kp [0,1,5,6] [(0,.fsl (encL rQuad p0)),(1,.sl w1 0 p1.length),(5,.bool false),(6,.int .i64 0)] rfl ?_
  exact Rf ⟨N0+3,(by omega),(by first|rfl|exact rfl|omega),rfl,rfl⟩
 ·clear H hse2
  rintro⟨s1,s2,s3⟩ fl a σ H ⟨M1,fM1_0,fM1_1,rfl,rfl⟩ K2 O2 hK2 hO2
  unfold s_l33Round_L1 at H;dsimp only at H
  refine AWP_sq [0,1,5,6] fun K3 hK3=>?_
  refine S0 tok [] [0,1,5,6,13] ?_
  refine Cd (fun C1=>?_) fun C1=>?_
  ·replace H:=ifT C1 H
   refine AWP_skip (Jn hK3 ?_)
   refine AWP_sq [0,1,5,6] fun K4 hK4=>?_
   refine AWP_block (AWP_thenB ?_)
   refine AWP_sq [0,1,5,6] fun K5 hK5=>?_
   obtain⟨v6,hv6,H⟩:=bindE H
   refine gU AWP_ref w1 s2.toNat 0 ?_ (hr:=by exact encL_at rL_Fact_o hv6)
   obtain⟨v7,hv7,H⟩:=bindE H
   refine Sx tok [] [0,1,5,6,23] (by
    intro K k
    have e0:=nQ w1 (M1+4)
    simp -dsimp -implicitDefEqProofs [e0,(gset hv6 _),List.set_set,ixo190 hv6,(idx_lt3 hv6).2.2,ixo193 hv7,(show _[0]? =some v7 from(idx_lt3 hv7).2.2)]
    exact k) ?_
   refine Cd (fun C2=>?_) fun C2=>?_
   ·replace H:=ifT C2 H
    refine AWP_exit ?_
    show K4 _ _
    refine kE [0,1,5,6] fun a' ha=>?_
    refine hK4 _ _ ?_;rw[ha]
    refine Rc.mk ?_
    refine Rt tok [] [0,1,5,6] (by
     intro K k
     have e0:=nQ w1 (M1+4)
     simp -dsimp -implicitDefEqProofs [e0,(gset hv6 _),List.set_set]
     exact k) fun a ha=>?_
    obtain⟨l8,hl8,H⟩:=bindE H
    obtain rfl:=oi H
    refine hK2 _ _ _ rfl ?_;rw[ha]
    refine gP Rc_ref w1 s2.toNat 0 ?_ (hr:=by exact gset hv6 _)
    rw[show hp E0 [(w1,some ⟨193,1,(encL rL_Fact_o s3).set s2.toNat [.osl 212 2 (encL rFact v6)]⟩)] (M1+16)=hp E0 [(w1,some ⟨193,1,encL rL_Fact_o l8⟩)] (M1+16) from by rw[(setx_iff.1 hl8).2,← encL_set];rfl];(try rw[← setx_len hl8])
    exact Rf ⟨M1+16,(by omega),(by first|rfl|exact((setx_len hl8).trans fM1_1)|omega),rfl,rfl⟩
   ·replace H:=ifF C2 H
    refine AWP_skip (Jn hK5 ?_)
    refine gP AWP_ref w1 s2.toNat 0 ?_ (hr:=by exact gset hv6 _)
    obtain⟨l9,hl9,H⟩:=bindE H
    rw[show hp E0 [(w1,some ⟨193,1,(encL rL_Fact_o s3).set s2.toNat [.osl 212 2 (encL rFact v6)]⟩)] (M1+13)=hp E0 [(w1,some ⟨193,1,encL rL_Fact_o l9⟩)] (M1+13) from by rw[(setx_iff.1 hl9).2,← encL_set];rfl];(try rw[← setx_len hl9])
    obtain⟨v10,hv10,H⟩:=bindE H
    refine gU AWP_ref w1 s2.toNat 0 ?_ (hr:=by exact encL_at rL_Fact_o hv10)
    obtain⟨r11,hr11,H⟩:=bindE H
    refine AWP_sr tok [] [0,1,5,6,7] (fun a σ=>∃M3 o1:Nat,M1+22≤M3∧M1+22≤o1∧o1<M3∧a=[(0,.fsl (encL rQuad p0)),(1,.sl w1 0 l9.length),(5,.bool s1),(6,.int .i64 s2),(7,.sl o1 0 r11.length)]∧σ=hp E0 [(w1,some ⟨193,1,(encL rL_Fact_o l9).set s2.toNat [.sl (M1+13) 0 v10.length]⟩),(M1+13,some ⟨212,2,encL rFact v10⟩),(o1,some ⟨3,1,encL rI r11⟩)] M3) (fun K hK=>?_) ?_
    ·skip
     have e0:=nQ w1 (M1+13)
     simp -dsimp -implicitDefEqProofs [e0,(gset hv10 _),List.set_set,ixo190 hv10,(idx_lt3 hv10).2.2]
     refine(c218_o_b (H:=hr11) (by simp[e0,(gset hv10 _),List.set_set,ixo190 hv10,(idx_lt3 hv10).2.2])).mono ?_;rintro _ _ ⟨M3,o1,fM3_0,fM3_1,fM3_2,rfl,rfl⟩;simp only[hp_next] at fM3_0 fM3_1 fM3_2
     have eM3_0:=nQ o1 w1
     have eM3_1:=nQ o1 (M1+13)
     try simp -dsimp -implicitDefEqProofs [e0,(gset hv10 _),List.set_set,ixo190 hv10,(idx_lt3 hv10).2.2,eM3_0,eM3_1,hp_over_some,hp_over_none]
     exact hK _ _ ⟨M3,o1,(by omega),(by omega),(by omega),rfl,rfl⟩
    rintro a σ ⟨M3,o1,fM3_0,fM3_1,fM3_2,rfl,rfl⟩
    refine gP AWP_ref w1 s2.toNat 0 ?_ (hr:=by exact gset hv10 _)
    obtain⟨l12,hl12,H⟩:=bindE H
    rw[show hp E0 [(w1,some ⟨193,1,(encL rL_Fact_o l9).set s2.toNat [.osl 212 2 (encL rFact v10)]⟩),(o1,some ⟨3,1,encL rI r11⟩)] M3=hp E0 [(w1,some ⟨193,1,encL rL_Fact_o l12⟩),(o1,some ⟨3,1,encL rI r11⟩)] M3 from by rw[(setx_iff.1 hl12).2,← encL_set];rfl];(try rw[← setx_len hl12])
    obtain⟨v14,hv14,H⟩:=bindE H
    refine gU AWP_ref w1 s2.toNat 0 ?_ (hr:=by exact encL_at rL_Fact_o hv14)
    obtain⟨v15,hv15,H⟩:=bindE H
    obtain⟨r16,hr16,H⟩:=bindE H
    refine AWP_sd tok tokM [] [6,7,8] [0,1,2,3,4,5,6,7,8,9] [0,1,5,6,7,8] (fun a σ=>∃M4 o2:Nat,M3+11≤M4∧M3+11≤o2∧o2<M4∧a=[(0,.fsl (encL rQuad p0)),(1,.sl w1 0 l12.length),(5,.bool s1),(6,.int .i64 s2),(7,.sl o1 0 r11.length),(8,.sl o2 0 r16.length)]∧σ=hp E0 [(w1,some ⟨193,1,(encL rL_Fact_o l12).set s2.toNat [.sl M3 0 v14.length]⟩),(o1,some ⟨3,1,encL rI r11⟩),(M3,some ⟨212,2,encL rFact v14⟩),(o2,some ⟨212,2,encL rFact r16⟩)] M4) (by decide) (fun K hK=>?_) ?_
    ·simp only[pickL,nthO_succ,nthO_zero]
     have e0:=nQ w1 o1
     have e1:=nQ w1 M3
     have e2:=nQ o1 M3
     simp -dsimp -implicitDefEqProofs [e0,e1,e2,(gset hv14 _),List.set_set,ix39 hv15,ixo190 hv14,(idx_lt3 hv14).2.2]
     refine(c219_o_b (H:=hr16) (by simp[e0,e1,e2,(gset hv14 _),List.set_set,ix39 hv15,ixo190 hv14,(idx_lt3 hv14).2.2])).mono ?_;rintro _ _ ⟨M4,o2,fM4_0,fM4_1,fM4_2,rfl,rfl⟩;simp only[hp_next] at fM4_0 fM4_1 fM4_2
     have eM4_0:=nQ o2 w1
     have eM4_1:=nQ o2 o1
     have eM4_2:=nQ o2 M3
     try simp -dsimp -implicitDefEqProofs [e0,e1,e2,(gset hv14 _),List.set_set,ix39 hv15,ixo190 hv14,(idx_lt3 hv14).2.2,eM4_0,eM4_1,eM4_2,hp_over_some,hp_over_none]
     exact hK _ _ ⟨M4,o2,(by omega),(by omega),(by omega),rfl,rfl⟩
    rintro a σ ⟨M4,o2,fM4_0,fM4_1,fM4_2,rfl,rfl⟩
    refine Sx tok [] [0,1,5,6,7,8,9] (by
     intro K k
     have e0:=nQ w1 o1
     have e1:=nQ w1 M3
     have e2:=nQ w1 o2
     have e3:=nQ o1 M3
     have e4:=nQ o1 o2
     have e5:=nQ M3 o2
     simp -dsimp -implicitDefEqProofs [e0,e1,e2,e3,e4,e5,(gset hv14 _),List.set_set]
     exact k) ?_
    refine AWP_block (AWP_thenB ?_)
    obtain⟨l17,hl17,H⟩:=bindE H
    obtain⟨e1,hse1,H⟩:=bindE H
    refine AWP_lp [0,1,5,6,7,8,9] (fun s a σ=>∃M5 o3:Nat,N0≤M5∧N0≤o3∧o3<M5∧s.2.2.1.length=p1.length∧a=[(0,.fsl (encL rQuad p0)),(1,.sl w1 0 s.2.2.1.length),(5,.bool s.1),(6,.int .i64 s2),(7,.sl o3 0 s.2.2.2.length),(8,.fsl (encL rFact r16)),(9,.int .i64 s.2.1)]∧σ=hp E0 [(w1,some ⟨193,1,encL rL_Fact_o s.2.2.1⟩),(o3,some ⟨3,1,encL rI s.2.2.2⟩)] M5) (fun s x a σ=>x=.exit 2∧Rc G 54 N0 (fun a σ=>∃M6:Nat,N0≤M6∧s.2.length=p1.length∧a=[(0,.fsl (encL rQuad p0)),(1,.sl w1 0 s.2.length),(5,.bool s.1),(6,.int .i64 s2)]∧σ=hp E0 [(w1,some ⟨193,1,encL rL_Fact_o s.2⟩)] M6) (AAct.keep a [0,1,5,6]) σ) hse1 ?_ ?_ ?_
    ·refine Rc.kp [0,1,5,6,7,8,9] [(0,.fsl (encL rQuad p0)),(1,.sl w1 0 l12.length),(5,.bool s1),(6,.int .i64 s2),(7,.sl o1 0 r11.length),(8,.sl o2 0 r16.length),(9,.int .i64 0)] rfl ?_
     refine gP Rc_ref w1 s2.toNat 0 ?_ (hr:=by exact gset hv14 _)
     rw[show hp E0 [(w1,some ⟨193,1,(encL rL_Fact_o l12).set s2.toNat [.osl 212 2 (encL rFact v14)]⟩),(o1,some ⟨3,1,encL rI r11⟩),(o2,some ⟨212,2,encL rFact r16⟩)] (M4+1)=hp E0 [(w1,some ⟨193,1,encL rL_Fact_o l17⟩),(o1,some ⟨3,1,encL rI r11⟩),(o2,some ⟨212,2,encL rFact r16⟩)] (M4+1) from by rw[(setx_iff.1 hl17).2,← encL_set];rfl];(try rw[← setx_len hl17])
     have z3:=nQ w1 o1
     have z4:=nQ w1 o2
     have z5:=nQ o1 o2
     refine gFrz Rc_ref 4 [o2] [(w1,some ⟨193,1,encL rL_Fact_o l17⟩),(o1,some ⟨3,1,encL rI r11⟩)] [(0,.fsl (encL rQuad p0)),(1,.sl w1 0 l17.length),(5,.bool s1),(6,.int .i64 s2),(7,.sl o1 0 r11.length),(8,.fsl (encL rFact r16)),(9,.int .i64 0)] (by simp[z3,z4,z5]) (cutD (by simp[z3,z4,z5])) ?_
     exact Rf ⟨M4+1,o1,(by omega),(by omega),(by omega),(by first|rfl|exact((setx_len hl17).trans ((setx_len hl12).trans ((setx_len hl9).trans fM1_1)))|omega),rfl,rfl⟩
    ·clear H hse1
     rintro⟨s18,s19,s20,s21⟩ fl a σ H ⟨M5,o3,fM5_0,fM5_1,fM5_2,fM5_3,rfl,rfl⟩ K6 O6 hK6 hO6
     unfold s_l33Round_L2 at H;dsimp only at H
     refine AWP_sq [0,1,5,6,7,8,9] fun K7 hK7=>?_
     refine Sx tok [] [0,1,5,6,7,8,9,43] (by
      intro K k
      have e0:=nQ w1 o3
      simp -dsimp -implicitDefEqProofs [e0]
      exact k) ?_
     refine Cd (fun C3=>?_) fun C3=>?_
     ·replace H:=ifT C3 H
      refine AWP_skip (Jn hK7 ?_)
      refine AWP_sq [0,1,5,6,7,8,9] fun K8 hK8=>?_
      refine AWP_block (AWP_thenB ?_)
      obtain⟨v24,hv24,H⟩:=bindE H
      obtain⟨r25,hr25,H⟩:=bindE H
      refine AWP_sr tok [] [0,1,5,6,7,8,9,52] (fun a σ=>∃M7:Nat,M5+11≤M7∧r25.2.length=s20.length∧a=[(0,.fsl (encL rQuad p0)),(1,.sl w1 0 s20.length),(5,.bool s18),(6,.int .i64 s2),(7,.sl o3 0 s21.length),(8,.fsl (encL rFact r16)),(9,.int .i64 s19),(52,.bool r25.1)]∧σ=hp E0 [(w1,some ⟨193,1,encL rL_Fact_o r25.2⟩),(o3,some ⟨3,1,encL rI s21⟩)] M7) (fun K hK=>?_) ?_
      ·skip
       have e0:=nQ w1 o3
       simp -dsimp -implicitDefEqProofs [e0,ixo24 hv24,(idx_lt3 hv24).2.2]
       refine(c220 (H:=hr25) (by simp[e0,ixo24 hv24,(idx_lt3 hv24).2.2])).mono ?_;rintro _ _ ⟨M7,fM7_0,fM7_1,rfl,rfl⟩;simp only[hp_next] at fM7_0
       try simp -dsimp -implicitDefEqProofs [e0,ixo24 hv24,(idx_lt3 hv24).2.2,hp_over_some,hp_over_none]
       exact hK _ _ ⟨M7,(by omega),fM7_1,rfl,rfl⟩
      rintro a σ ⟨M7,fM7_0,fM7_1,rfl,rfl⟩
      try rw[← fM7_1]
      refine Cd (fun C4=>?_) fun C4=>?_
      ·replace H:=ifT C4 H
       refine Rt tok [] [0,1,5,6,7,8,9] (by
        intro K k
        have e0:=nQ w1 o3
        simp -dsimp -implicitDefEqProofs [e0]
        exact k) fun a ha=>?_
       refine hK8 _ _ ?_;rw[ha]
       refine Rc.mk ?_
       refine Rt tok [] [0,1,5,6,7,8,9] (by
        intro K k
        have e0:=nQ w1 o3
        simp -dsimp -implicitDefEqProofs [e0]
        exact k) fun a ha=>?_
       obtain rfl:=oi H
       refine hK6 _ _ _ rfl ?_;rw[ha]
       exact Rf ⟨M7+4,o3,(by omega),(by omega),(by omega),(by first|rfl|exact((fM7_1).trans fM5_3)|omega),rfl,rfl⟩
      ·replace H:=ifF C4 H
       refine AWP_skip (Jn hK8 ?_)
       refine Rt tok [] [0,1,5,6,7,8,9] (by
        intro K k
        have e0:=nQ w1 o3
        simp -dsimp -implicitDefEqProofs [e0]
        exact k) fun a ha=>?_
       obtain rfl:=oi H
       refine hK6 _ _ _ rfl ?_;rw[ha]
       exact Rf ⟨M7+3,o3,(by omega),(by omega),(by omega),(by first|rfl|exact((fM7_1).trans fM5_3)|omega),rfl,rfl⟩
     ·obtain rfl:=oi (ifF C3 H)
      refine AWP_exit (hO6 _ _ _ _ rfl ⟨rfl,?_⟩)
      refine Rc.rw (l:=[0,1,5,6]) (X:=[(0,.fsl (encL rQuad p0)),(1,.sl w1 0 s20.length),(5,.bool s18),(6,.int .i64 s2)]) rfl ?_
      exact Rc.fin (hp_skip (AHeap.Sub.trans (AHeap.Sub.refl _) (hp_drop rfl (by simp;try omega)))) ⟨M5+4,(by omega),(by first|rfl|exact fM5_3|omega),rfl,rfl⟩
    ·intro x a σ hx
     obtain⟨y22,y23⟩:=e1
     obtain⟨rfl,b,τ,hr,M6,fM6_0,fM6_1,rfl,rfl⟩:=hx
     (try dsimp only at H)
     show K4 _ _
     refine hK4 _ _ (Rc_ref hr ?_)
     refine Rc.mk ?_
     refine Rt0 tok [] [0,1,5,6] fun a ha=>?_
     obtain rfl:=oi H
     refine hK2 _ _ _ rfl ?_;rw[ha]
     exact Rf ⟨M6+3,(by omega),(by first|rfl|exact fM6_1|omega),rfl,rfl⟩
  ·obtain rfl:=oi (ifF C1 H)
   refine AWP_exit (hO2 _ _ _ _ rfl ⟨rfl,?_⟩)
   refine Rc.rw (l:=[5]) (X:=[(5,.bool s1)]) rfl ?_
   exact Rf ⟨M1+4,(by omega),(by first|rfl|exact fM1_1|omega),rfl,rfl⟩
 ·intro x a σ hx
  obtain⟨y4,y5⟩:=e2
  obtain⟨rfl,b,τ,hr,M2,fM2_0,fM2_1,rfl,rfl⟩:=hx
  (try dsimp only at H)
  show K1 _ _
  refine hK1 _ _ (Rc_ref hr ?_)
  refine Rc.mk ?_
  refine S0 tok [] [4] ?_
  obtain rfl:=oi H
  refine Kp [4] ?_
  refine AWP_ret ?_
  refine⟨[.bool y4],by simp,M2+2,by omega,by first|rfl|exact fM2_1|omega,?_,?_⟩
  ·simp[encL_nil]
  ·first|rfl|simp[List.set_set]
theorem c190 {p0:(List gQuad)} {r:(List (List gFact))} (H:s_FactsOf p0=some r):APure Tryz.prog G 190 [.fsl (encL rQuad p0)] (.fsl (encL rL_Fact r)):=by
 refine APure_fn (fun N0=>?_) (by simp)
 refine fnK tok Tryz.func190 Tryz.ntmps190 Tryz.results190 ?_
 simp only[argsA,Nat.reduceAdd,hp_next]
 unfold s_FactsOf at H
 refine S0 tok [] [0] ?_
 have q0:∀σ i,buildSliceA T 190 true i 0 [] σ=some (.esl,σ):=fun _ _=>rfl
 refine Sx tok [0] [0,3] (by intro K k;simp -dsimp -implicitDefEqProofs [q0];exact k) ?_
 refine AWP_sq [0,3] fun K1 hK1=>?_
 obtain⟨r1,hr1,H⟩:=bindE H
 refine Sx tok [] [0,3,9] (by intro K k;(repeat first|simp -dsimp -implicitDefEqProofs|refine(c47 hr1).app ?_);exact k) ?_
 refine Cd (fun C1=>?_) fun C1=>?_
 ·replace H:=ifT C1 H
  refine S0 tok [] [2] ?_
  obtain rfl:=oi H;exact AWP_ret ⟨_,rfl,4,by simp[encL_nil]⟩
 ·replace H:=ifF C1 H
  refine AWP_skip (Jn hK1 ?_)
  refine AWP_sq [0,3] fun K2 hK2=>?_
  refine S0 tok [] [0,3,4] ?_
  refine AWP_block (AWP_thenB ?_)
  obtain⟨e1,hse1,H⟩:=bindE H
  refine AWP_lp [0,3,4] (fun s a σ=>∃M1 o1:Nat,N0≤M1∧N0≤o1∧o1<M1∧a=[(0,.fsl (encL rQuad p0)),(3,.sl o1 0 s.2.length),(4,.int .i64 s.1)]∧σ=hp E0 [(o1,some ⟨193,1,encL rL_Fact_o s.2⟩)] M1) (fun s x a σ=>x=.exit 0∧Rc G 35 N0 (fun a σ=>∃M2 o2:Nat,N0≤M2∧N0≤o2∧o2<M2∧a=[(0,.fsl (encL rQuad p0)),(3,.sl o2 0 s.length)]∧σ=hp E0 [(o2,some ⟨193,1,encL rL_Fact_o s⟩)] M2) (AAct.keep a [0,3]) σ) hse1 ?_ ?_ ?_
  ·refine Rc.kp [0,3,4] [(0,.fsl (encL rQuad p0)),(3,.esl),(4,.int .i64 0)] rfl ?_
   refine gNilS Rc_ref 3 193 1 [(N0+7,some ⟨193,1,encL rL_Fact_o ([]:List (List gFact))⟩)] [(0,.fsl (encL rQuad p0)),(3,.sl (N0+7) 0 ([]:List (List gFact)).length),(4,.int .i64 0)] (by simp(disch:=omega)) (by simp(disch:=omega) [encL_nil]) [0,3,4] rfl ?_
   exact Rf ⟨N0+8,(N0+7),(by omega),(by omega),(by omega),rfl,rfl⟩
  ·clear H hse1
   rintro⟨s2,s3⟩ fl a σ H ⟨M1,o1,fM1_0,fM1_1,fM1_2,rfl,rfl⟩ K3 O3 hK3 hO3
   unfold s_FactsOf_L1 at H;dsimp only at H
   refine AWP_sq [0,3,4] fun K4 hK4=>?_
   refine S0 tok [] [0,3,4,14] ?_
   refine Cd (fun C2=>?_) fun C2=>?_
   ·replace H:=ifT C2 H
    refine AWP_skip (Jn hK4 ?_)
    refine AWP_sq [0,3,4] fun K5 hK5=>?_
    refine AWP_block (AWP_thenB ?_)
    obtain⟨l5,hl5,H⟩:=bindE H
    obtain⟨l6,hl6,H⟩:=bindE H
    have q1:∀(a0:Nat) (a1:Nat) σ i,buildSliceA T 190 true i 1 [(0,.sl a0 0 a1)] σ=some (.fsl [[.sl a0 0 a1]],σ):=fun _ _ _ _=>rfl
    refine Rt tok [2] [0,3,4] (by
     intro K k
     have e0:=nQ o1 (M1+5)
     have e1:=nQ o1 (M1+7)
     simp -dsimp -implicitDefEqProofs [e0,e1,mak193 hl5,q1,apr190 rL_Fact_o hl6]
     exact k) fun a ha=>?_
    refine hK5 _ _ ?_;rw[ha]
    refine Rc.mk ?_
    refine gP AWP_ref (M1+7) s3.length 0 ?_ (hr:=by exact app_get _ _ _)
    rw[show hp E0 [(M1+7,some ⟨193,1,encL rL_Fact_o s3++[[.osl 212 2 (encL rFact l5)]]⟩)] (M1+9)=hp E0 [(M1+7,some ⟨193,1,encL rL_Fact_o l6⟩)] (M1+9) from by rw[← app_enc (f:=rL_Fact_o) (c:=[.osl 212 2 (encL rFact l5)]) hl6 rfl]]
    refine Rt0 tok [] [0,3,4] fun a ha=>?_
    obtain rfl:=oi H
    refine hK3 _ _ _ rfl ?_;rw[ha]
    exact Rf ⟨M1+12,(M1+7),(by omega),(by omega),(by omega),rfl,rfl⟩
   ·obtain rfl:=oi (ifF C2 H)
    refine AWP_exit (hO3 _ _ _ _ rfl ⟨rfl,?_⟩)
    refine Rc.rw (l:=[0,3]) (X:=[(0,.fsl (encL rQuad p0)),(3,.sl o1 0 s3.length)]) rfl ?_
    exact Rf ⟨M1+4,o1,(by omega),(by omega),(by omega),rfl,rfl⟩
  ·intro x a σ hx
   obtain⟨y4,rfl⟩:∃x,x=e1:=⟨_,rfl⟩
   obtain⟨rfl,b,τ,hr,M2,o2,fM2_0,fM2_1,fM2_2,rfl,rfl⟩:=hx
   (try dsimp only at H)
   show K2 _ _
   refine hK2 _ _ (Rc_ref hr ?_)
   refine Rc.mk ?_
   refine AWP_sq [0,3] fun K6 hK6=>?_
   refine S0 tok [] [0,3,5] ?_
   refine AWP_block (AWP_thenB ?_)
   obtain⟨e2,hse2,H⟩:=bindE H
   refine AWP_lp [0,3,5] (fun s a σ=>∃M3 o3:Nat,N0≤M3∧N0≤o3∧o3<M3∧a=[(0,.fsl (encL rQuad p0)),(3,.sl o3 0 s.2.length),(5,.int .i64 s.1)]∧σ=hp E0 [(o3,some ⟨193,1,encL rL_Fact_o s.2⟩)] M3) (fun s x a σ=>x=.exit 2∧Rc G 35 N0 (fun a σ=>∃M4 o4:Nat,N0≤M4∧N0≤o4∧o4<M4∧a=[(0,.fsl (encL rQuad p0)),(3,.sl o4 0 s.length)]∧σ=hp E0 [(o4,some ⟨193,1,encL rL_Fact_o s⟩)] M4) (AAct.keep a [0,3]) σ) hse2 ?_ ?_ ?_
   ·refine Rc.kp [0,3,5] [(0,.fsl (encL rQuad p0)),(3,.sl o2 0 y4.length),(5,.int .i64 0)] rfl ?_
    exact Rf ⟨M2+1,o2,(by omega),(by omega),(by omega),rfl,rfl⟩
   ·clear H hse2
    rintro⟨s7,s8⟩ fl a σ H ⟨M3,o3,fM3_0,fM3_1,fM3_2,rfl,rfl⟩ K7 O7 hK7 hO7
    unfold s_FactsOf_L2 at H;dsimp only at H
    refine AWP_sq [0,3,5] fun K8 hK8=>?_
    refine S0 tok [] [0,3,5,22] ?_
    refine Cd (fun C3=>?_) fun C3=>?_
    ·replace H:=ifT C3 H
     refine AWP_skip (Jn hK8 ?_)
     refine AWP_sq [0,3,5] fun K9 hK9=>?_
     refine AWP_block (AWP_thenB ?_)
     obtain⟨v10,hv10,H⟩:=bindE H
     refine gU AWP_ref o3 0 0 ?_ (hr:=by exact encL_at rL_Fact_o hv10)
     obtain⟨v11,hv11,H⟩:=bindE H
     obtain⟨l12,hl12,H⟩:=bindE H
     refine Rt tok [] [0,3,5] (by
      intro K k
      have e0:=nQ o3 (M3+2)
      simp -dsimp -implicitDefEqProofs [e0,(gset hv10 _),(show((encL _ _).set 0 _)[0]? =some _ from gset hv10 _),List.set_set,ixo190 hv10,(show _[0]? =some v10 from(idx_lt3 hv10).2.2),ixo193 hv11,(idx_lt3 hv11).2.2,(setx_iff.1 hl12).2.symm]
      exact k) fun a ha=>?_
     (try rw[← setx_len hl12] at ha);(try rw[← setx_len hl12])
     refine hK9 _ _ ?_;rw[ha]
     refine Rc.mk ?_
     refine Rt tok [] [0,3,5] (by
      intro K k
      have e0:=nQ o3 (M3+2)
      simp -dsimp -implicitDefEqProofs [e0,(gset hv10 _),(show((encL _ _).set 0 _)[0]? =some _ from gset hv10 _),List.set_set]
      exact k) fun a ha=>?_
     obtain⟨l13,hl13,H⟩:=bindE H
     obtain rfl:=oi H
     refine hK7 _ _ _ rfl ?_;rw[ha]
     refine gP Rc_ref o3 0 0 ?_ (hr:=by exact gset hv10 _)
     rw[show hp E0 [(o3,some ⟨193,1,(encL rL_Fact_o s8).set 0 [.osl 212 2 (encL rFact l12)]⟩)] (M3+13)=hp E0 [(o3,some ⟨193,1,encL rL_Fact_o l13⟩)] (M3+13) from by rw[(setx_iff.1 hl13).2,← encL_set];rfl];(try rw[← setx_len hl13])
     exact Rf ⟨M3+13,o3,(by omega),(by omega),(by omega),rfl,rfl⟩
    ·obtain rfl:=oi (ifF C3 H)
     refine AWP_exit (hO7 _ _ _ _ rfl ⟨rfl,?_⟩)
     refine Rc.rw (l:=[0,3]) (X:=[(0,.fsl (encL rQuad p0)),(3,.sl o3 0 s8.length)]) rfl ?_
     exact Rf ⟨M3+2,o3,(by omega),(by omega),(by omega),rfl,rfl⟩
   ·intro x a σ hx
    obtain⟨y9,rfl⟩:∃x,x=e2:=⟨_,rfl⟩
    obtain⟨rfl,b,τ,hr,M4,o4,fM4_0,fM4_1,fM4_2,rfl,rfl⟩:=hx
    (try dsimp only at H)
    show K6 _ _
    refine hK6 _ _ (Rc_ref hr ?_)
    refine Rc.mk ?_
    refine AWP_sq [3] fun K10 hK10=>?_
    refine AWP_block (AWP_thenB ?_)
    obtain⟨e3,hse3,H⟩:=bindE H
    refine AWP_lp [0,3] (fun s a σ=>∃M5 o5:Nat,N0≤M5∧N0≤o5∧o5<M5∧a=[(0,.fsl (encL rQuad p0)),(3,.sl o5 0 s.length)]∧σ=hp E0 [(o5,some ⟨193,1,encL rL_Fact_o s⟩)] M5) (fun s x a σ=>x=.exit 4∧Rc G 35 N0 (fun a σ=>∃M6 o6:Nat,N0≤M6∧N0≤o6∧o6<M6∧a=[(3,.sl o6 0 s.length)]∧σ=hp E0 [(o6,some ⟨193,1,encL rL_Fact_o s⟩)] M6) (AAct.keep a [3]) σ) hse3 ?_ ?_ ?_
    ·refine Rc.kp [0,3] [(0,.fsl (encL rQuad p0)),(3,.sl o4 0 y9.length)] rfl ?_
     exact Rf ⟨M4,o4,(by omega),(by omega),(by omega),rfl,rfl⟩
    ·clear H hse3
     rintro s14 fl a σ H ⟨M5,o5,fM5_0,fM5_1,fM5_2,rfl,rfl⟩ K11 O11 hK11 hO11
     unfold s_FactsOf_L3 at H;dsimp only at H
     refine AWP_sq [0,3] fun K12 hK12=>?_
     obtain⟨r16,hr16,H⟩:=bindE H
     refine AWP_sr tok [] [0,3,33] (fun a σ=>∃M7:Nat,M5+3≤M7∧r16.2.length=s14.length∧a=[(0,.fsl (encL rQuad p0)),(3,.sl o5 0 s14.length),(33,.bool r16.1)]∧σ=hp E0 [(o5,some ⟨193,1,encL rL_Fact_o r16.2⟩)] M7) (fun K hK=>?_) ?_
     ·skip
      simp -dsimp -implicitDefEqProofs
      refine(c208 (H:=hr16) (by simp[])).mono ?_;rintro _ _ ⟨M7,fM7_0,fM7_1,rfl,rfl⟩;simp only[hp_next] at fM7_0
      try simp -dsimp -implicitDefEqProofs [hp_over_some,hp_over_none]
      exact hK _ _ ⟨M7,(by omega),fM7_1,rfl,rfl⟩
     rintro a σ ⟨M7,fM7_0,fM7_1,rfl,rfl⟩
     try rw[← fM7_1]
     refine Cd (fun C4=>?_) fun C4=>?_
     ·replace H:=ifT C4 H
      refine AWP_skip (Jn hK12 ?_)
      refine AWP_block (AWP_thenB ?_)
      refine AWP_skip ?_
      show K11 _ _
      refine kE [0,3] fun a' ha=>?_
      obtain rfl:=oi H
      refine hK11 _ _ _ rfl ?_;rw[ha]
      exact Rf ⟨M7,o5,(by omega),(by omega),(by omega),rfl,rfl⟩
     ·obtain rfl:=oi (ifF C4 H)
      refine AWP_exit (hO11 _ _ _ _ rfl ⟨rfl,?_⟩)
      refine Rc.rw (l:=[3]) (X:=[(3,.sl o5 0 r16.2.length)]) rfl ?_
      exact Rf ⟨M7,o5,(by omega),(by omega),(by omega),rfl,rfl⟩
    ·intro x a σ hx
     obtain⟨y15,rfl⟩:∃x,x=e3:=⟨_,rfl⟩
     obtain⟨rfl,b,τ,hr,M6,o6,fM6_0,fM6_1,fM6_2,rfl,rfl⟩:=hx
     (try dsimp only at H)
     show K10 _ _
     refine hK10 _ _ (Rc_ref hr ?_)
     refine Rc.mk ?_
     refine S0 tok [] [2] ?_
     obtain rfl:=oi H;exact AWP_ret ⟨_,rfl,4,by simp[encL_nil]⟩
theorem c210 {p0:gFact} {p1:Int} {r:Bool} (H:s_l33Is p0 p1=some r):APure Tryz.prog G 210 [.agg [.int .i64 p0.Kind,.int .i64 p0.N],.int .i64 p1] (.bool r):=by
 refine APure_fn (fun N0=>?_) (by simp)
 refine fnK tok Tryz.func210 Tryz.ntmps210 Tryz.results210 ?_
 simp only[argsA,Nat.reduceAdd,hp_next]
 unfold s_l33Is at H
 refine S0 tok [0] [1,2] ?_
 obtain⟨g1,hg1,H⟩:=bindE H
 refine Sx tok [] [4] (X:=[(4,.bool g1)]) (Y:=hp E0 [] (N0+12)) (by
  intro K k
  simp -dsimp -implicitDefEqProofs
  cases hbg1:ieq p0.Kind 1
  ·obtain rfl:=oi (ifF hbg1 hg1)
   try simp -dsimp -implicitDefEqProofs [hbg1]
   exact k
  ·obtain rfl:=oi (ifT hbg1 hg1)
   try simp -dsimp -implicitDefEqProofs [hbg1]
   exact k) ?_
 obtain rfl:=oi H;exact AWP_ret ⟨_,rfl,4,by simp[encL_nil]⟩
theorem c228 {p0:(List Int)} {p1:Int} {r:Bool} (H:s_l31Has p0 p1=some r):APure Tryz.prog G 228 [.fsl (encL rI p0),.int .i64 p1] (.bool r):=by
 refine APure_fn (fun N0=>?_) (by simp)
 refine fnK tok Tryz.func228 Tryz.ntmps228 Tryz.results228 ?_
 simp only[argsA,Nat.reduceAdd,hp_next]
 unfold s_l31Has at H
 refine S0 tok [] [0,1] ?_
 refine AWP_sq [] fun K1 hK1=>?_
 refine S0 tok [] [0,1,5] ?_
 refine AWP_block (AWP_thenB ?_)
 obtain⟨e1,hse1,H⟩:=bindE H
 refine AWP_lp [0,1,5] (fun s a σ=>∃M1:Nat,N0≤M1∧a=[(0,.fsl (encL rI p0)),(1,.int .i64 p1),(5,.int .i64 s)]∧σ=hp E0 [] M1) (fun e x a σ=>match e with|.inl s=>x=.exit 0∧Rc G 18 N0 (fun a σ=>∃M2:Nat,N0≤M2∧a=[]∧σ=hp E0 [] M2) (AAct.keep a []) σ|.inr s=>x=.ret∧∃vs,resA T σ a [.tmp 4]=some vs∧∃d,thawA (fun _=>true) σ d (tupA vs)=.bool s) hse1 ?_ ?_ ?_
 ·refine Rc.kp [0,1,5] [(0,.fsl (encL rI p0)),(1,.int .i64 p1),(5,.int .i64 0)] rfl ?_
  exact Rf ⟨N0+2,(by omega),rfl,rfl⟩
 ·clear H hse1
  rintro s1 fl a σ H ⟨M1,fM1_0,rfl,rfl⟩ K2 O2 hK2 hO2
  unfold s_l31Has_L1 at H;dsimp only at H
  refine AWP_sq [0,1,5] fun K3 hK3=>?_
  refine S0 tok [] [0,1,5,9] ?_
  refine Cd (fun C1=>?_) fun C1=>?_
  ·replace H:=ifT C1 H
   refine AWP_skip (Jn hK3 ?_)
   refine AWP_sq [0,1,5] fun K4 hK4=>?_
   refine AWP_block (AWP_thenB ?_)
   obtain⟨v2,hv2,H⟩:=bindE H
   refine Sx tok [] [0,1,5,17] (by intro K k;simp -dsimp -implicitDefEqProofs [ix24 hv2];exact k) ?_
   refine Cd (fun C2=>?_) fun C2=>?_
   ·replace H:=ifT C2 H
    refine S0 tok [] [4] ?_
    obtain rfl:=oi H
    refine Kp [4] ?_
    refine AWP_ret (hO2 _ _ _ _ rfl ⟨rfl,?_⟩)
    exact⟨[.bool true],by simp,4,by simp[encL_nil]⟩
   ·replace H:=ifF C2 H
    refine AWP_skip (Jn hK4 ?_)
    refine Rt0 tok [] [0,1,5] fun a ha=>?_
    obtain rfl:=oi H
    refine hK2 _ _ _ rfl ?_;rw[ha]
    exact Rf ⟨M1+13,(by omega),rfl,rfl⟩
  ·obtain rfl:=oi (ifF C1 H)
   refine AWP_exit (hO2 _ _ _ _ rfl ⟨rfl,?_⟩)
   refine Rc.rw (l:=[]) (X:=[]) rfl ?_
   exact Rf ⟨M1+4,(by omega),rfl,rfl⟩
 ·intro x a σ hx
  rcases e1 with⟨⟩|r0
  ·obtain⟨rfl,b,τ,hr,M2,fM2_0,rfl,rfl⟩:=hx
   (try dsimp only at H)
   show K1 _ _
   refine hK1 _ _ (Rc_ref hr ?_)
   refine Rc.mk ?_
   refine S0 tok [] [4] ?_
   obtain rfl:=oi H;exact AWP_ret ⟨_,rfl,4,by simp[encL_nil]⟩
  ·obtain⟨rfl,hx2⟩:=hx
   (try dsimp only at H)
   obtain rfl:=oi H;first|exact hx2|(simp only[List.set_set] at hx2 ⊢;exact hx2)
end Go.Proofs.YtlcilhmkbmgkeaaGreatDoor
