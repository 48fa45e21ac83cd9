/- The contracts of functions of the program (CT1): each computes what its mirror computes. No conditions. -/
import Derived.Test.YtolmjhgondilhaaGreatNCT0
set_option linter.unusedSimpArgs false
set_option linter.unusedVariables false
set_option maxRecDepth 20000
set_option maxHeartbeats 4000000
namespace Go.Proofs.YtolmjhgondilhaaGreat
open Go Go.Abs Go.RowKit

abbrev c115Q (F:(List gStmt)→Int→Option ((List gQuad))):Prop:=∀{p0:List gStmt} {p1:Int} {r:List gQuad} (H:F p0 p1=some r),APure Tryz.prog G 115 [.fsl (eL rStmt p0),.int .i64 p1] (.fsl (eL rQuad r))


abbrev c144Q (F:gStmt→Int→Option ((List gQuad))):Prop:=∀{p0:gStmt} {p1:Int} {r:List gQuad} (H:F p0 p1=some r),APure Tryz.prog G 144 [.agg [.int .i64 p0.Kind,.int .i64 p0.Var,.int .i64 p0.Box,.int .i64 p0.Expr.Op,.int .i64 p0.Expr.N,.fsl (eL rExpr p0.Expr.Args),.fsl (eL rStmt p0.Body),.fsl (eL rStmt p0.Else)],.int .i64 p1] (.fsl (eL rQuad r))


abbrev c145Q (F:gStmt→Int→Option ((List gQuad))):Prop:=∀{p0:gStmt} {p1:Int} {r:List gQuad} (H:F p0 p1=some r),APure Tryz.prog G 145 [.agg [.int .i64 p0.Kind,.int .i64 p0.Var,.int .i64 p0.Box,.int .i64 p0.Expr.Op,.int .i64 p0.Expr.N,.fsl (eL rExpr p0.Expr.Args),.fsl (eL rStmt p0.Body),.fsl (eL rStmt p0.Else)],.int .i64 p1] (.fsl (eL rQuad r))


abbrev c128Q (F:gStmt→Int→Option ((List gQuad))):Prop:=∀{p0:gStmt} {p1:Int} {r:List gQuad} (H:F p0 p1=some r),APure Tryz.prog G 128 [.agg [.int .i64 p0.Kind,.int .i64 p0.Var,.int .i64 p0.Box,.int .i64 p0.Expr.Op,.int .i64 p0.Expr.N,.fsl (eL rExpr p0.Expr.Args),.fsl (eL rStmt p0.Body),.fsl (eL rStmt p0.Else)],.int .i64 p1] (.fsl (eL rQuad r))


theorem c115B {Fr13:(List gStmt)→Int→Option ((List gQuad))}{Fr14:gStmt→Int→Option ((List gQuad))}{Fr15:gStmt→Int→Option ((List gQuad))}{Fr16:gStmt→Int→Option ((List gQuad))}(hFr13:c115Q Fr13)(hFr14:c144Q Fr14)(hFr15:c145Q Fr15)(hFr16:c128Q Fr16){p0:List gStmt}{p1:Int}{r:List gQuad}(H:tN Fr13 Fr14 Fr15 Fr16 p0 p1=some r):APure Tryz.prog G 115 [.fsl (eL rStmt p0),.int .i64 p1] (.fsl (eL rQuad r)):=by
 refine zE (fun N0=>?_) (by simp)
 refine fnK tok Tryz.func115 Tryz.ntmps115 Tryz.results115 ?_
 simp only[argsA,Nat.reduceAdd,hpN]
 unfold tN at H
 refine S0 tok [] [0,1] ?_
 have q0:∀σ i,bsA T 34 true i 0 [] σ=some (.esl,σ):=fun _ _=>rfl
 refine Sx tok [0] [0,1,5] (by intro K k;simp -dsimp -implicitDefEqProofs [q0];exact k) ?_
 refine Wsq [5] fun K1 hK1=>?_
 refine S0 tok [] [0,1,5,6] ?_
 refine Wbl (Wth ?_)
 obtain⟨e1,hse1,H⟩:=bE H
 refine zS [0,1,5,6] (fun s a σ=>∃M1 o1:Nat,N0≤M1∧N0≤o1∧o1<M1∧a=[(0,.fsl (eL rStmt p0)),(1,.int .i64 p1),(5,.sl o1 0 s.2.length),(6,.int .i64 s.1)]∧σ=hp E0 [(o1,some ⟨36,5,eL rQuad s.2⟩)] M1) (fun s x a σ=>x=.exit 0∧Rc G 26 N0 (fun a σ=>∃M2 o2:Nat,N0≤M2∧N0≤o2∧o2<M2∧a=[(5,.sl o2 0 s.length)]∧σ=hp E0 [(o2,some ⟨36,5,eL rQuad s⟩)] M2) (AAct.keep a [5]) σ) hse1 ?_ ?_ ?_
 ·refine Rc.kp [0,1,5,6] [(0,.fsl (eL rStmt p0)),(1,.int .i64 p1),(5,.esl),(6,.int .i64 0)] rfl ?_
  refine gNilS zK 5 36 5 [(N0+4,some ⟨36,5,eL rQuad ([]:List gQuad)⟩)] [(0,.fsl (eL rStmt p0)),(1,.int .i64 p1),(5,.sl (N0+4) 0 ([]:List gQuad).length),(6,.int .i64 0)] (by simp(disch:=omega)) (by simp(disch:=omega) [eN]) [0,1,5,6] rfl ?_
  exact Rf ⟨N0+5,(N0+4),(by omega),(by omega),(by omega),rfl,rfl⟩
 ·clear H hse1
  rintro⟨s1,s2⟩ fl a σ H ⟨M1,o1,fM1_0,fM1_1,fM1_2,rfl,rfl⟩ K2 O2 hK2 hO2
  unfold vY at H;dsimp only at H
  refine Wsq [0,1,5,6] fun K3 hK3=>?_
  refine S0 tok [] [0,1,5,6,11] ?_
  refine Ci H (fun H=>?_) fun H=>?_
  ·refine Wsk (Jn hK3 ?_)
   refine Wsq [0,1,5,6] fun K4 hK4=>?_
   refine Wbl (Wth ?_)
   obtain⟨v4,hv4,H⟩:=bE H
   obtain⟨r5,hr5,H⟩:=bE H
   obtain⟨l6,hl6,H⟩:=bE H
   refine Rt tok [] [0,1,5,6] (by
    intro K k
    have e0:=nQ o1 (M1+14)
    repeat first|simp -dsimp -implicitDefEqProofs [e0,ix124 hv4,app34 hl6]|refine(hFr16 hr5).app ?_
    exact k) fun a ha=>?_
   refine hK4 _ _ ?_;rw[ha]
   refine Rc.mk ?_
   refine Rt0 tok [] [0,1,5,6] fun a ha=>?_
   obtain rfl:=oi H
   refine hK2 _ _ _ rfl ?_;rw[ha]
   exact Rf ⟨M1+19,(M1+14),(by omega),(by omega),(by omega),rfl,rfl⟩
  obtain rfl:=oi H
  refine zJ (hO2 _ _ _ _ rfl ⟨rfl,?_⟩)
  refine Rc.rw (l:=[5]) (X:=[(5,.sl o1 0 s2.length)]) rfl ?_
  exact Rf ⟨M1+4,o1,(by omega),(by omega),(by omega),rfl,rfl⟩
 intro x a σ hx
 obtain⟨y3,rfl⟩:∃x,x=e1:=⟨_,rfl⟩
 obtain⟨rfl,b,τ,hr,M2,o2,fM2_0,fM2_1,fM2_2,rfl,rfl⟩:=hx
 (try dsimp only at H)
 show K1 _ _
 refine hK1 _ _ (zK hr ?_)
 refine Rc.mk ?_
 refine S0 tok [] [4] ?_
 obtain rfl:=oi H;exact Wr ⟨_,rfl,4,by simp[eN]⟩

theorem c144B {Fr13:(List gStmt)→Int→Option ((List gQuad))}{Fr14:gStmt→Int→Option ((List gQuad))}{Fr15:gStmt→Int→Option ((List gQuad))}{Fr16:gStmt→Int→Option ((List gQuad))}(hFr13:c115Q Fr13)(hFr14:c144Q Fr14)(hFr15:c145Q Fr15)(hFr16:c128Q Fr16){p0:gStmt}{p1:Int}{r:List gQuad}(H:oF Fr13 Fr14 Fr15 Fr16 p0 p1=some r):APure Tryz.prog G 144 [.agg [.int .i64 p0.Kind,.int .i64 p0.Var,.int .i64 p0.Box,.int .i64 p0.Expr.Op,.int .i64 p0.Expr.N,.fsl (eL rExpr p0.Expr.Args),.fsl (eL rStmt p0.Body),.fsl (eL rStmt p0.Else)],.int .i64 p1] (.fsl (eL rQuad r)):=by
 refine zE (fun N0=>?_) (by simp)
 refine fnK tok Tryz.func144 Tryz.ntmps144 Tryz.results144 ?_
 simp only[argsA,Nat.reduceAdd,hpN]
 unfold oF at H
 refine S0 tok [0] [1,2] ?_
 obtain⟨r1,hr1,H⟩:=bE H
 refine jV tok [] [1,2,5] (fun a σ=>∃M1 o1:Nat,N0+6≤M1∧N0+6≤o1∧o1<M1∧a=[(1,.int .i64 p1),(2,.fptr [.int .i64 p0.Kind,.int .i64 p0.Var,.int .i64 p0.Box,.int .i64 p0.Expr.Op,.int .i64 p0.Expr.N,.fsl (eL rExpr p0.Expr.Args),.fsl (eL rStmt p0.Body),.fsl (eL rStmt p0.Else)] 0),(5,.sl o1 0 r1.length)]∧σ=hp E0 [(o1,some ⟨36,5,eL rQuad r1⟩)] M1) (fun K hK=>?_) ?_
 ·skip
  simp -dsimp -implicitDefEqProofs
  refine(c143_o (H:=hr1)).mono ?_;rintro _ _ ⟨M1,o1,fM1_0,fM1_1,fM1_2,rfl,rfl⟩;simp only[hpN] at fM1_0 fM1_1 fM1_2
  try simp -dsimp -implicitDefEqProofs [hoS,hoN]
  exact hK _ _ ⟨M1,o1,(by omega),(by omega),(by omega),rfl,rfl⟩
 rintro a σ ⟨M1,o1,fM1_0,fM1_1,fM1_2,rfl,rfl⟩
 obtain⟨r2,hr2,H⟩:=bE H
 refine Sx tok [] [1,2,5,6] (by intro K k;(repeat first|simp -dsimp -implicitDefEqProofs|refine(hFr13 hr2).app ?_);exact k) ?_
 refine S0 tok [] [2,5,6,7] ?_
 refine Wsq [2,5,6,7] fun K1 hK1=>?_
 refine S0 tok [] [2,5,6,7,31] ?_
 refine Ci H (fun H=>?_) fun H=>?_
 ·obtain⟨l3,hl3,H⟩:=bE H
  have q0:∀σ i,bsA T 34 true i 1 [(0,.agg [.int .i64 5,.int .i64 0,.int .i64 4,.int .i64 0,.int .i64 (iadd .i64 (iadd .i64 (iadd .i64 p1 (ilen r1)) 1) (ilen r2))])] σ=some (.fsl (eL rQuad ([(⟨5,0,4,0,iadd .i64 (iadd .i64 (iadd .i64 p1 (ilen r1)) 1) (ilen r2)⟩:gQuad)]:List gQuad)),σ):=fun _ _=>rfl
  refine Sx tok [3] [5,6] (by
   intro K k
   have e0:=nQ o1 (M1+26)
   simp -dsimp -implicitDefEqProofs [e0,q0,app34 hl3]
   exact k) ?_
  obtain⟨l4,hl4,H⟩:=bE H
  refine Sx tok [] [4] (by intro K k;simp -dsimp -implicitDefEqProofs [app34 hl4];exact k) ?_
  refine gFrz Wre 4 [M1+30] [] [(4,.fsl (eL rQuad l4))] (by simp) (cutD (by simp)) ?_
  obtain rfl:=oi H;exact Wr ⟨_,rfl,4,by simp[eN]⟩
 refine Wsk (Jn hK1 ?_)
 obtain⟨r5,hr5,H⟩:=bE H
 refine Sx tok [] [5,6,7,8] (by intro K k;(repeat first|simp -dsimp -implicitDefEqProofs|refine(hFr13 hr5).app ?_);exact k) ?_
 obtain⟨l6,hl6,H⟩:=bE H
 have q1:∀σ i,bsA T 34 true i 1 [(0,.agg [.int .i64 5,.int .i64 0,.int .i64 4,.int .i64 0,.int .i64 (iadd .i64 (iadd .i64 (iadd .i64 (iadd .i64 p1 (ilen r1)) 1) (ilen r2)) 1)])] σ=some (.fsl (eL rQuad ([(⟨5,0,4,0,iadd .i64 (iadd .i64 (iadd .i64 (iadd .i64 p1 (ilen r1)) 1) (ilen r2)) 1⟩:gQuad)]:List gQuad)),σ):=fun _ _=>rfl
 refine Sx tok [4] [5,6,7,8] (by
  intro K k
  have e0:=nQ o1 (M1+33)
  simp -dsimp -implicitDefEqProofs [e0,q1,app34 hl6]
  exact k) ?_
 obtain⟨l7,hl7,H⟩:=bE H
 refine Sx tok [] [5,7,8] (by intro K k;simp -dsimp -implicitDefEqProofs [app34 hl7];exact k) ?_
 obtain⟨l8,hl8,H⟩:=bE H
 have q2:∀σ i,bsA T 34 true i 1 [(0,.agg [.int .i64 4,.int .i64 0,.int .i64 0,.int .i64 0,.int .i64 (iadd .i64 (iadd .i64 (iadd .i64 (iadd .i64 (iadd .i64 p1 (ilen r1)) 1) (ilen r2)) 1) (ilen r5))])] σ=some (.fsl (eL rQuad ([(⟨4,0,0,0,iadd .i64 (iadd .i64 (iadd .i64 (iadd .i64 (iadd .i64 p1 (ilen r1)) 1) (ilen r2)) 1) (ilen r5)⟩:gQuad)]:List gQuad)),σ):=fun _ _=>rfl
 refine Sx tok [7] [5,8] (by intro K k;simp -dsimp -implicitDefEqProofs [q2,app34 hl8];exact k) ?_
 obtain⟨l9,hl9,H⟩:=bE H
 refine Sx tok [] [4] (by intro K k;simp -dsimp -implicitDefEqProofs [app34 hl9];exact k) ?_
 refine gFrz Wre 4 [M1+51] [] [(4,.fsl (eL rQuad l9))] (by simp) (cutD (by simp)) ?_
 obtain rfl:=oi H;exact Wr ⟨_,rfl,4,by simp[eN]⟩

theorem c145B {Fr13:(List gStmt)→Int→Option ((List gQuad))}{Fr14:gStmt→Int→Option ((List gQuad))}{Fr15:gStmt→Int→Option ((List gQuad))}{Fr16:gStmt→Int→Option ((List gQuad))}(hFr13:c115Q Fr13)(hFr14:c144Q Fr14)(hFr15:c145Q Fr15)(hFr16:c128Q Fr16){p0:gStmt}{p1:Int}{r:List gQuad}(H:vX Fr13 Fr14 Fr15 Fr16 p0 p1=some r):APure Tryz.prog G 145 [.agg [.int .i64 p0.Kind,.int .i64 p0.Var,.int .i64 p0.Box,.int .i64 p0.Expr.Op,.int .i64 p0.Expr.N,.fsl (eL rExpr p0.Expr.Args),.fsl (eL rStmt p0.Body),.fsl (eL rStmt p0.Else)],.int .i64 p1] (.fsl (eL rQuad r)):=by
 refine zE (fun N0=>?_) (by simp)
 refine fnK tok Tryz.func145 Tryz.ntmps145 Tryz.results145 ?_
 simp only[argsA,Nat.reduceAdd,hpN]
 unfold vX at H
 refine S0 tok [0] [1,2] ?_
 obtain⟨r1,hr1,H⟩:=bE H
 refine jV tok [] [1,2,5] (fun a σ=>∃M1 o1:Nat,N0+6≤M1∧N0+6≤o1∧o1<M1∧a=[(1,.int .i64 p1),(2,.fptr [.int .i64 p0.Kind,.int .i64 p0.Var,.int .i64 p0.Box,.int .i64 p0.Expr.Op,.int .i64 p0.Expr.N,.fsl (eL rExpr p0.Expr.Args),.fsl (eL rStmt p0.Body),.fsl (eL rStmt p0.Else)] 0),(5,.sl o1 0 r1.length)]∧σ=hp E0 [(o1,some ⟨36,5,eL rQuad r1⟩)] M1) (fun K hK=>?_) ?_
 ·skip
  simp -dsimp -implicitDefEqProofs
  refine(c143_o (H:=hr1)).mono ?_;rintro _ _ ⟨M1,o1,fM1_0,fM1_1,fM1_2,rfl,rfl⟩;simp only[hpN] at fM1_0 fM1_1 fM1_2
  try simp -dsimp -implicitDefEqProofs [hoS,hoN]
  exact hK _ _ ⟨M1,o1,(by omega),(by omega),(by omega),rfl,rfl⟩
 rintro a σ ⟨M1,o1,fM1_0,fM1_1,fM1_2,rfl,rfl⟩
 obtain⟨r2,hr2,H⟩:=bE H
 refine Sx tok [] [1,5,6] (by intro K k;(repeat first|simp -dsimp -implicitDefEqProofs|refine(hFr13 hr2).app ?_);exact k) ?_
 obtain⟨l3,hl3,H⟩:=bE H
 have q0:∀σ i,bsA T 34 true i 1 [(0,.agg [.int .i64 5,.int .i64 0,.int .i64 4,.int .i64 0,.int .i64 (iadd .i64 (iadd .i64 (iadd .i64 (iadd .i64 p1 (ilen r1)) 1) (ilen r2)) 1)])] σ=some (.fsl (eL rQuad ([(⟨5,0,4,0,iadd .i64 (iadd .i64 (iadd .i64 (iadd .i64 p1 (ilen r1)) 1) (ilen r2)) 1⟩:gQuad)]:List gQuad)),σ):=fun _ _=>rfl
 refine Sx tok [11] [1,5,6] (by
  intro K k
  have e0:=nQ o1 (M1+21)
  simp -dsimp -implicitDefEqProofs [e0,q0,app34 hl3]
  exact k) ?_
 obtain⟨l4,hl4,H⟩:=bE H
 refine Sx tok [] [1,5] (by intro K k;simp -dsimp -implicitDefEqProofs [app34 hl4];exact k) ?_
 obtain⟨l5,hl5,H⟩:=bE H
 have q1:∀σ i,bsA T 34 true i 1 [(0,.agg [.int .i64 4,.int .i64 0,.int .i64 0,.int .i64 0,.int .i64 p1])] σ=some (.fsl (eL rQuad ([(⟨4,0,0,0,p1⟩:gQuad)]:List gQuad)),σ):=fun _ _=>rfl
 refine Sx tok [3] [4] (by intro K k;simp -dsimp -implicitDefEqProofs [q1,app34 hl5];exact k) ?_
 refine gFrz Wre 4 [M1+31] [] [(4,.fsl (eL rQuad l5))] (by simp) (cutD (by simp)) ?_
 obtain rfl:=oi H;exact Wr ⟨_,rfl,4,by simp[eN]⟩

theorem c128B {Fr13:(List gStmt)→Int→Option ((List gQuad))}{Fr14:gStmt→Int→Option ((List gQuad))}{Fr15:gStmt→Int→Option ((List gQuad))}{Fr16:gStmt→Int→Option ((List gQuad))}(hFr13:c115Q Fr13)(hFr14:c144Q Fr14)(hFr15:c145Q Fr15)(hFr16:c128Q Fr16){p0:gStmt}{p1:Int}{r:List gQuad}(H:tM Fr13 Fr14 Fr15 Fr16 p0 p1=some r):APure Tryz.prog G 128 [.agg [.int .i64 p0.Kind,.int .i64 p0.Var,.int .i64 p0.Box,.int .i64 p0.Expr.Op,.int .i64 p0.Expr.N,.fsl (eL rExpr p0.Expr.Args),.fsl (eL rStmt p0.Body),.fsl (eL rStmt p0.Else)],.int .i64 p1] (.fsl (eL rQuad r)):=by
 refine zE (fun N0=>?_) (by simp)
 refine fnK tok Tryz.func128 Tryz.ntmps128 Tryz.results128 ?_
 simp only[argsA,Nat.reduceAdd,hpN]
 unfold tM at H
 refine S0 tok [0] [1,2] ?_
 obtain⟨r1,hr1,H⟩:=bE H
 refine jV tok [] [1,2,5] (fun a σ=>∃M1 o1:Nat,N0+6≤M1∧N0+6≤o1∧o1<M1∧a=[(1,.int .i64 p1),(2,.fptr [.int .i64 p0.Kind,.int .i64 p0.Var,.int .i64 p0.Box,.int .i64 p0.Expr.Op,.int .i64 p0.Expr.N,.fsl (eL rExpr p0.Expr.Args),.fsl (eL rStmt p0.Body),.fsl (eL rStmt p0.Else)] 0),(5,.sl o1 0 r1.length)]∧σ=hp E0 [(o1,some ⟨36,5,eL rQuad r1⟩)] M1) (fun K hK=>?_) ?_
 ·skip
  simp -dsimp -implicitDefEqProofs
  refine(c143_o (H:=hr1)).mono ?_;rintro _ _ ⟨M1,o1,fM1_0,fM1_1,fM1_2,rfl,rfl⟩;simp only[hpN] at fM1_0 fM1_1 fM1_2
  try simp -dsimp -implicitDefEqProofs [hoS,hoN]
  exact hK _ _ ⟨M1,o1,(by omega),(by omega),(by omega),rfl,rfl⟩
 rintro a σ ⟨M1,o1,fM1_0,fM1_1,fM1_2,rfl,rfl⟩
 refine Wsq [] fun K1 hK1=>?_
 refine S0 tok [] [1,2,5,10] ?_
 refine Wbl (Wth ?_)
 refine S0 tok [] [1,2,5,10,11] ?_
 refine Ci H (fun H=>?_) fun H=>?_
 ·obtain⟨r2,hr2,H⟩:=bE H
  refine Sx tok [] [4] (by intro K k;(repeat first|simp -dsimp -implicitDefEqProofs|refine(hFr14 hr2).app ?_);exact k) ?_
  obtain rfl:=oi H;exact Wr ⟨_,rfl,4,by simp[eN]⟩
 refine S0 tok [] [1,2,5,10,16] ?_
 refine Ci H (fun H=>?_) fun H=>?_
 ·obtain⟨r3,hr3,H⟩:=bE H
  refine Sx tok [] [4] (by intro K k;(repeat first|simp -dsimp -implicitDefEqProofs|refine(hFr15 hr3).app ?_);exact k) ?_
  obtain rfl:=oi H;exact Wr ⟨_,rfl,4,by simp[eN]⟩
 refine S0 tok [] [2,5,10,21] ?_
 refine Ci H (fun H=>?_) fun H=>?_
 ·obtain⟨l4,hl4,H⟩:=bE H
  have q0:∀σ i,bsA T 34 true i 1 [(0,.agg [.int .i64 2,.int .i64 p0.Var,.int .i64 4,.int .i64 0,.int .i64 0])] σ=some (.fsl (eL rQuad ([(⟨2,p0.Var,4,0,0⟩:gQuad)]:List gQuad)),σ):=fun _ _=>rfl
  refine Sx tok [4] [4] (by
   intro K k
   have e0:=nQ o1 (M1+13)
   simp -dsimp -implicitDefEqProofs [e0,q0,app34 hl4]
   exact k) ?_
  refine gFrz Wre 4 [M1+13] [] [(4,.fsl (eL rQuad l4))] (by simp) (cutD (by simp)) ?_
  obtain rfl:=oi H;exact Wr ⟨_,rfl,4,by simp[eN]⟩
 refine S0 tok [] [2,5,10,29] ?_
 refine Ci H (fun H=>?_) fun H=>?_
 ·obtain⟨l5,hl5,H⟩:=bE H
  have q1:∀σ i,bsA T 34 true i 1 [(0,.agg [.int .i64 6,.int .i64 0,.int .i64 4,.int .i64 0,.int .i64 p0.Box])] σ=some (.fsl (eL rQuad ([(⟨6,0,4,0,p0.Box⟩:gQuad)]:List gQuad)),σ):=fun _ _=>rfl
  refine Sx tok [4] [4] (by
   intro K k
   have e0:=nQ o1 (M1+15)
   simp -dsimp -implicitDefEqProofs [e0,q1,app34 hl5]
   exact k) ?_
  refine gFrz Wre 4 [M1+15] [] [(4,.fsl (eL rQuad l5))] (by simp) (cutD (by simp)) ?_
  obtain rfl:=oi H;exact Wr ⟨_,rfl,4,by simp[eN]⟩
 refine S0 tok [] [2,5,10,37] ?_
 refine Ci H (fun H=>?_) fun H=>?_
 ·obtain⟨l6,hl6,H⟩:=bE H
  have q2:∀σ i,bsA T 34 true i 1 [(0,.agg [.int .i64 9,.int .i64 0,.int .i64 4,.int .i64 0,.int .i64 0])] σ=some (.fsl (eL rQuad ([(⟨9,0,4,0,0⟩:gQuad)]:List gQuad)),σ):=fun _ _=>rfl
  refine Sx tok [2] [4] (by
   intro K k
   have e0:=nQ o1 (M1+15)
   simp -dsimp -implicitDefEqProofs [e0,q2,app34 hl6]
   exact k) ?_
  refine gFrz Wre 4 [M1+15] [] [(4,.fsl (eL rQuad l6))] (by simp) (cutD (by simp)) ?_
  obtain rfl:=oi H;exact Wr ⟨_,rfl,4,by simp[eN]⟩
 refine S0 tok [] [2,43] ?_
 refine Ci H (fun H=>?_) fun H=>?_
 ·have q3:∀σ i,bsA T 34 true i 1 [(0,.agg [.int .i64 7,.int .i64 p0.Var,.int .i64 0,.int .i64 0,.int .i64 p0.Box])] σ=some (.fsl (eL rQuad ([(⟨7,p0.Var,0,0,p0.Box⟩:gQuad)]:List gQuad)),σ):=fun _ _=>rfl
  refine Sx tok [5] [4] (by intro K k;simp -dsimp -implicitDefEqProofs [q3];exact k) ?_
  obtain rfl:=oi H;exact Wr ⟨_,rfl,4,by simp[eN]⟩
 refine Wsk (Jn hK1 ?_)
 have q4:∀σ i,bsA T 34 true i 1 [(0,.agg [.int .i64 8,.int .i64 0,.int .i64 0,.int .i64 0,.int .i64 0])] σ=some (.fsl (eL rQuad ([(⟨8,0,0,0,0⟩:gQuad)]:List gQuad)),σ):=fun _ _=>rfl
 refine Sx tok [1] [4] (by intro K k;simp -dsimp -implicitDefEqProofs [q4];exact k) ?_
 obtain rfl:=oi H;exact Wr ⟨_,rfl,4,by simp[eN]⟩

theorem c115R:∀n:Nat,c115Q ((zL n).1)∧c144Q ((zL n).2.1)∧c145Q ((zL n).2.2.1)∧c128Q ((zL n).2.2.2):=by
 intro n;induction n with
 |zero=>exact⟨by intro p0 p1 r H;exact absurd H (by simp[zL]),by intro p0 p1 r H;exact absurd H (by simp[zL]),by intro p0 p1 r H;exact absurd H (by simp[zL]),by intro p0 p1 r H;exact absurd H (by simp[zL])⟩
 |succ n ih=>exact⟨by intro p0 p1 r H;exact c115B (hFr13:=ih.1) (hFr14:=ih.2.1) (hFr15:=ih.2.2.1) (hFr16:=ih.2.2.2) H,by intro p0 p1 r H;exact c144B (hFr13:=ih.1) (hFr14:=ih.2.1) (hFr15:=ih.2.2.1) (hFr16:=ih.2.2.2) H,by intro p0 p1 r H;exact c145B (hFr13:=ih.1) (hFr14:=ih.2.1) (hFr15:=ih.2.2.1) (hFr16:=ih.2.2.2) H,by intro p0 p1 r H;exact c128B (hFr13:=ih.1) (hFr14:=ih.2.1) (hFr15:=ih.2.2.1) (hFr16:=ih.2.2.2) H⟩

theorem c128 {p0:gStmt}{p1:Int}{r:List gQuad}(H:gC p0 p1=some r):APure Tryz.prog G 128 [.agg [.int .i64 p0.Kind,.int .i64 p0.Var,.int .i64 p0.Box,.int .i64 p0.Expr.Op,.int .i64 p0.Expr.N,.fsl (eL rExpr p0.Expr.Args),.fsl (eL rStmt p0.Body),.fsl (eL rStmt p0.Else)],.int .i64 p1] (.fsl (eL rQuad r)):=by
 unfold gC at H
 obtain⟨n,H⟩:=tR H
 exact(c115R n).2.2.2 H

theorem c115_o {p0:List gStmt}{p1:Int}{r:List gQuad}(H:pT p0 p1=some r){σ:AHeap}:ACalls Tryz.prog G 115 [.fsl (eL rStmt p0),.int .i64 p1] σ (fun v σ'=>∃M n0:Nat,σ.next≤M∧σ.next≤n0∧n0<M∧v=.sl n0 0 r.length∧σ'=hp σ.objs [(n0,some ⟨36,5,eL rQuad r⟩)] M):=by
 refine fr2 [] (by simp) (fun hlt=>?_) ⟨_,Tryz.func115,rfl,rfl⟩
 generalize σ.next=N0 at hlt ⊢
 refine fnK tok Tryz.func115 Tryz.ntmps115 Tryz.results115 ?_
 simp only[argsA,Nat.reduceAdd,hpN]
 unfold pT at H
 refine S0 tok [] [0,1] ?_
 have q0:∀σ i,bsA T 34 true i 0 [] σ=some (.esl,σ):=fun _ _=>rfl
 refine Sx tok [0] [0,1,5] (by intro K k;simp -dsimp -implicitDefEqProofs [q0];exact k) ?_
 refine Wsq [5] fun K1 hK1=>?_
 refine S0 tok [] [0,1,5,6] ?_
 refine Wbl (Wth ?_)
 obtain⟨e1,hse1,H⟩:=bE H
 refine zS [0,1,5,6] (fun s a σ=>∃M1 o1:Nat,N0≤M1∧N0≤o1∧o1<M1∧a=[(0,.fsl (eL rStmt p0)),(1,.int .i64 p1),(5,.sl o1 0 s.2.length),(6,.int .i64 s.1)]∧σ=hp E0 [(o1,some ⟨36,5,eL rQuad s.2⟩)] M1) (fun s x a σ=>x=.exit 0∧Rc G 26 N0 (fun a σ=>∃M2 o2:Nat,N0≤M2∧N0≤o2∧o2<M2∧a=[(5,.sl o2 0 s.length)]∧σ=hp E0 [(o2,some ⟨36,5,eL rQuad s⟩)] M2) (AAct.keep a [5]) σ) hse1 ?_ ?_ ?_
 ·refine Rc.kp [0,1,5,6] [(0,.fsl (eL rStmt p0)),(1,.int .i64 p1),(5,.esl),(6,.int .i64 0)] rfl ?_
  refine gNilS zK 5 36 5 [(N0+4,some ⟨36,5,eL rQuad ([]:List gQuad)⟩)] [(0,.fsl (eL rStmt p0)),(1,.int .i64 p1),(5,.sl (N0+4) 0 ([]:List gQuad).length),(6,.int .i64 0)] (by simp(disch:=omega)) (by simp(disch:=omega) [eN]) [0,1,5,6] rfl ?_
  exact Rf ⟨N0+5,(N0+4),(by omega),(by omega),(by omega),rfl,rfl⟩
 ·clear H hse1
  rintro⟨s1,s2⟩ fl a σ H ⟨M1,o1,fM1_0,fM1_1,fM1_2,rfl,rfl⟩ K2 O2 hK2 hO2
  unfold sP at H;dsimp only at H
  refine Wsq [0,1,5,6] fun K3 hK3=>?_
  refine S0 tok [] [0,1,5,6,11] ?_
  refine Ci H (fun H=>?_) fun H=>?_
  ·refine Wsk (Jn hK3 ?_)
   refine Wsq [0,1,5,6] fun K4 hK4=>?_
   refine Wbl (Wth ?_)
   obtain⟨v4,hv4,H⟩:=bE H
   obtain⟨r5,hr5,H⟩:=bE H
   obtain⟨l6,hl6,H⟩:=bE H
   refine Rt tok [] [0,1,5,6] (by
    intro K k
    have e0:=nQ o1 (M1+14)
    repeat first|simp -dsimp -implicitDefEqProofs [e0,ix124 hv4,app34 hl6]|refine(c128 hr5).app ?_
    exact k) fun a ha=>?_
   refine hK4 _ _ ?_;rw[ha]
   refine Rc.mk ?_
   refine Rt0 tok [] [0,1,5,6] fun a ha=>?_
   obtain rfl:=oi H
   refine hK2 _ _ _ rfl ?_;rw[ha]
   exact Rf ⟨M1+19,(M1+14),(by omega),(by omega),(by omega),rfl,rfl⟩
  obtain rfl:=oi H
  refine zJ (hO2 _ _ _ _ rfl ⟨rfl,?_⟩)
  refine Rc.rw (l:=[5]) (X:=[(5,.sl o1 0 s2.length)]) rfl ?_
  exact Rf ⟨M1+4,o1,(by omega),(by omega),(by omega),rfl,rfl⟩
 intro x a σ hx
 obtain⟨y3,rfl⟩:∃x,x=e1:=⟨_,rfl⟩
 obtain⟨rfl,b,τ,hr,M2,o2,fM2_0,fM2_1,fM2_2,rfl,rfl⟩:=hx
 (try dsimp only at H)
 show K1 _ _
 refine hK1 _ _ (zK hr ?_)
 refine Rc.mk ?_
 refine S0 tok [] [4] ?_
 obtain rfl:=oi H
 refine Kp [4] ?_
 refine Wr ?_
 refine⟨[.sl o2 0 y3.length],by simp,M2+2,o2,by omega,by omega,by omega,?_,?_⟩
 ·simp[eN]
 first|rfl|simp

theorem c99 {p0:List gStmt}{r:(List gQuad)×Bool}(H:xX p0=some r):APure Tryz.prog G 99 [.fsl (eL rStmt p0)] (.tup [.fsl (eL rQuad r.1),.bool r.2]):=by
 refine zE (fun N0=>?_) (by simp)
 refine fnK tok Tryz.func99 Tryz.ntmps99 Tryz.results99 ?_
 simp only[argsA,Nat.reduceAdd,hpN]
 unfold xX at H
 refine S0 tok [] [0] ?_
 refine Wsq [0] fun K1 hK1=>?_
 obtain⟨r1,hr1,H⟩:=bE H
 refine Sx tok [] [0,6] (by intro K k;(repeat first|simp -dsimp -implicitDefEqProofs|refine(c114 hr1).app ?_);exact k) ?_
 refine Ci H (fun H=>?_) fun H=>?_
 ·have q0:∀σ i,bsA T 34 true i 0 [] σ=some (.esl,σ):=fun _ _=>rfl
  refine Sx tok [0] [2,3] (by intro K k;simp -dsimp -implicitDefEqProofs [q0];exact k) ?_
  obtain rfl:=oi H;exact Wr ⟨_,rfl,4,by simp[eN]⟩
 refine Wsk (Jn hK1 ?_)
 obtain⟨r2,hr2,H⟩:=bE H
 obtain⟨l3,hl3,H⟩:=bE H
 have q1:∀σ i,bsA T 34 true i 1 [(0,.agg [.int .i64 10,.int .i64 0,.int .i64 0,.int .i64 0,.int .i64 0])] σ=some (.fsl (eL rQuad ([(⟨10,0,0,0,0⟩:gQuad)]:List gQuad)),σ):=fun _ _=>rfl
 refine jV tok [3] [2,3] (fun a σ=>∃M1 o1:Nat,N0+12≤M1∧N0+12≤o1∧o1<M1∧a=[(2,.sl (N0+9) 0 l3.length),(3,.bool true)]∧σ=hp E0 [(N0+9,some ⟨36,5,eL rQuad l3⟩)] M1) (fun K hK=>?_) ?_
 ·skip
  simp -dsimp -implicitDefEqProofs [q1,app34 hl3]
  refine(c115_o (H:=hr2)).mono ?_;rintro _ _ ⟨M1,o1,fM1_0,fM1_1,fM1_2,rfl,rfl⟩;simp only[hpN] at fM1_0 fM1_1 fM1_2
  have eM1_0:=nQ o1 (N0+9)
  try simp -dsimp -implicitDefEqProofs [q1,app34 hl3,eM1_0,hoS,hoN]
  exact hK _ _ ⟨M1,o1,(by omega),(by omega),(by omega),rfl,rfl⟩
 rintro a σ ⟨M1,o1,fM1_0,fM1_1,fM1_2,rfl,rfl⟩
 refine gFrz Wre 4 [N0+9] [] [(2,.fsl (eL rQuad l3)),(3,.bool true)] (by simp) (cutD (by simp)) ?_
 obtain rfl:=oi H;exact Wr ⟨_,rfl,4,by simp[eN]⟩

theorem c162 {p0:Int}{p1:Bool}{r:Bool}(H:sF p0 p1=some r):APure Tryz.prog G 162 [.int .i64 p0,.bool p1] (.bool r):=by
 refine zE (fun N0=>?_) (by simp)
 refine fnK tok Tryz.func162 Tryz.ntmps162 Tryz.results162 ?_
 simp only[argsA,Nat.reduceAdd,hpN]
 unfold sF at H
 refine S0 tok [] [0,1] ?_
 refine Wsq [0] fun K1 hK1=>?_
 refine S0 tok [] [0,5] ?_
 refine Ci H (fun H=>?_) fun H=>?_
 ·obtain⟨r1,hr1,H⟩:=bE H
  refine Sx tok [] [4] (by intro K k;(repeat first|simp -dsimp -implicitDefEqProofs|refine(c66 hr1).app ?_);exact k) ?_
  obtain rfl:=oi H;exact Wr ⟨_,rfl,4,by simp[eN]⟩
 refine Wsk (Jn hK1 ?_)
 refine S0 tok [] [4] ?_
 obtain rfl:=oi H;exact Wr ⟨_,rfl,4,by simp[eN]⟩

theorem c135 {p0:gQuad}{p1:Bool}{p2:Bool}{p3:Bool}{r:Bool}(H:yG p0 p1 p2 p3=some r):APure Tryz.prog G 135 [.agg [.int .i64 p0.Op,.int .i64 p0.Dst,.int .i64 p0.A,.int .i64 p0.B,.int .i64 p0.N],.bool p1,.bool p2,.bool p3] (.bool r):=by
 refine zE (fun N0=>?_) (by simp)
 refine fnK tok Tryz.func135 Tryz.ntmps135 Tryz.results135 ?_
 simp only[argsA,Nat.reduceAdd,hpN]
 unfold yG at H
 refine S0 tok [0] [1,2,3,4] ?_
 obtain⟨r1,hr1,H⟩:=bE H
 obtain⟨g3,hg3,H⟩:=bE H
 obtain⟨g5,hg5,H⟩:=bE H
 refine Sx tok [] [8] (X:=[(8,.bool g5)]) (Y:=hp E0 [] (N0+19)) (by
  intro K k
  simp -dsimp -implicitDefEqProofs
  refine(c162 hr1).app ?_;try simp -dsimp -implicitDefEqProofs
  cases hbg3:r1
  ·obtain rfl:=oi (ifF hbg3 hg3)
   obtain rfl:=oi (ifF rfl hg5)
   try simp -dsimp -implicitDefEqProofs [hbg3]
   exact k
  replace hg3:=ifT hbg3 hg3
  obtain⟨r2,hr2,hg3⟩:=bE hg3
  obtain rfl:=oi hg3
  try simp -dsimp -implicitDefEqProofs [hbg3]
  refine(c162 hr2).app ?_;try simp -dsimp -implicitDefEqProofs [hbg3]
  cases hbg5:r2
  ·obtain rfl:=oi (ifF hbg5 hg5)
   try simp -dsimp -implicitDefEqProofs [hbg3,hbg5]
   exact k
  replace hg5:=ifT hbg5 hg5
  obtain⟨r4,hr4,hg5⟩:=bE hg5
  obtain rfl:=oi hg5
  try simp -dsimp -implicitDefEqProofs [hbg3,hbg5]
  refine(c162 hr4).app ?_;try simp -dsimp -implicitDefEqProofs [hbg3,hbg5]
  exact k) ?_
 obtain rfl:=oi H;exact Wr ⟨_,rfl,4,by simp[eN]⟩

theorem c106 {p0:Int}{r:Bool}(H:kU p0=some r):APure Tryz.prog G 106 [.int .i64 p0] (.bool r):=by
 refine zE (fun N0=>?_) (by simp)
 refine fnK tok Tryz.func106 Tryz.ntmps106 Tryz.results106 ?_
 simp only[argsA,Nat.reduceAdd,hpN]
 unfold kU at H
 refine S0 tok [] [0] ?_
 obtain⟨r1,hr1,H⟩:=bE H
 refine Sx tok [] [2] (by intro K k;(repeat first|simp -dsimp -implicitDefEqProofs|refine(c66 hr1).app ?_);exact k) ?_
 obtain rfl:=oi H;exact Wr ⟨_,rfl,4,by simp[eN]⟩

theorem c119 {p0:gQuad}{p1:Int}{r:Bool}(H:yR p0 p1=some r):APure Tryz.prog G 119 [.agg [.int .i64 p0.Op,.int .i64 p0.Dst,.int .i64 p0.A,.int .i64 p0.B,.int .i64 p0.N],.int .i64 p1] (.bool r):=by
 refine zE (fun N0=>?_) (by simp)
 refine fnK tok Tryz.func119 Tryz.ntmps119 Tryz.results119 ?_
 simp only[argsA,Nat.reduceAdd,hpN]
 unfold yR at H
 refine S0 tok [0] [1,2] ?_
 refine Wsq [] fun K1 hK1=>?_
 refine S0 tok [] [1,2,6] ?_
 refine Wbl (Wth ?_)
 refine S0 tok [] [1,2,6,7] ?_
 refine Ci H (fun H=>?_) fun H=>?_
 ·obtain⟨r1,hr1,H⟩:=bE H
  obtain⟨g3,hg3,H⟩:=bE H
  refine Sx tok [] [4] (X:=[(4,.bool g3)]) (Y:=hp E0 [] (N0+14)) (by
   intro K k
   simp -dsimp -implicitDefEqProofs
   refine(c135 hr1).app ?_;try simp -dsimp -implicitDefEqProofs
   cases hbg3:r1
   ·obtain rfl:=oi (ifF hbg3 hg3)
    try simp -dsimp -implicitDefEqProofs [hbg3]
    exact k
   replace hg3:=ifT hbg3 hg3
   obtain⟨r2,hr2,hg3⟩:=bE hg3
   obtain rfl:=oi hg3
   try simp -dsimp -implicitDefEqProofs [hbg3]
   refine(c106 hr2).app ?_;try simp -dsimp -implicitDefEqProofs [hbg3]
   exact k) ?_
  obtain rfl:=oi H;exact Wr ⟨_,rfl,4,by simp[eN]⟩
 refine S0 tok [] [1,2,6,16] ?_
 refine Ci H (fun H=>?_) fun H=>?_
 ·obtain⟨r4,hr4,H⟩:=bE H
  obtain⟨g5,hg5,H⟩:=bE H
  refine Sx tok [] [4] (X:=[(4,.bool g5)]) (Y:=hp E0 [] (N0+16)) (by
   intro K k
   simp -dsimp -implicitDefEqProofs
   refine(c135 hr4).app ?_;try simp -dsimp -implicitDefEqProofs
   cases hbg5:r4
   ·obtain rfl:=oi (ifF hbg5 hg5)
    try simp -dsimp -implicitDefEqProofs [hbg5]
    exact k
   obtain rfl:=oi (ifT hbg5 hg5)
   try simp -dsimp -implicitDefEqProofs [hbg5]
   exact k) ?_
  obtain rfl:=oi H;exact Wr ⟨_,rfl,4,by simp[eN]⟩
 refine S0 tok [] [1,2,6,25] ?_
 refine Ci H (fun H=>?_) fun H=>?_
 ·obtain⟨r6,hr6,H⟩:=bE H
  obtain⟨g8,hg8,H⟩:=bE H
  refine Sx tok [] [4] (X:=[(4,.bool g8)]) (Y:=hp E0 [] (N0+18)) (by
   intro K k
   simp -dsimp -implicitDefEqProofs
   refine(c135 hr6).app ?_;try simp -dsimp -implicitDefEqProofs
   cases hbg8:r6
   ·obtain rfl:=oi (ifF hbg8 hg8)
    try simp -dsimp -implicitDefEqProofs [hbg8]
    exact k
   replace hg8:=ifT hbg8 hg8
   obtain⟨r7,hr7,hg8⟩:=bE hg8
   obtain rfl:=oi hg8
   try simp -dsimp -implicitDefEqProofs [hbg8]
   refine(c136 hr7).app ?_;try simp -dsimp -implicitDefEqProofs [hbg8]
   exact k) ?_
  obtain rfl:=oi H;exact Wr ⟨_,rfl,4,by simp[eN]⟩
 refine S0 tok [] [1,2,6,34] ?_
 refine Ci H (fun H=>?_) fun H=>?_
 ·obtain⟨r9,hr9,H⟩:=bE H
  obtain⟨g10,hg10,H⟩:=bE H
  obtain⟨g11,hg11,H⟩:=bE H
  refine Sx tok [] [4] (X:=[(4,.bool g11)]) (Y:=hp E0 [] (N0+26)) (by
   intro K k
   simp -dsimp -implicitDefEqProofs
   refine(c135 hr9).app ?_;try simp -dsimp -implicitDefEqProofs
   cases hbg10:r9
   ·obtain rfl:=oi (ifF hbg10 hg10)
    obtain rfl:=oi (ifF rfl hg11)
    try simp -dsimp -implicitDefEqProofs [hbg10]
    exact k
   obtain rfl:=oi (ifT hbg10 hg10)
   try simp -dsimp -implicitDefEqProofs [hbg10]
   cases hbg11:(ige p0.N 0)
   ·obtain rfl:=oi (ifF hbg11 hg11)
    try simp -dsimp -implicitDefEqProofs [hbg10,hbg11]
    exact k
   obtain rfl:=oi (ifT hbg11 hg11)
   try simp -dsimp -implicitDefEqProofs [hbg10,hbg11]
   exact k) ?_
  obtain rfl:=oi H;exact Wr ⟨_,rfl,4,by simp[eN]⟩
 refine S0 tok [] [1,2,6,49] ?_
 refine Ci H (fun H=>?_) fun H=>?_
 ·obtain⟨r12,hr12,H⟩:=bE H
  obtain⟨g13,hg13,H⟩:=bE H
  obtain⟨g14,hg14,H⟩:=bE H
  refine Sx tok [] [4] (X:=[(4,.bool g14)]) (Y:=hp E0 [] (N0+28)) (by
   intro K k
   simp -dsimp -implicitDefEqProofs
   refine(c135 hr12).app ?_;try simp -dsimp -implicitDefEqProofs
   cases hbg13:r12
   ·obtain rfl:=oi (ifF hbg13 hg13)
    obtain rfl:=oi (ifF rfl hg14)
    try simp -dsimp -implicitDefEqProofs [hbg13]
    exact k
   obtain rfl:=oi (ifT hbg13 hg13)
   try simp -dsimp -implicitDefEqProofs [hbg13]
   cases hbg14:(ige p0.N 0)
   ·obtain rfl:=oi (ifF hbg14 hg14)
    try simp -dsimp -implicitDefEqProofs [hbg13,hbg14]
    exact k
   obtain rfl:=oi (ifT hbg14 hg14)
   try simp -dsimp -implicitDefEqProofs [hbg13,hbg14]
   exact k) ?_
  obtain rfl:=oi H;exact Wr ⟨_,rfl,4,by simp[eN]⟩
 refine S0 tok [] [2,6,64] ?_
 refine Ci H (fun H=>?_) fun H=>?_
 ·obtain⟨r15,hr15,H⟩:=bE H
  obtain⟨g17,hg17,H⟩:=bE H
  refine Sx tok [] [4] (X:=[(4,.bool g17)]) (Y:=hp E0 [] (N0+24)) (by
   intro K k
   simp -dsimp -implicitDefEqProofs
   refine(c135 hr15).app ?_;try simp -dsimp -implicitDefEqProofs
   cases hbg17:r15
   ·obtain rfl:=oi (ifF hbg17 hg17)
    try simp -dsimp -implicitDefEqProofs [hbg17]
    exact k
   replace hg17:=ifT hbg17 hg17
   obtain⟨r16,hr16,hg17⟩:=bE hg17
   obtain rfl:=oi hg17
   try simp -dsimp -implicitDefEqProofs [hbg17]
   refine(c66 hr16).app ?_;try simp -dsimp -implicitDefEqProofs [hbg17]
   exact k) ?_
  obtain rfl:=oi H;exact Wr ⟨_,rfl,4,by simp[eN]⟩
 refine S0 tok [] [2,6,73] ?_
 refine Ci H (fun H=>?_) fun H=>?_
 ·obtain⟨r18,hr18,H⟩:=bE H
  obtain⟨g20,hg20,H⟩:=bE H
  refine Sx tok [] [4] (X:=[(4,.bool g20)]) (Y:=hp E0 [] (N0+26)) (by
   intro K k
   simp -dsimp -implicitDefEqProofs
   refine(c135 hr18).app ?_;try simp -dsimp -implicitDefEqProofs
   cases hbg20:r18
   ·obtain rfl:=oi (ifF hbg20 hg20)
    try simp -dsimp -implicitDefEqProofs [hbg20]
    exact k
   replace hg20:=ifT hbg20 hg20
   obtain⟨r19,hr19,hg20⟩:=bE hg20
   obtain rfl:=oi hg20
   try simp -dsimp -implicitDefEqProofs [hbg20]
   refine(c66 hr19).app ?_;try simp -dsimp -implicitDefEqProofs [hbg20]
   exact k) ?_
  obtain rfl:=oi H;exact Wr ⟨_,rfl,4,by simp[eN]⟩
 refine S0 tok [] [2,6,82] ?_
 refine Ci H (fun H=>?_) fun H=>?_
 ·obtain⟨r21,hr21,H⟩:=bE H
  obtain⟨g22,hg22,H⟩:=bE H
  refine Sx tok [] [4] (X:=[(4,.bool g22)]) (Y:=hp E0 [] (N0+28)) (by
   intro K k
   simp -dsimp -implicitDefEqProofs
   refine(c135 hr21).app ?_;try simp -dsimp -implicitDefEqProofs
   cases hbg22:r21
   ·obtain rfl:=oi (ifF hbg22 hg22)
    try simp -dsimp -implicitDefEqProofs [hbg22]
    exact k
   obtain rfl:=oi (ifT hbg22 hg22)
   try simp -dsimp -implicitDefEqProofs [hbg22]
   exact k) ?_
  obtain rfl:=oi H;exact Wr ⟨_,rfl,4,by simp[eN]⟩
 obtain⟨j1,hj1,H⟩:=bE H
 refine kR (kQ fun K2 hK2=>?_)
 have hJ1:∀a σ,Rc G 101 N0 (fun a σ=>∃M1:Nat,N0≤M1∧a=[(2,.fptr [.int .i64 p0.Op,.int .i64 p0.Dst,.int .i64 p0.A,.int .i64 p0.B,.int .i64 p0.N] 0),(91,.bool j1)]∧σ=hp E0 [] M1) (a.keep [2,91]) σ→K2 a σ:=by
  rintro a σ ⟨b,τ,hr,M1,fM1_0,rfl,rfl⟩
  refine hK2 _ _ (kI [2,91] (Wre hr ?_))
  refine Ci H (fun H=>?_) fun H=>?_
  ·obtain⟨r24,hr24,H⟩:=bE H
   obtain⟨g25,hg25,H⟩:=bE H
   refine Sx tok [] [4] (X:=[(4,.bool g25)]) (Y:=hp E0 [] (M1+8)) (by
    intro K k
    simp -dsimp -implicitDefEqProofs
    refine(c135 hr24).app ?_;try simp -dsimp -implicitDefEqProofs
    cases hbg25:r24
    ·obtain rfl:=oi (ifF hbg25 hg25)
     try simp -dsimp -implicitDefEqProofs [hbg25]
     exact k
    obtain rfl:=oi (ifT hbg25 hg25)
    try simp -dsimp -implicitDefEqProofs [hbg25]
    exact k) ?_
   obtain rfl:=oi H;exact Wr ⟨_,rfl,4,by simp[eN]⟩
  refine Wsk (Jn hK1 ?_)
  refine S0 tok [] [4] ?_
  obtain rfl:=oi H;exact Wr ⟨_,rfl,4,by simp[eN]⟩
 replace H:=hj1
 refine S0 tok [] [2,6,91] ?_
 refine Ci H (fun H=>?_) fun H=>?_
 ·refine Wsk ?_
  show K2 _ _
  refine kE [2,91] fun a' ha=>?_
  obtain rfl:=oi H
  refine hJ1 _ _ ?_;rw[ha]
  exact Rf ⟨N0+22,(by omega),rfl,rfl⟩
 refine Rt0 tok [] [2,91] fun a ha=>?_
 obtain rfl:=oi H
 refine hJ1 _ _ ?_;rw[ha]
 exact Rf ⟨N0+24,(by omega),rfl,rfl⟩

theorem c103 {p0:List gQuad}{r:Bool}(H:kC p0=some r):APure Tryz.prog G 103 [.fsl (eL rQuad p0)] (.bool r):=by
 refine zE (fun N0=>?_) (by simp)
 refine fnK tok Tryz.func103 Tryz.ntmps103 Tryz.results103 ?_
 simp only[argsA,Nat.reduceAdd,hpN]
 unfold kC at H
 refine S0 tok [] [0] ?_
 refine S0 tok [] [0,3] ?_
 refine Wsq [0,3] fun K1 hK1=>?_
 obtain⟨r1,hr1,H⟩:=bE H
 refine Sx tok [] [0,3,9] (by intro K k;(repeat first|simp -dsimp -implicitDefEqProofs|refine(c66 hr1).app ?_);exact k) ?_
 refine Ci H (fun H=>?_) fun H=>?_
 ·refine S0 tok [] [2] ?_
  obtain rfl:=oi H;exact Wr ⟨_,rfl,4,by simp[eN]⟩
 refine Wsk (Jn hK1 ?_)
 refine Wsq [0,3] fun K2 hK2=>?_
 refine S0 tok [] [0,3,4] ?_
 refine Wbl (Wth ?_)
 obtain⟨e1,hse1,H⟩:=bE H
 refine zS [0,3,4] (fun s a σ=>∃M1:Nat,N0≤M1∧a=[(0,.fsl (eL rQuad p0)),(3,.int .i64 (ilen p0)),(4,.int .i64 s)]∧σ=hp E0 [] M1) (fun e x a σ=>match e with|.inl s=>x=.exit 0∧Rc G 38 N0 (fun a σ=>∃M2:Nat,N0≤M2∧a=[(0,.fsl (eL rQuad p0)),(3,.int .i64 (ilen p0))]∧σ=hp E0 [] M2) (AAct.keep a [0,3]) σ|.inr s=>x=.ret∧∃vs,resA T σ a [.tmp 2]=some vs∧∃d,thawA (fun _=>true) σ d (tupA vs)=.bool s) hse1 ?_ ?_ ?_
 ·refine Rc.kp [0,3,4] [(0,.fsl (eL rQuad p0)),(3,.int .i64 (ilen p0)),(4,.int .i64 0)] rfl ?_
  exact Rf ⟨N0+8,(by omega),rfl,rfl⟩
 ·clear H hse1
  rintro s2 fl a σ H ⟨M1,fM1_0,rfl,rfl⟩ K3 O3 hK3 hO3
  unfold kS at H;dsimp only at H
  refine Wsq [0,3,4] fun K4 hK4=>?_
  refine S0 tok [] [0,3,4,12] ?_
  refine Ci H (fun H=>?_) fun H=>?_
  ·refine Wsk (Jn hK4 ?_)
   refine Wsq [0,3,4] fun K5 hK5=>?_
   refine Wbl (Wth ?_)
   obtain⟨v3,hv3,H⟩:=bE H
   obtain⟨r4,hr4,H⟩:=bE H
   refine Sx tok [] [0,3,4,21] (by intro K k;(repeat first|simp -dsimp -implicitDefEqProofs [ix34 hv3]|refine(c119 hr4).app ?_);exact k) ?_
   refine Ci H (fun H=>?_) fun H=>?_
   ·refine S0 tok [] [2] ?_
    obtain rfl:=oi H
    refine Kp [2] ?_
    refine Wr (hO3 _ _ _ _ rfl ⟨rfl,?_⟩)
    exact⟨[.bool false],by simp,4,by simp[eN]⟩
   refine Wsk (Jn hK5 ?_)
   refine Rt0 tok [] [0,3,4] fun a ha=>?_
   obtain rfl:=oi H
   refine hK3 _ _ _ rfl ?_;rw[ha]
   exact Rf ⟨M1+13,(by omega),rfl,rfl⟩
  obtain rfl:=oi H
  refine zJ (hO3 _ _ _ _ rfl ⟨rfl,?_⟩)
  refine Rc.rw (l:=[0,3]) (X:=[(0,.fsl (eL rQuad p0)),(3,.int .i64 (ilen p0))]) rfl ?_
  exact Rf ⟨M1+3,(by omega),rfl,rfl⟩
 intro x a σ hx
 rcases e1 with⟨⟩|r0
 ·obtain⟨rfl,b,τ,hr,M2,fM2_0,rfl,rfl⟩:=hx
  (try dsimp only at H)
  show K2 _ _
  refine hK2 _ _ (zK hr ?_)
  refine Rc.mk ?_
  obtain⟨v5,hv5,H⟩:=bE H
  obtain⟨g6,hg6,H⟩:=bE H
  refine Sx tok [] [2] (X:=[(2,.bool g6)]) (Y:=hp E0 [] (M2+17)) (by
   intro K k
   simp -dsimp -implicitDefEqProofs [ix34 hv5]
   cases hbg6:ieq v5.Op 10
   ·obtain rfl:=oi (ifF hbg6 hg6)
    try simp -dsimp -implicitDefEqProofs [ix34 hv5,hbg6]
    exact k
   obtain rfl:=oi (ifT hbg6 hg6)
   try simp -dsimp -implicitDefEqProofs [ix34 hv5,hbg6]
   exact k) ?_
  obtain rfl:=oi H;exact Wr ⟨_,rfl,4,by simp[eN]⟩
 obtain⟨rfl,hx2⟩:=hx
 (try dsimp only at H)
 obtain rfl:=oi H;first|exact hx2|(simp only[List.set_set] at hx2 ⊢;exact hx2)

theorem c176 {p0:List gQuad}{p1:Int}{r:List Int}(H:xM p0 p1=some r):APure Tryz.prog G 176 [.fsl (eL rQuad p0),.int .i64 p1] (.fsl (eL rI r)):=by
 refine zE (fun N0=>?_) (by simp)
 refine fnK tok Tryz.func176 Tryz.ntmps176 Tryz.results176 ?_
 simp only[argsA,Nat.reduceAdd,hpN]
 unfold xM at H
 refine S0 tok [] [0,1] ?_
 obtain⟨v1,hv1,H⟩:=bE H
 refine Sx tok [] [1,5] (by intro K k;simp -dsimp -implicitDefEqProofs [ix34 hv1];exact k) ?_
 refine Wsq [1] fun K1 hK1=>?_
 refine Wbl (Wth ?_)
 refine S0 tok [] [1,5,10] ?_
 refine Ci H (fun H=>?_) fun H=>?_
 ·have q0:∀σ i,bsA T 23 true i 0 [] σ=some (.esl,σ):=fun _ _=>rfl
  refine Sx tok [0] [4] (by intro K k;simp -dsimp -implicitDefEqProofs [q0];exact k) ?_
  obtain rfl:=oi H;exact Wr ⟨_,rfl,4,by simp[eN]⟩
 refine S0 tok [] [1,5,15] ?_
 refine Ci H (fun H=>?_) fun H=>?_
 ·have q1:∀σ i,bsA T 23 true i 1 [(0,.int .i64 v1.N)] σ=some (.fsl (eL rI ([v1.N]:List Int)),σ):=fun _ _=>rfl
  refine Sx tok [2] [4] (by intro K k;simp -dsimp -implicitDefEqProofs [q1];exact k) ?_
  obtain rfl:=oi H;exact Wr ⟨_,rfl,4,by simp[eN]⟩
 obtain⟨g2,hg2,H⟩:=bE H
 refine Sx tok [] [1,5,22] (X:=[(1,.int .i64 p1),(5,.ptr (N0+5) 0 0),(22,.bool g2)]) (Y:=hp E0 [(N0+5,some ⟨36,5,[[.int .i64 v1.Op,.int .i64 v1.Dst,.int .i64 v1.A,.int .i64 v1.B,.int .i64 v1.N]]⟩)] (N0+26)) (by
  intro K k
  simp -dsimp -implicitDefEqProofs
  cases hbg2:ieq v1.Op 5
  ·obtain rfl:=oi (ifF hbg2 hg2)
   try simp -dsimp -implicitDefEqProofs [hbg2]
   exact k
  obtain rfl:=oi (ifT hbg2 hg2)
  try simp -dsimp -implicitDefEqProofs [hbg2]
  exact k) ?_
 refine Ci H (fun H=>?_) fun H=>?_
 ·have q2:∀σ i,bsA T 23 true i 2 [(0,.int .i64 v1.N),(1,.int .i64 (iadd .i64 p1 1))] σ=some (.fsl (eL rI ([v1.N,iadd .i64 p1 1]:List Int)),σ):=fun _ _=>rfl
  refine Sx tok [4] [4] (by intro K k;simp -dsimp -implicitDefEqProofs [q2];exact k) ?_
  obtain rfl:=oi H;exact Wr ⟨_,rfl,4,by simp[eN]⟩
 obtain⟨g3,hg3,H⟩:=bE H
 refine Sx tok [] [1,5,38] (X:=[(1,.int .i64 p1),(5,.ptr (N0+5) 0 0),(38,.bool g3)]) (Y:=hp E0 [(N0+5,some ⟨36,5,[[.int .i64 v1.Op,.int .i64 v1.Dst,.int .i64 v1.A,.int .i64 v1.B,.int .i64 v1.N]]⟩)] (N0+37)) (by
  intro K k
  simp -dsimp -implicitDefEqProofs
  cases hbg3:ieq v1.Op 5
  ·obtain rfl:=oi (ifF hbg3 hg3)
   try simp -dsimp -implicitDefEqProofs [hbg3]
   exact k
  obtain rfl:=oi (ifT hbg3 hg3)
  try simp -dsimp -implicitDefEqProofs [hbg3]
  exact k) ?_
 refine Ci H (fun H=>?_) fun H=>?_
 ·have q3:∀σ i,bsA T 23 true i 2 [(0,.int .i64 (iadd .i64 p1 1)),(1,.int .i64 v1.N)] σ=some (.fsl (eL rI ([iadd .i64 p1 1,v1.N]:List Int)),σ):=fun _ _=>rfl
  refine Sx tok [4] [4] (by intro K k;simp -dsimp -implicitDefEqProofs [q3];exact k) ?_
  obtain rfl:=oi H;exact Wr ⟨_,rfl,4,by simp[eN]⟩
 refine Wsk (Jn hK1 ?_)
 have q4:∀σ i,bsA T 23 true i 1 [(0,.int .i64 (iadd .i64 p1 1))] σ=some (.fsl (eL rI ([iadd .i64 p1 1]:List Int)),σ):=fun _ _=>rfl
 refine Sx tok [2] [4] (by intro K k;simp -dsimp -implicitDefEqProofs [q4];exact k) ?_
 obtain rfl:=oi H;exact Wr ⟨_,rfl,4,by simp[eN]⟩

theorem c137 {p0:Bool}{r:Int}(H:mD p0=some r):APure Tryz.prog G 137 [.bool p0] (.int .i64 r):=by
 refine zE (fun N0=>?_) (by simp)
 refine fnK tok Tryz.func137 Tryz.ntmps137 Tryz.results137 ?_
 simp only[argsA,Nat.reduceAdd,hpN]
 unfold mD at H
 refine S0 tok [] [0] ?_
 refine Wsq [] fun K1 hK1=>?_
 refine S0 tok [] [3] ?_
 refine Ci H (fun H=>?_) fun H=>?_
 ·refine S0 tok [] [2] ?_
  obtain rfl:=oi H;exact Wr ⟨_,rfl,4,by simp[eN]⟩
 refine Wsk (Jn hK1 ?_)
 refine S0 tok [] [2] ?_
 obtain rfl:=oi H;exact Wr ⟨_,rfl,4,by simp[eN]⟩

theorem c138 {p0:Int}{p1:Int}{p2:Bool}{r:Int}(H:qE p0 p1 p2=some r):APure Tryz.prog G 138 [.int .i64 p0,.int .i64 p1,.bool p2] (.int .i64 r):=by
 refine zE (fun N0=>?_) (by simp)
 refine fnK tok Tryz.func138 Tryz.ntmps138 Tryz.results138 ?_
 simp only[argsA,Nat.reduceAdd,hpN]
 unfold qE at H
 refine S0 tok [] [0,1,2] ?_
 refine Wsq [0,1] fun K1 hK1=>?_
 refine S0 tok [] [0,1,7] ?_
 refine Ci H (fun H=>?_) fun H=>?_
 ·obtain⟨v1,hv1,H⟩:=bE H
  refine Sx tok [] [6] (by intro K k;simp -dsimp -implicitDefEqProofs [hv1];exact k) ?_
  obtain rfl:=oi H;exact Wr ⟨_,rfl,4,by simp[eN]⟩
 refine Wsk (Jn hK1 ?_)
 obtain⟨v2,hv2,H⟩:=bE H
 obtain⟨r3,hr3,H⟩:=bE H
 refine Sx tok [] [6] (by intro K k;(repeat first|simp -dsimp -implicitDefEqProofs [hv2]|refine(c139 hr3).app ?_);exact k) ?_
 obtain rfl:=oi H;exact Wr ⟨_,rfl,4,by simp[eN]⟩

theorem c140 {p0:Int}{p1:Int}{r:Int}(H:qG p0 p1=some r):APure Tryz.prog G 140 [.int .i64 p0,.int .i64 p1] (.int .i64 r):=by
 refine zE (fun N0=>?_) (by simp)
 refine fnK tok Tryz.func140 Tryz.ntmps140 Tryz.results140 ?_
 simp only[argsA,Nat.reduceAdd,hpN]
 unfold qG at H
 refine S0 tok [] [0,1] ?_
 refine Wsq [0,1] fun K1 hK1=>?_
 refine S0 tok [] [0,1,6] ?_
 refine Ci H (fun H=>?_) fun H=>?_
 ·refine S0 tok [] [4] ?_
  obtain rfl:=oi H;exact Wr ⟨_,rfl,4,by simp[eN]⟩
 refine Wsk (Jn hK1 ?_)
 obtain⟨v1,hv1,H⟩:=bE H
 obtain⟨r2,hr2,H⟩:=bE H
 refine Sx tok [] [4] (by intro K k;(repeat first|simp -dsimp -implicitDefEqProofs [hv1]|refine(c139 hr2).app ?_);exact k) ?_
 obtain rfl:=oi H;exact Wr ⟨_,rfl,4,by simp[eN]⟩

theorem c141 {p0:Int}{p1:Int}{r:Int}(H:qF p0 p1=some r):APure Tryz.prog G 141 [.int .i64 p0,.int .i64 p1] (.int .i64 r):=by
 refine zE (fun N0=>?_) (by simp)
 refine fnK tok Tryz.func141 Tryz.ntmps141 Tryz.results141 ?_
 simp only[argsA,Nat.reduceAdd,hpN]
 unfold qF at H
 refine S0 tok [] [0,1] ?_
 refine Wsq [0,1] fun K1 hK1=>?_
 refine S0 tok [] [0,1,6] ?_
 refine Ci H (fun H=>?_) fun H=>?_
 ·refine S0 tok [] [4] ?_
  obtain rfl:=oi H;exact Wr ⟨_,rfl,4,by simp[eN]⟩
 refine Wsk (Jn hK1 ?_)
 obtain⟨v1,hv1,H⟩:=bE H
 refine Sx tok [] [4] (by intro K k;simp -dsimp -implicitDefEqProofs [hv1];exact k) ?_
 obtain rfl:=oi H;exact Wr ⟨_,rfl,4,by simp[eN]⟩

theorem c123 {p0:Int}{p1:Int}{p2:Int}{r:Int×Bool}(H:pY p0 p1 p2=some r):APure Tryz.prog G 123 [.int .i64 p0,.int .i64 p1,.int .i64 p2] (.tup [.int .i64 r.1,.bool r.2]):=by
 refine zE (fun N0=>?_) (by simp)
 refine fnK tok Tryz.func123 Tryz.ntmps123 Tryz.results123 ?_
 simp only[argsA,Nat.reduceAdd,hpN]
 unfold pY at H
 refine S0 tok [] [0,1,2] ?_
 refine Wsq [0,1,2] fun K1 hK1=>?_
 obtain⟨r1,hr1,H⟩:=bE H
 obtain⟨g3,hg3,H⟩:=bE H
 obtain⟨g5,hg5,H⟩:=bE H
 refine Sx tok [] [0,1,2,20] (X:=[(0,.int .i64 p0),(1,.int .i64 p1),(2,.int .i64 p2),(20,.bool g5)]) (Y:=hp E0 [] (N0+15)) (by
  intro K k
  simp -dsimp -implicitDefEqProofs
  refine(c136 hr1).app ?_;try simp -dsimp -implicitDefEqProofs
  cases hbg3:bnot r1
  ·replace hg3:=ifF hbg3 hg3
   obtain⟨r2,hr2,hg3⟩:=bE hg3
   obtain rfl:=oi hg3
   try simp -dsimp -implicitDefEqProofs [hbg3]
   refine(c106 hr2).app ?_;try simp -dsimp -implicitDefEqProofs [hbg3]
   cases hbg5:(bnot r2)
   ·replace hg5:=ifF hbg5 hg5
    obtain⟨r4,hr4,hg5⟩:=bE hg5
    obtain rfl:=oi hg5
    try simp -dsimp -implicitDefEqProofs [hbg3,hbg5]
    refine(c106 hr4).app ?_;try simp -dsimp -implicitDefEqProofs [hbg3,hbg5]
    exact k
   obtain rfl:=oi (ifT hbg5 hg5)
   try simp -dsimp -implicitDefEqProofs [hbg3,hbg5]
   exact k
  obtain rfl:=oi (ifT hbg3 hg3)
  obtain rfl:=oi (ifT rfl hg5)
  try simp -dsimp -implicitDefEqProofs [hbg3]
  exact k) ?_
 refine Ci H (fun H=>?_) fun H=>?_
 ·refine S0 tok [] [6,7] ?_
  obtain rfl:=oi H;exact Wr ⟨_,rfl,4,by simp[eN]⟩
 refine Wsk (Jn hK1 ?_)
 refine Wsq [1,2] fun K2 hK2=>?_
 refine S0 tok [] [1,2,21] ?_
 refine Wbl (Wth ?_)
 refine S0 tok [] [1,2,21,22] ?_
 refine Ci H (fun H=>?_) fun H=>?_
 ·refine S0 tok [] [6,7] ?_
  obtain rfl:=oi H;exact Wr ⟨_,rfl,4,by simp[eN]⟩
 refine S0 tok [] [1,2,21,27] ?_
 refine Ci H (fun H=>?_) fun H=>?_
 ·refine S0 tok [] [6,7] ?_
  obtain rfl:=oi H;exact Wr ⟨_,rfl,4,by simp[eN]⟩
 refine S0 tok [] [1,2,21,32] ?_
 refine Ci H (fun H=>?_) fun H=>?_
 ·refine S0 tok [] [6,7] ?_
  obtain rfl:=oi H;exact Wr ⟨_,rfl,4,by simp[eN]⟩
 refine S0 tok [] [1,2,21,37] ?_
 refine Ci H (fun H=>?_) fun H=>?_
 ·obtain⟨r6,hr6,H⟩:=bE H
  refine Sx tok [] [6,7] (by intro K k;(repeat first|simp -dsimp -implicitDefEqProofs|refine(c137 hr6).app ?_);exact k) ?_
  obtain rfl:=oi H;exact Wr ⟨_,rfl,4,by simp[eN]⟩
 refine S0 tok [] [1,2,21,43] ?_
 refine Ci H (fun H=>?_) fun H=>?_
 ·obtain⟨r7,hr7,H⟩:=bE H
  refine Sx tok [] [6,7] (by intro K k;(repeat first|simp -dsimp -implicitDefEqProofs|refine(c137 hr7).app ?_);exact k) ?_
  obtain rfl:=oi H;exact Wr ⟨_,rfl,4,by simp[eN]⟩
 refine S0 tok [] [1,2,21,49] ?_
 refine Ci H (fun H=>?_) fun H=>?_
 ·obtain⟨r8,hr8,H⟩:=bE H
  refine Sx tok [] [6,7] (by intro K k;(repeat first|simp -dsimp -implicitDefEqProofs|refine(c138 hr8).app ?_);exact k) ?_
  obtain rfl:=oi H;exact Wr ⟨_,rfl,4,by simp[eN]⟩
 refine S0 tok [] [1,2,21,54] ?_
 refine Ci H (fun H=>?_) fun H=>?_
 ·obtain⟨r9,hr9,H⟩:=bE H
  refine Sx tok [] [6,7] (by intro K k;(repeat first|simp -dsimp -implicitDefEqProofs|refine(c138 hr9).app ?_);exact k) ?_
  obtain rfl:=oi H;exact Wr ⟨_,rfl,4,by simp[eN]⟩
 refine S0 tok [] [1,2,21,59] ?_
 refine Ci H (fun H=>?_) fun H=>?_
 ·obtain⟨r10,hr10,H⟩:=bE H
  refine Sx tok [] [6,7] (by intro K k;(repeat first|simp -dsimp -implicitDefEqProofs|refine(c139 hr10).app ?_);exact k) ?_
  obtain rfl:=oi H;exact Wr ⟨_,rfl,4,by simp[eN]⟩
 refine S0 tok [] [1,2,21,65] ?_
 refine Ci H (fun H=>?_) fun H=>?_
 ·obtain⟨r11,hr11,H⟩:=bE H
  refine Sx tok [] [6,7] (by intro K k;(repeat first|simp -dsimp -implicitDefEqProofs|refine(c139 hr11).app ?_);exact k) ?_
  obtain rfl:=oi H;exact Wr ⟨_,rfl,4,by simp[eN]⟩
 refine S0 tok [] [1,2,21,71] ?_
 refine Ci H (fun H=>?_) fun H=>?_
 ·obtain⟨r12,hr12,H⟩:=bE H
  refine Sx tok [] [6,7] (by intro K k;(repeat first|simp -dsimp -implicitDefEqProofs|refine(c139 hr12).app ?_);exact k) ?_
  obtain rfl:=oi H;exact Wr ⟨_,rfl,4,by simp[eN]⟩
 refine S0 tok [] [1,2,77] ?_
 refine Ci H (fun H=>?_) fun H=>?_
 ·obtain⟨r13,hr13,H⟩:=bE H
  refine Sx tok [] [6,7] (by intro K k;(repeat first|simp -dsimp -implicitDefEqProofs|refine(c140 hr13).app ?_);exact k) ?_
  obtain rfl:=oi H;exact Wr ⟨_,rfl,4,by simp[eN]⟩
 refine Wsk (Jn hK2 ?_)
 obtain⟨r14,hr14,H⟩:=bE H
 refine Sx tok [] [6,7] (by intro K k;(repeat first|simp -dsimp -implicitDefEqProofs|refine(c141 hr14).app ?_);exact k) ?_
 obtain rfl:=oi H;exact Wr ⟨_,rfl,4,by simp[eN]⟩

theorem c183 {p0:gQuad}{p1:gFact}{p2:gFact}{r:gFact}(H:jX p0 p1 p2=some r):APure Tryz.prog G 183 [.agg [.int .i64 p0.Op,.int .i64 p0.Dst,.int .i64 p0.A,.int .i64 p0.B,.int .i64 p0.N],.agg [.int .i64 p1.Kind,.int .i64 p1.N],.agg [.int .i64 p2.Kind,.int .i64 p2.N]] (.agg [.int .i64 r.Kind,.int .i64 r.N]):=by
 refine zE (fun N0=>?_) (by simp)
 refine fnK tok Tryz.func183 Tryz.ntmps183 Tryz.results183 ?_
 simp only[argsA,Nat.reduceAdd,hpN]
 unfold jX at H
 refine S0 tok [0,1,2] [3,4,5,6] ?_
 refine Wsq [3,4,5,6] fun K1 hK1=>?_
 obtain⟨g1,hg1,H⟩:=bE H
 refine Sx tok [] [3,4,5,6,16] (X:=[(3,.fptr [.int .i64 p0.Op,.int .i64 p0.Dst,.int .i64 p0.A,.int .i64 p0.B,.int .i64 p0.N] 0),(4,.fptr [.int .i64 p1.Kind,.int .i64 p1.N] 0),(5,.fptr [.int .i64 p2.Kind,.int .i64 p2.N] 0),(6,.ptr (N0+3) 0 0),(16,.bool g1)]) (Y:=hp E0 [(N0+3,some ⟨180,2,[[.int .i64 0,.int .i64 0]]⟩)] (N0+12)) (by
  intro K k
  simp -dsimp -implicitDefEqProofs
  cases hbg1:ine p1.Kind 1
  ·obtain rfl:=oi (ifF hbg1 hg1)
   try simp -dsimp -implicitDefEqProofs [hbg1]
   exact k
  obtain rfl:=oi (ifT hbg1 hg1)
  try simp -dsimp -implicitDefEqProofs [hbg1]
  exact k) ?_
 refine Ci H (fun H=>?_) fun H=>?_
 ·refine S0 tok [] [6] ?_
  obtain rfl:=oi H
  refine Kp [6] ?_
  refine Wr ?_
  exact⟨[.agg [.int .i64 2,.int .i64 0]],by simp,4,by simp[eN]⟩
 refine Wsk (Jn hK1 ?_)
 obtain⟨r2,hr2,H⟩:=bE H
 refine Sx tok [] [6,7] (by intro K k;(repeat first|simp -dsimp -implicitDefEqProofs|refine(c123 hr2).app ?_);exact k) ?_
 refine S0 tok [] [6] ?_
 obtain rfl:=oi H
 refine Kp [6] ?_
 refine Wr ?_
 exact⟨[.agg [.int .i64 1,.int .i64 r2.1]],by simp,4,by simp[eN]⟩

theorem c189 {p0:gFact}{p1:gFact}{r:gFact}(H:nX p0 p1=some r):APure Tryz.prog G 189 [.agg [.int .i64 p0.Kind,.int .i64 p0.N],.agg [.int .i64 p1.Kind,.int .i64 p1.N]] (.agg [.int .i64 r.Kind,.int .i64 r.N]):=by
 refine zE (fun N0=>?_) (by simp)
 refine fnK tok Tryz.func189 Tryz.ntmps189 Tryz.results189 ?_
 simp only[argsA,Nat.reduceAdd,hpN]
 unfold nX at H
 refine S0 tok [0,1] [2,3,4] ?_
 refine Wsq [2,3,4] fun K1 hK1=>?_
 refine S0 tok [] [2,3,4,7] ?_
 refine Ci H (fun H=>?_) fun H=>?_
 ·refine S0 tok [] [4] ?_
  obtain rfl:=oi H
  refine Kp [4] ?_
  refine Wr ?_
  exact⟨[.agg [.int .i64 p1.Kind,.int .i64 p1.N]],by simp,4,by simp[eN]⟩
 refine Wsk (Jn hK1 ?_)
 refine Wsq [4] fun K2 hK2=>?_
 obtain⟨g1,hg1,H⟩:=bE H
 refine Sx tok [] [2,4,16] (X:=[(2,.fptr [.int .i64 p0.Kind,.int .i64 p0.N] 0),(4,.ptr (N0+2) 0 0),(16,.bool g1)]) (Y:=hp E0 [(N0+2,some ⟨180,2,[[.int .i64 0,.int .i64 0]]⟩)] (N0+14)) (by
  intro K k
  simp -dsimp -implicitDefEqProofs
  cases hbg1:ieq p1.Kind 0
  ·obtain rfl:=oi (ifF hbg1 hg1)
   try simp -dsimp -implicitDefEqProofs [hbg1]
   exact k
  obtain rfl:=oi (ifT hbg1 hg1)
  try simp -dsimp -implicitDefEqProofs [hbg1]
  exact k) ?_
 refine Ci H (fun H=>?_) fun H=>?_
 ·refine S0 tok [] [4] ?_
  obtain rfl:=oi H
  refine Kp [4] ?_
  refine Wr ?_
  exact⟨[.agg [.int .i64 p0.Kind,.int .i64 p0.N]],by simp,4,by simp[eN]⟩
 refine Wsk (Jn hK2 ?_)
 refine S0 tok [] [4] ?_
 obtain rfl:=oi H
 refine Kp [4] ?_
 refine Wr ?_
 exact⟨[.agg [.int .i64 2,.int .i64 0]],by simp,4,by simp[eN]⟩

theorem c182 {p0:(List (List gFact))}{p1:Int}{p2:List gFact}{r:Bool×(List (List gFact))}(H:qC p0 p1 p2=some r){σ:AHeap}{w0:Nat}(q0:σ.objs w0=some ⟨166,1,eL zN p0⟩):ACalls Tryz.prog G 182 [.sl w0 0 p0.length,.int .i64 p1,.fsl (eL rFact p2)] σ (fun v σ'=>∃M:Nat,σ.next≤M∧r.2.length=p0.length∧v=.bool r.1∧σ'=hp σ.objs [(w0,some ⟨166,1,eL zN r.2⟩)] M):=by
 refine wM (L:=[(w0,some ⟨166,1,eL zN p0⟩)]) (Q1:=fun v σ'=>∃M:Nat,σ.next≤M∧r.2.length=p0.length∧v=.bool r.1∧σ'=hp E0 [(w0,some ⟨166,1,eL zN r.2⟩)] M) (by simp[q0]) (fun hlt=>?_) ?_ ⟨_,Tryz.func182,rfl,rfl⟩
 rotate_left
 ·rintro v σ1 ⟨M,h0,h1,rfl,rfl⟩
  exact⟨_,M,rfl,by simp,by simp;try omega,M,h0,h1,rfl,rfl⟩
 generalize σ.next=N0 at hlt ⊢
 have lw0:w0<N0:=hlt _ (.head _) rfl
 refine fnK tok Tryz.func182 Tryz.ntmps182 Tryz.results182 ?_
 simp only[argsA,Nat.reduceAdd,hpN]
 unfold qC at H
 refine S0 tok [] [0,1,2] ?_
 refine S0 tok [] [0,1,2,7] ?_
 refine Wsq [7] fun K1 hK1=>?_
 refine S0 tok [] [0,1,2,7,8] ?_
 refine Wbl (Wth ?_)
 obtain⟨e1,hse1,H⟩:=bE H
 refine zS [0,1,2,7,8] (fun s a σ=>∃M1:Nat,N0≤M1∧s.2.2.length=p0.length∧a=[(0,.sl w0 0 s.2.2.length),(1,.int .i64 p1),(2,.fsl (eL rFact p2)),(7,.bool s.1),(8,.int .i64 s.2.1)]∧σ=hp E0 [(w0,some ⟨166,1,eL zN s.2.2⟩)] M1) (fun s x a σ=>x=.exit 0∧Rc G 43 N0 (fun a σ=>∃M2:Nat,N0≤M2∧s.2.length=p0.length∧a=[(7,.bool s.1)]∧σ=hp E0 [(w0,some ⟨166,1,eL zN s.2⟩)] M2) (AAct.keep a [7]) σ) hse1 ?_ ?_ ?_
 ·refine Rc.kp [0,1,2,7,8] [(0,.sl w0 0 p0.length),(1,.int .i64 p1),(2,.fsl (eL rFact p2)),(7,.bool false),(8,.int .i64 0)] rfl ?_
  exact Rf ⟨N0+3,(by omega),(by first|rfl|exact rfl|omega),rfl,rfl⟩
 ·clear H hse1
  rintro⟨s1,s2,s3⟩ fl a σ H ⟨M1,fM1_0,fM1_1,rfl,rfl⟩ K2 O2 hK2 hO2
  unfold pQ at H;dsimp only at H
  refine Wsq [0,1,2,7,8] fun K3 hK3=>?_
  refine S0 tok [] [0,1,2,7,8,11] ?_
  refine Ci H (fun H=>?_) fun H=>?_
  ·refine Wsk (Jn hK3 ?_)
   refine Wsq [0,1,2,7,8] fun K4 hK4=>?_
   refine Wbl (Wth ?_)
   obtain⟨v6,hv6,H⟩:=bE H
   refine gU Wre w0 p1.toNat 0 ?_ (hr:=by exact tZ zN hv6)
   obtain⟨v7,hv7,H⟩:=bE H
   obtain⟨v8,hv8,H⟩:=bE H
   obtain⟨r9,hr9,H⟩:=bE H
   refine Sd tok tokM [] [2,3,5,6,12,13] [0,1,4,7,8,9,10,2,3,5,6,11,12,13] [0,1,2,7,8,9] (by
    intro K k
    have e0:=nQ w0 (M1+2)
    have e1:=nQ w0 (M1+15)
    simp only[pickL,zO,zQ]
    repeat first|simp -dsimp -implicitDefEqProofs [e0,e1,(gset hv6 _),ix166 hv7,oQ hv6,(zG hv6).2.2,mN hv8,(zG hv8).2.2]|refine Pc.mk (c189 hr9) ?_
    exact k) ?_
   refine Sd tok tokM [] [0,3,4,6,7] [1,2,5,0,3,4,6,7,8] [0,1,2,7,8,9,34] (by
    intro K k
    have e0:=nQ w0 (M1+2)
    have e1:=nQ w0 (M1+15)
    simp only[pickL,zO,zQ]
    simp -dsimp -implicitDefEqProofs [e0,e1,(gset hv6 _),oQ hv6,(zG hv6).2.2,mN hv8,(zG hv8).2.2]
    exact k) ?_
   refine Ci H (fun H=>?_) fun H=>?_
   ·obtain⟨l10,hl10,H⟩:=bE H
    refine Sd tok tokM [] [2,3,5,6,7] [0,1,4,2,3,5,6,7] [0,1,2,8] (by
     intro K k
     have e0:=nQ w0 (M1+2)
     have e1:=nQ w0 (M1+15)
     simp only[pickL,zO,zQ]
     simp -dsimp -implicitDefEqProofs [e0,e1,(gset hv6 _),oQ hv6,(zG hv6).2.2,mN hv8,(zG hv8).2.2,(setx_iff.1 hl10).2.symm]
     exact k) ?_
    try rw[← zH hl10]
    refine Rt tok [] [0,1,2,7,8] (by
     intro K k
     have e0:=nQ w0 (M1+2)
     have e1:=nQ w0 (M1+15)
     simp -dsimp -implicitDefEqProofs [e0,e1,(gset hv6 _)]
     exact k) fun a ha=>?_
    refine hK4 _ _ ?_;rw[ha]
    refine Rc.mk ?_
    refine Rt tok [] [0,1,2,7,8] (by
     intro K k
     have e0:=nQ w0 (M1+2)
     have e1:=nQ w0 (M1+15)
     simp -dsimp -implicitDefEqProofs [e0,e1,(gset hv6 _)]
     exact k) fun a ha=>?_
    obtain⟨l11,hl11,H⟩:=bE H
    obtain rfl:=oi H
    refine hK2 _ _ _ rfl ?_;rw[ha]
    refine gP zK w0 p1.toNat 0 ?_ (hr:=by exact gset hv6 _)
    rw[show hp E0 [(w0,some ⟨166,1,(eL zN s3).set p1.toNat [.osl 180 2 (eL rFact l10)]⟩),(M1+15,some ⟨180,2,[[.int .i64 r9.Kind,.int .i64 r9.N]]⟩)] (M1+38)=hp E0 [(w0,some ⟨166,1,eL zN l11⟩),(M1+15,some ⟨180,2,[[.int .i64 r9.Kind,.int .i64 r9.N]]⟩)] (M1+38) from by rw[(setx_iff.1 hl11).2,← zZ];rfl];(try rw[← zH hl11])
    exact Rc.fin (zP (AHeap.Sub.trans (AHeap.Sub.refl _) (zY rfl (by simp;try omega)))) ⟨M1+38,(by omega),(by first|rfl|exact((zH hl11).trans fM1_1)|omega),rfl,rfl⟩
   refine Wsk (Jn hK4 ?_)
   refine Rt tok [] [0,1,2,7,8] (by
    intro K k
    have e0:=nQ w0 (M1+2)
    have e1:=nQ w0 (M1+15)
    simp -dsimp -implicitDefEqProofs [e0,e1,(gset hv6 _)]
    exact k) fun a ha=>?_
   obtain⟨l12,hl12,H⟩:=bE H
   obtain rfl:=oi H
   refine hK2 _ _ _ rfl ?_;rw[ha]
   refine gP zK w0 p1.toNat 0 ?_ (hr:=by exact gset hv6 _)
   rw[show hp E0 [(w0,some ⟨166,1,(eL zN s3).set p1.toNat [.osl 180 2 (eL rFact v6)]⟩),(M1+15,some ⟨180,2,[[.int .i64 r9.Kind,.int .i64 r9.N]]⟩)] (M1+29)=hp E0 [(w0,some ⟨166,1,eL zN l12⟩),(M1+15,some ⟨180,2,[[.int .i64 r9.Kind,.int .i64 r9.N]]⟩)] (M1+29) from by rw[(setx_iff.1 hl12).2,← zZ];rfl];(try rw[← zH hl12])
   exact Rc.fin (zP (AHeap.Sub.trans (AHeap.Sub.refl _) (zY rfl (by simp;try omega)))) ⟨M1+29,(by omega),(by first|rfl|exact((zH hl12).trans fM1_1)|omega),rfl,rfl⟩
  obtain rfl:=oi H
  refine zJ (hO2 _ _ _ _ rfl ⟨rfl,?_⟩)
  refine Rc.rw (l:=[7]) (X:=[(7,.bool s1)]) rfl ?_
  exact Rf ⟨M1+2,(by omega),(by first|rfl|exact fM1_1|omega),rfl,rfl⟩
 intro x a σ hx
 obtain⟨y4,y5⟩:=e1
 obtain⟨rfl,b,τ,hr,M2,fM2_0,fM2_1,rfl,rfl⟩:=hx
 (try dsimp only at H)
 show K1 _ _
 refine hK1 _ _ (zK hr ?_)
 refine Rc.mk ?_
 refine S0 tok [] [6] ?_
 obtain rfl:=oi H
 refine Kp [6] ?_
 refine Wr ?_
 refine⟨[.bool y4],by simp,M2+2,by omega,by first|rfl|exact fM2_1|omega,?_,?_⟩
 ·simp[eN]
 first|rfl|simp

theorem c176_o {p0:List gQuad}{p1:Int}{r:List Int}(H:mT p0 p1=some r){σ:AHeap}:ACalls Tryz.prog G 176 [.fsl (eL rQuad p0),.int .i64 p1] σ (fun v σ'=>∃M n0:Nat,σ.next≤M∧σ.next≤n0∧n0<M∧v=.sl n0 0 r.length∧σ'=hp σ.objs [(n0,some ⟨3,1,eL rI r⟩)] M):=by
 refine fr2 [] (by simp) (fun hlt=>?_) ⟨_,Tryz.func176,rfl,rfl⟩
 generalize σ.next=N0 at hlt ⊢
 refine fnK tok Tryz.func176 Tryz.ntmps176 Tryz.results176 ?_
 simp only[argsA,Nat.reduceAdd,hpN]
 unfold mT at H
 refine S0 tok [] [0,1] ?_
 obtain⟨v1,hv1,H⟩:=bE H
 refine Sx tok [] [1,5] (by intro K k;simp -dsimp -implicitDefEqProofs [ix34 hv1];exact k) ?_
 refine Wsq [1] fun K1 hK1=>?_
 refine Wbl (Wth ?_)
 refine S0 tok [] [1,5,10] ?_
 refine Ci H (fun H=>?_) fun H=>?_
 ·have q0:∀σ i,bsA T 23 true i 0 [] σ=some (.esl,σ):=fun _ _=>rfl
  refine Sx tok [0] [4] (by intro K k;simp -dsimp -implicitDefEqProofs [q0];exact k) ?_
  obtain rfl:=oi H
  refine Kp [4] ?_
  refine gNilS Wre 4 3 1 [(N0+5,some ⟨36,5,[[.int .i64 v1.Op,.int .i64 v1.Dst,.int .i64 v1.A,.int .i64 v1.B,.int .i64 v1.N]]⟩),(N0+13,some ⟨3,1,eL rI ([]:List Int)⟩)] [(4,.sl (N0+13) 0 ([]:List Int).length)] (by simp(disch:=omega)) (by simp(disch:=omega) [eN]) [4] rfl ?_
  refine gDrop Wre [(N0+13,some ⟨3,1,eL rI ([]:List Int)⟩)] (AHeap.Sub.trans (zP (AHeap.Sub.refl _)) (zY rfl (by simp;try omega))) ?_
  refine Wr ?_
  refine⟨[.sl (N0+13) 0 ([]:List Int).length],by simp,N0+14,N0+13,by omega,by omega,by omega,?_,?_⟩
  ·simp[eN]
  first|rfl|simp
 refine S0 tok [] [1,5,15] ?_
 refine Ci H (fun H=>?_) fun H=>?_
 ·obtain⟨l2,hl2,H⟩:=bE H
  have q1:∀σ i,bsA T 23 false i 1 [(0,.int .i64 v1.N)] σ=some (.sl i 0 (List.length l2),σ.put i ⟨3,1,eL rI l2⟩):=by rw[← Option.some.inj hl2];exact fun _ _=>rfl
  refine Sx tok [] [4] (by intro K k;simp -dsimp -implicitDefEqProofs [q1];exact k) ?_
  obtain rfl:=oi H
  refine Kp [4] ?_
  refine gDrop Wre [(N0+17,some ⟨3,1,eL rI l2⟩)] (AHeap.Sub.trans (zP (AHeap.Sub.refl _)) (zY rfl (by simp;try omega))) ?_
  refine Wr ?_
  refine⟨[.sl (N0+17) 0 l2.length],by simp,N0+19,N0+17,by omega,by omega,by omega,?_,?_⟩
  ·simp[eN]
  first|rfl|simp
 obtain⟨g3,hg3,H⟩:=bE H
 refine Sx tok [] [1,5,22] (X:=[(1,.int .i64 p1),(5,.ptr (N0+5) 0 0),(22,.bool g3)]) (Y:=hp E0 [(N0+5,some ⟨36,5,[[.int .i64 v1.Op,.int .i64 v1.Dst,.int .i64 v1.A,.int .i64 v1.B,.int .i64 v1.N]]⟩)] (N0+26)) (by
  intro K k
  simp -dsimp -implicitDefEqProofs
  cases hbg3:ieq v1.Op 5
  ·obtain rfl:=oi (ifF hbg3 hg3)
   try simp -dsimp -implicitDefEqProofs [hbg3]
   exact k
  obtain rfl:=oi (ifT hbg3 hg3)
  try simp -dsimp -implicitDefEqProofs [hbg3]
  exact k) ?_
 refine Ci H (fun H=>?_) fun H=>?_
 ·obtain⟨l4,hl4,H⟩:=bE H
  have q2:∀σ i,bsA T 23 false i 2 [(0,.int .i64 v1.N),(1,.int .i64 (iadd .i64 p1 1))] σ=some (.sl i 0 (List.length l4),σ.put i ⟨3,1,eL rI l4⟩):=by rw[← Option.some.inj hl4];exact fun _ _=>rfl
  refine Sx tok [] [4] (by intro K k;simp -dsimp -implicitDefEqProofs [q2];exact k) ?_
  obtain rfl:=oi H
  refine Kp [4] ?_
  refine gDrop Wre [(N0+30,some ⟨3,1,eL rI l4⟩)] (AHeap.Sub.trans (zP (AHeap.Sub.refl _)) (zY rfl (by simp;try omega))) ?_
  refine Wr ?_
  refine⟨[.sl (N0+30) 0 l4.length],by simp,N0+32,N0+30,by omega,by omega,by omega,?_,?_⟩
  ·simp[eN]
  first|rfl|simp
 obtain⟨g5,hg5,H⟩:=bE H
 refine Sx tok [] [1,5,38] (X:=[(1,.int .i64 p1),(5,.ptr (N0+5) 0 0),(38,.bool g5)]) (Y:=hp E0 [(N0+5,some ⟨36,5,[[.int .i64 v1.Op,.int .i64 v1.Dst,.int .i64 v1.A,.int .i64 v1.B,.int .i64 v1.N]]⟩)] (N0+37)) (by
  intro K k
  simp -dsimp -implicitDefEqProofs
  cases hbg5:ieq v1.Op 5
  ·obtain rfl:=oi (ifF hbg5 hg5)
   try simp -dsimp -implicitDefEqProofs [hbg5]
   exact k
  obtain rfl:=oi (ifT hbg5 hg5)
  try simp -dsimp -implicitDefEqProofs [hbg5]
  exact k) ?_
 refine Ci H (fun H=>?_) fun H=>?_
 ·obtain⟨l6,hl6,H⟩:=bE H
  have q3:∀σ i,bsA T 23 false i 2 [(0,.int .i64 (iadd .i64 p1 1)),(1,.int .i64 v1.N)] σ=some (.sl i 0 (List.length l6),σ.put i ⟨3,1,eL rI l6⟩):=by rw[← Option.some.inj hl6];exact fun _ _=>rfl
  refine Sx tok [] [4] (by intro K k;simp -dsimp -implicitDefEqProofs [q3];exact k) ?_
  obtain rfl:=oi H
  refine Kp [4] ?_
  refine gDrop Wre [(N0+41,some ⟨3,1,eL rI l6⟩)] (AHeap.Sub.trans (zP (AHeap.Sub.refl _)) (zY rfl (by simp;try omega))) ?_
  refine Wr ?_
  refine⟨[.sl (N0+41) 0 l6.length],by simp,N0+43,N0+41,by omega,by omega,by omega,?_,?_⟩
  ·simp[eN]
  first|rfl|simp
 refine Wsk (Jn hK1 ?_)
 obtain⟨l7,hl7,H⟩:=bE H
 have q4:∀σ i,bsA T 23 false i 1 [(0,.int .i64 (iadd .i64 p1 1))] σ=some (.sl i 0 (List.length l7),σ.put i ⟨3,1,eL rI l7⟩):=by rw[← Option.some.inj hl7];exact fun _ _=>rfl
 refine Sx tok [] [4] (by intro K k;simp -dsimp -implicitDefEqProofs [q4];exact k) ?_
 obtain rfl:=oi H
 refine Kp [4] ?_
 refine gDrop Wre [(N0+39,some ⟨3,1,eL rI l7⟩)] (AHeap.Sub.trans (zP (AHeap.Sub.refl _)) (zY rfl (by simp;try omega))) ?_
 refine Wr ?_
 refine⟨[.sl (N0+39) 0 l7.length],by simp,N0+41,N0+39,by omega,by omega,by omega,?_,?_⟩
 ·simp[eN]
 first|rfl|simp

theorem c180_o {p0:List gQuad}{p1:List gFact}{p2:Int}{r:List Int}(H:vT p0 p1 p2=some r){σ:AHeap}:ACalls Tryz.prog G 180 [.fsl (eL rQuad p0),.fsl (eL rFact p1),.int .i64 p2] σ (fun v σ'=>∃M n0:Nat,σ.next≤M∧σ.next≤n0∧n0<M∧v=.sl n0 0 r.length∧σ'=hp σ.objs [(n0,some ⟨3,1,eL rI r⟩)] M):=by
 refine fr2 [] (by simp) (fun hlt=>?_) ⟨_,Tryz.func180,rfl,rfl⟩
 generalize σ.next=N0 at hlt ⊢
 refine fnK tok Tryz.func180 Tryz.ntmps180 Tryz.results180 ?_
 simp only[argsA,Nat.reduceAdd,hpN]
 unfold vT at H
 refine S0 tok [] [0,1,2] ?_
 obtain⟨v1,hv1,H⟩:=bE H
 refine Sx tok [] [0,1,2,7] (by intro K k;simp -dsimp -implicitDefEqProofs [ix34 hv1];exact k) ?_
 refine Wsq [1,2,7] fun K1 hK1=>?_
 obtain⟨g3,hg3,H⟩:=bE H
 refine Sx tok [] [0,1,2,7,23] (X:=[(0,.fsl (eL rQuad p0)),(1,.fsl (eL rFact p1)),(2,.int .i64 p2),(7,.ptr (N0+5) 0 0),(23,.bool g3)]) (Y:=hp E0 [(N0+5,some ⟨36,5,[[.int .i64 v1.Op,.int .i64 v1.Dst,.int .i64 v1.A,.int .i64 v1.B,.int .i64 v1.N]]⟩)] (N0+19)) (by
  intro K k
  simp -dsimp -implicitDefEqProofs
  cases hbg3:ine v1.Op 5
  ·replace hg3:=ifF hbg3 hg3
   obtain⟨v2,hv2,hg3⟩:=bE hg3
   obtain rfl:=oi hg3
   try simp -dsimp -implicitDefEqProofs [hbg3,ix166 hv2]
   exact k
  obtain rfl:=oi (ifT hbg3 hg3)
  try simp -dsimp -implicitDefEqProofs [hbg3]
  exact k) ?_
 refine Ci H (fun H=>?_) fun H=>?_
 ·obtain⟨r4,hr4,H⟩:=bE H
  refine jV tok [] [6] (fun a σ=>∃M1 o1:Nat,N0+23≤M1∧N0+23≤o1∧o1<M1∧a=[(6,.sl o1 0 r4.length)]∧σ=hp E0 [(N0+5,some ⟨36,5,[[.int .i64 v1.Op,.int .i64 v1.Dst,.int .i64 v1.A,.int .i64 v1.B,.int .i64 v1.N]]⟩),(o1,some ⟨3,1,eL rI r4⟩)] M1) (fun K hK=>?_) ?_
  ·skip
   simp -dsimp -implicitDefEqProofs
   refine(c176_o (H:=hr4)).mono ?_;rintro _ _ ⟨M1,o1,fM1_0,fM1_1,fM1_2,rfl,rfl⟩;simp only[hpN] at fM1_0 fM1_1 fM1_2
   have eM1_0:=nQ o1 (N0+5)
   try simp -dsimp -implicitDefEqProofs [eM1_0,hoS,hoN]
   exact hK _ _ ⟨M1,o1,(by omega),(by omega),(by omega),rfl,rfl⟩
  rintro a σ ⟨M1,o1,fM1_0,fM1_1,fM1_2,rfl,rfl⟩
  obtain rfl:=oi H
  refine Kp [6] ?_
  have z0:=nQ (N0+5) o1
  refine gDrop Wre [(o1,some ⟨3,1,eL rI r4⟩)] (AHeap.Sub.trans (zP (AHeap.Sub.refl _)) (zY rfl (by simp;try omega))) ?_
  refine Wr ?_
  refine⟨[.sl o1 0 r4.length],by simp[z0],M1,o1,by omega,by omega,by omega,?_,?_⟩
  ·simp[eN]
  first|rfl|simp
 refine Wsk (Jn hK1 ?_)
 refine Wsq [2] fun K2 hK2=>?_
 obtain⟨v5,hv5,H⟩:=bE H
 refine Sx tok [] [2,7,33] (by intro K k;simp -dsimp -implicitDefEqProofs [ix166 hv5];exact k) ?_
 refine Ci H (fun H=>?_) fun H=>?_
 ·obtain⟨l6,hl6,H⟩:=bE H
  have q0:∀σ i,bsA T 23 false i 1 [(0,.int .i64 v1.N)] σ=some (.sl i 0 (List.length l6),σ.put i ⟨3,1,eL rI l6⟩):=by rw[← Option.some.inj hl6];exact fun _ _=>rfl
  refine Sx tok [] [6] (by intro K k;simp -dsimp -implicitDefEqProofs [q0];exact k) ?_
  obtain rfl:=oi H
  refine Kp [6] ?_
  refine gDrop Wre [(N0+28,some ⟨3,1,eL rI l6⟩)] (AHeap.Sub.trans (zP (AHeap.Sub.refl _)) (zY rfl (by simp;try omega))) ?_
  refine Wr ?_
  refine⟨[.sl (N0+28) 0 l6.length],by simp,N0+30,N0+28,by omega,by omega,by omega,?_,?_⟩
  ·simp[eN]
  first|rfl|simp
 refine Wsk (Jn hK2 ?_)
 obtain⟨l7,hl7,H⟩:=bE H
 have q1:∀σ i,bsA T 23 false i 1 [(0,.int .i64 (iadd .i64 p2 1))] σ=some (.sl i 0 (List.length l7),σ.put i ⟨3,1,eL rI l7⟩):=by rw[← Option.some.inj hl7];exact fun _ _=>rfl
 refine Sx tok [] [6] (by intro K k;simp -dsimp -implicitDefEqProofs [q1];exact k) ?_
 obtain rfl:=oi H
 refine Kp [6] ?_
 refine gDrop Wre [(N0+28,some ⟨3,1,eL rI l7⟩)] (AHeap.Sub.trans (zP (AHeap.Sub.refl _)) (zY rfl (by simp;try omega))) ?_
 refine Wr ?_
 refine⟨[.sl (N0+28) 0 l7.length],by simp,N0+30,N0+28,by omega,by omega,by omega,?_,?_⟩
 ·simp[eN]
 first|rfl|simp

theorem c180_o_b {p0:List gQuad}{p1:List gFact}{p2:Int}{r:List Int}(H:vT p0 p1 p2=some r){σ:AHeap}{args:List AV}(hy:args.map (thawA (fun _=>true) σ 8)=[.fsl (eL rQuad p0),.fsl (eL rFact p1),.int .i64 p2]):ACalls Tryz.prog G 180 args σ (fun v σ'=>∃M n0:Nat,σ.next≤M∧σ.next≤n0∧n0<M∧v=.sl n0 0 r.length∧σ'=hp σ.objs [(n0,some ⟨3,1,eL rI r⟩)] M):=by
 refine borrowQ 8 8 (c180_o (σ:=⟨E0,σ.next⟩) H) hy ?_
 rintro _ _ ⟨M,n0,h0,h1,h2,rfl,rfl⟩
 refine⟨_,M,rfl,by simp[AV.rnf,AV.simp1],fun p hp ob ho=>?_,by simp,M,n0,h0,h1,h2,rfl,rfl⟩
 simp only[List.mem_cons,List.not_mem_nil,or_false] at hp
 rcases hp with rfl<;>(cases ho;first|exact encL_nf (fun x=>nf_rI 7 x) _|simp[AV.nf,AV.simp1])

theorem c181_o {p0:gQuad}{p1:List gFact}{r:List gFact}(H:vU p0 p1=some r){σ:AHeap}:ACalls Tryz.prog G 181 [.agg [.int .i64 p0.Op,.int .i64 p0.Dst,.int .i64 p0.A,.int .i64 p0.B,.int .i64 p0.N],.fsl (eL rFact p1)] σ (fun v σ'=>∃M n0:Nat,σ.next≤M∧σ.next≤n0∧n0<M∧v=.sl n0 0 r.length∧σ'=hp σ.objs [(n0,some ⟨180,2,eL rFact r⟩)] M):=by
 refine fr2 [] (by simp) (fun hlt=>?_) ⟨_,Tryz.func181,rfl,rfl⟩
 generalize σ.next=N0 at hlt ⊢
 refine fnK tok Tryz.func181 Tryz.ntmps181 Tryz.results181 ?_
 simp only[argsA,Nat.reduceAdd,hpN]
 unfold vU at H
 refine S0 tok [0] [1,2] ?_
 obtain⟨l1,hl1,H⟩:=bE H
 have q0:∀σ i,bsA T 166 true i 0 [] σ=some (.esl,σ):=fun _ _=>rfl
 refine Sx tok [0] [1,2,5] (by intro K k;simp -dsimp -implicitDefEqProofs [q0,appe166 hl1];exact k) ?_
 refine Wsq [5] fun K1 hK1=>?_
 refine S0 tok [] [1,2,5,10] ?_
 refine Wbl (Wth ?_)
 refine S0 tok [] [1,2,5,10,11] ?_
 refine Ci H (fun H=>?_) fun H=>?_
 ·obtain⟨v2,hv2,H⟩:=bE H
  obtain⟨l3,hl3,H⟩:=bE H
  refine Rt tok [] [5] (by intro K k;simp -dsimp -implicitDefEqProofs [mN hv2,(zG hv2).2.2,(setx_iff.1 hl3).2.symm];exact k) fun a ha=>?_
  (try rw[← zH hl3] at ha);(try rw[← zH hl3])
  refine hK1 _ _ ?_;rw[ha]
  refine Rc.mk ?_
  refine S0 tok [] [4] ?_
  obtain rfl:=oi H
  refine Kp [4] ?_
  refine Wr ?_
  refine⟨[.sl (N0+4) 0 l3.length],by simp,N0+20,N0+4,by omega,by omega,by omega,?_,?_⟩
  ·simp[eN]
  first|rfl|simp
 refine S0 tok [] [1,2,5,10,20] ?_
 refine Ci H (fun H=>?_) fun H=>?_
 ·obtain⟨v4,hv4,H⟩:=bE H
  obtain⟨v5,hv5,H⟩:=bE H
  obtain⟨l6,hl6,H⟩:=bE H
  refine mQ tok tokM [] [8,9] [0,1,2,3,4,5,6,7,8,9] [5] (fun a σ=>a=[(5,.sl (N0+4) 0 l1.length)]∧σ=hp E0 [(N0+4,some ⟨180,2,eL rFact l6⟩)] (N0+22)) (by decide) (fun K hK=>?_) ?_
  ·simp only[pickL,zO,zQ]
   simp -dsimp -implicitDefEqProofs [ix166 hv4,mN hv5,(zG hv5).2.2,(setx_iff.1 hl6).2.symm]
   exact hK _ _ ⟨rfl,rfl⟩
  rintro a σ ⟨ha,rfl⟩
  (try rw[← zH hl6] at ha);(try rw[← zH hl6])
  refine hK1 _ _ ?_;rw[ha]
  refine Rc.mk ?_
  refine S0 tok [] [4] ?_
  obtain rfl:=oi H
  refine Kp [4] ?_
  refine Wr ?_
  refine⟨[.sl (N0+4) 0 l6.length],by simp,N0+24,N0+4,by omega,by omega,by omega,?_,?_⟩
  ·simp[eN]
  first|rfl|simp
 refine S0 tok [] [1,2,5,10,31] ?_
 refine Ci H (fun H=>?_) fun H=>?_
 ·obtain⟨v7,hv7,H⟩:=bE H
  obtain⟨l8,hl8,H⟩:=bE H
  refine Rt tok [] [5] (by intro K k;simp -dsimp -implicitDefEqProofs [mN hv7,(zG hv7).2.2,(setx_iff.1 hl8).2.symm];exact k) fun a ha=>?_
  (try rw[← zH hl8] at ha);(try rw[← zH hl8])
  refine hK1 _ _ ?_;rw[ha]
  refine Rc.mk ?_
  refine S0 tok [] [4] ?_
  obtain rfl:=oi H
  refine Kp [4] ?_
  refine Wr ?_
  refine⟨[.sl (N0+4) 0 l8.length],by simp,N0+22,N0+4,by omega,by omega,by omega,?_,?_⟩
  ·simp[eN]
  first|rfl|simp
 refine S0 tok [] [1,2,5,38] ?_
 refine Ci H (fun H=>?_) fun H=>?_
 ·obtain⟨v9,hv9,H⟩:=bE H
  obtain⟨v10,hv10,H⟩:=bE H
  obtain⟨r11,hr11,H⟩:=bE H
  obtain⟨v12,hv12,H⟩:=bE H
  obtain⟨l13,hl13,H⟩:=bE H
  refine mQ tok tokM [] [15,16] [0,1,2,3,4,5,6,7,8,9,10,11,12,13,14,15,16] [5] (fun a σ=>a=[(5,.sl (N0+4) 0 l1.length)]∧σ=hp E0 [(N0+4,some ⟨180,2,eL rFact l13⟩)] (N0+33)) (by decide) (fun K hK=>?_) ?_
  ·simp only[pickL,zO,zQ]
   simp -dsimp -implicitDefEqProofs [ix166 hv9,ix166 hv10,mN hv12,(zG hv12).2.2,(setx_iff.1 hl13).2.symm]
   refine Pc.mk (c183 hr11) ?_;try simp -dsimp -implicitDefEqProofs [ix166 hv9,ix166 hv10,mN hv12,(zG hv12).2.2,(setx_iff.1 hl13).2.symm]
   exact hK _ _ ⟨rfl,rfl⟩
  rintro a σ ⟨ha,rfl⟩
  (try rw[← zH hl13] at ha);(try rw[← zH hl13])
  refine hK1 _ _ ?_;rw[ha]
  refine Rc.mk ?_
  refine S0 tok [] [4] ?_
  obtain rfl:=oi H
  refine Kp [4] ?_
  refine Wr ?_
  refine⟨[.sl (N0+4) 0 l13.length],by simp,N0+35,N0+4,by omega,by omega,by omega,?_,?_⟩
  ·simp[eN]
  first|rfl|simp
 refine Wsk (Jn hK1 ?_)
 refine S0 tok [] [4] ?_
 obtain rfl:=oi H
 refine Kp [4] ?_
 refine Wr ?_
 refine⟨[.sl (N0+4) 0 l1.length],by simp,N0+18,N0+4,by omega,by omega,by omega,?_,?_⟩
 ·simp[eN]
 first|rfl|simp

theorem c181_o_b {p0:gQuad}{p1:List gFact}{r:List gFact}(H:vU p0 p1=some r){σ:AHeap}{args:List AV}(hy:args.map (thawA (fun _=>true) σ 8)=[.agg [.int .i64 p0.Op,.int .i64 p0.Dst,.int .i64 p0.A,.int .i64 p0.B,.int .i64 p0.N],.fsl (eL rFact p1)]):ACalls Tryz.prog G 181 args σ (fun v σ'=>∃M n0:Nat,σ.next≤M∧σ.next≤n0∧n0<M∧v=.sl n0 0 r.length∧σ'=hp σ.objs [(n0,some ⟨180,2,eL rFact r⟩)] M):=by
 refine borrowQ 8 8 (c181_o (σ:=⟨E0,σ.next⟩) H) hy ?_
 rintro _ _ ⟨M,n0,h0,h1,h2,rfl,rfl⟩
 refine⟨_,M,rfl,by simp[AV.rnf,AV.simp1],fun p hp ob ho=>?_,by simp,M,n0,h0,h1,h2,rfl,rfl⟩
 simp only[List.mem_cons,List.not_mem_nil,or_false] at hp
 rcases hp with rfl<;>(cases ho;first|exact encL_nf (fun x=>nf_rFact 7 x) _|simp[AV.nf,AV.simp1])

theorem c170 {p0:List gQuad}{p1:(List (List gFact))}{r:Bool×(List (List gFact))}(H:qB p0 p1=some r){σ:AHeap}{w1:Nat}(q1:σ.objs w1=some ⟨166,1,eL zN p1⟩):ACalls Tryz.prog G 170 [.fsl (eL rQuad p0),.sl w1 0 p1.length] σ (fun v σ'=>∃M:Nat,σ.next≤M∧r.2.length=p1.length∧v=.bool r.1∧σ'=hp σ.objs [(w1,some ⟨166,1,eL zN r.2⟩)] M):=by
 refine wM (L:=[(w1,some ⟨166,1,eL zN p1⟩)]) (Q1:=fun v σ'=>∃M:Nat,σ.next≤M∧r.2.length=p1.length∧v=.bool r.1∧σ'=hp E0 [(w1,some ⟨166,1,eL zN r.2⟩)] M) (by simp[q1]) (fun hlt=>?_) ?_ ⟨_,Tryz.func170,rfl,rfl⟩
 rotate_left
 ·rintro v σ1 ⟨M,h0,h1,rfl,rfl⟩
  exact⟨_,M,rfl,by simp,by simp;try omega,M,h0,h1,rfl,rfl⟩
 generalize σ.next=N0 at hlt ⊢
 have lw1:w1<N0:=hlt _ (.head _) rfl
 refine fnK tok Tryz.func170 Tryz.ntmps170 Tryz.results170 ?_
 simp only[argsA,Nat.reduceAdd,hpN]
 unfold qB at H
 refine S0 tok [] [0,1] ?_
 refine S0 tok [] [0,1,5] ?_
 refine Wsq [5] fun K1 hK1=>?_
 refine S0 tok [] [0,1,5,6] ?_
 refine Wbl (Wth ?_)
 obtain⟨e2,hse2,H⟩:=bE H
 refine zS [0,1,5,6] (fun s a σ=>∃M1:Nat,N0≤M1∧s.2.2.length=p1.length∧a=[(0,.fsl (eL rQuad p0)),(1,.sl w1 0 s.2.2.length),(5,.bool s.1),(6,.int .i64 s.2.1)]∧σ=hp E0 [(w1,some ⟨166,1,eL zN s.2.2⟩)] M1) (fun s x a σ=>x=.exit 0∧Rc G 54 N0 (fun a σ=>∃M2:Nat,N0≤M2∧s.2.length=p1.length∧a=[(5,.bool s.1)]∧σ=hp E0 [(w1,some ⟨166,1,eL zN s.2⟩)] M2) (AAct.keep a [5]) σ) hse2 ?_ ?_ ?_
 ·refine Rc.kp [0,1,5,6] [(0,.fsl (eL rQuad p0)),(1,.sl w1 0 p1.length),(5,.bool false),(6,.int .i64 0)] rfl ?_
  exact Rf ⟨N0+3,(by omega),(by first|rfl|exact rfl|omega),rfl,rfl⟩
 ·clear H hse2
  rintro⟨s1,s2,s3⟩ fl a σ H ⟨M1,fM1_0,fM1_1,rfl,rfl⟩ K2 O2 hK2 hO2
  unfold pO at H;dsimp only at H
  refine Wsq [0,1,5,6] fun K3 hK3=>?_
  refine S0 tok [] [0,1,5,6,13] ?_
  refine Ci H (fun H=>?_) fun H=>?_
  ·refine Wsk (Jn hK3 ?_)
   refine Wsq [0,1,5,6] fun K4 hK4=>?_
   refine Wbl (Wth ?_)
   refine Wsq [0,1,5,6] fun K5 hK5=>?_
   obtain⟨v6,hv6,H⟩:=bE H
   refine gU Wre w1 s2.toNat 0 ?_ (hr:=by exact tZ zN hv6)
   obtain⟨v7,hv7,H⟩:=bE H
   refine Sx tok [] [0,1,5,6,23] (by
    intro K k
    have e0:=nQ w1 (M1+4)
    simp -dsimp -implicitDefEqProofs [e0,(gset hv6 _),oQ hv6,(zG hv6).2.2,mN hv7,(show _[0]? =some v7 from(zG hv7).2.2)]
    exact k) ?_
   refine Ci H (fun H=>?_) fun H=>?_
   ·refine zJ ?_
    show K4 _ _
    refine kE [0,1,5,6] fun a' ha=>?_
    refine hK4 _ _ ?_;rw[ha]
    refine Rc.mk ?_
    refine Rt tok [] [0,1,5,6] (by
     intro K k
     have e0:=nQ w1 (M1+4)
     simp -dsimp -implicitDefEqProofs [e0,(gset hv6 _)]
     exact k) fun a ha=>?_
    obtain⟨l8,hl8,H⟩:=bE H
    obtain rfl:=oi H
    refine hK2 _ _ _ rfl ?_;rw[ha]
    refine gP zK w1 s2.toNat 0 ?_ (hr:=by exact gset hv6 _)
    rw[show hp E0 [(w1,some ⟨166,1,(eL zN s3).set s2.toNat [.osl 180 2 (eL rFact v6)]⟩)] (M1+16)=hp E0 [(w1,some ⟨166,1,eL zN l8⟩)] (M1+16) from by rw[(setx_iff.1 hl8).2,← zZ];rfl];(try rw[← zH hl8])
    exact Rf ⟨M1+16,(by omega),(by first|rfl|exact((zH hl8).trans fM1_1)|omega),rfl,rfl⟩
   refine Wsk (Jn hK5 ?_)
   refine gP Wre w1 s2.toNat 0 ?_ (hr:=by exact gset hv6 _)
   obtain⟨l9,hl9,H⟩:=bE H
   rw[show hp E0 [(w1,some ⟨166,1,(eL zN s3).set s2.toNat [.osl 180 2 (eL rFact v6)]⟩)] (M1+13)=hp E0 [(w1,some ⟨166,1,eL zN l9⟩)] (M1+13) from by rw[(setx_iff.1 hl9).2,← zZ];rfl];(try rw[← zH hl9])
   obtain⟨v10,hv10,H⟩:=bE H
   refine gU Wre w1 s2.toNat 0 ?_ (hr:=by exact tZ zN hv10)
   obtain⟨r11,hr11,H⟩:=bE H
   refine jV tok [] [0,1,5,6,7] (fun a σ=>∃M3 o1:Nat,M1+22≤M3∧M1+22≤o1∧o1<M3∧a=[(0,.fsl (eL rQuad p0)),(1,.sl w1 0 l9.length),(5,.bool s1),(6,.int .i64 s2),(7,.sl o1 0 r11.length)]∧σ=hp E0 [(w1,some ⟨166,1,(eL zN l9).set s2.toNat [.sl (M1+13) 0 v10.length]⟩),(M1+13,some ⟨180,2,eL rFact v10⟩),(o1,some ⟨3,1,eL rI r11⟩)] M3) (fun K hK=>?_) ?_
   ·skip
    have e0:=nQ w1 (M1+13)
    simp -dsimp -implicitDefEqProofs [e0,(gset hv10 _),oQ hv10,(zG hv10).2.2]
    refine(c180_o_b (H:=hr11) (by simp[e0,(gset hv10 _),oQ hv10,(zG hv10).2.2])).mono ?_;rintro _ _ ⟨M3,o1,fM3_0,fM3_1,fM3_2,rfl,rfl⟩;simp only[hpN] at fM3_0 fM3_1 fM3_2
    have eM3_0:=nQ o1 w1
    have eM3_1:=nQ o1 (M1+13)
    try simp -dsimp -implicitDefEqProofs [e0,(gset hv10 _),oQ hv10,(zG hv10).2.2,eM3_0,eM3_1,hoS,hoN]
    exact hK _ _ ⟨M3,o1,(by omega),(by omega),(by omega),rfl,rfl⟩
   rintro a σ ⟨M3,o1,fM3_0,fM3_1,fM3_2,rfl,rfl⟩
   refine gP Wre w1 s2.toNat 0 ?_ (hr:=by exact gset hv10 _)
   obtain⟨l12,hl12,H⟩:=bE H
   rw[show hp E0 [(w1,some ⟨166,1,(eL zN l9).set s2.toNat [.osl 180 2 (eL rFact v10)]⟩),(o1,some ⟨3,1,eL rI r11⟩)] M3=hp E0 [(w1,some ⟨166,1,eL zN l12⟩),(o1,some ⟨3,1,eL rI r11⟩)] M3 from by rw[(setx_iff.1 hl12).2,← zZ];rfl];(try rw[← zH hl12])
   obtain⟨v14,hv14,H⟩:=bE H
   refine gU Wre w1 s2.toNat 0 ?_ (hr:=by exact tZ zN hv14)
   obtain⟨v15,hv15,H⟩:=bE H
   obtain⟨r16,hr16,H⟩:=bE H
   refine mP tok tokM [] [6,7,8] [0,1,2,3,4,5,6,7,8,9] [0,1,5,6,7,8] (fun a σ=>∃M4 o2:Nat,M3+11≤M4∧M3+11≤o2∧o2<M4∧a=[(0,.fsl (eL rQuad p0)),(1,.sl w1 0 l12.length),(5,.bool s1),(6,.int .i64 s2),(7,.sl o1 0 r11.length),(8,.sl o2 0 r16.length)]∧σ=hp E0 [(w1,some ⟨166,1,(eL zN l12).set s2.toNat [.sl M3 0 v14.length]⟩),(o1,some ⟨3,1,eL rI r11⟩),(M3,some ⟨180,2,eL rFact v14⟩),(o2,some ⟨180,2,eL rFact r16⟩)] M4) (by decide) (fun K hK=>?_) ?_
   ·simp only[pickL,zO,zQ]
    have e0:=nQ w1 o1
    have e1:=nQ w1 M3
    have e2:=nQ o1 M3
    simp -dsimp -implicitDefEqProofs [e0,e1,e2,(gset hv14 _),ix34 hv15,oQ hv14,(zG hv14).2.2]
    refine(c181_o_b (H:=hr16) (by simp[e0,e1,e2,(gset hv14 _),ix34 hv15,oQ hv14,(zG hv14).2.2])).mono ?_;rintro _ _ ⟨M4,o2,fM4_0,fM4_1,fM4_2,rfl,rfl⟩;simp only[hpN] at fM4_0 fM4_1 fM4_2
    have eM4_0:=nQ o2 w1
    have eM4_1:=nQ o2 o1
    have eM4_2:=nQ o2 M3
    try simp -dsimp -implicitDefEqProofs [e0,e1,e2,(gset hv14 _),ix34 hv15,oQ hv14,(zG hv14).2.2,eM4_0,eM4_1,eM4_2,hoS,hoN]
    exact hK _ _ ⟨M4,o2,(by omega),(by omega),(by omega),rfl,rfl⟩
   rintro a σ ⟨M4,o2,fM4_0,fM4_1,fM4_2,rfl,rfl⟩
   refine Sx tok [] [0,1,5,6,7,8,9] (by
    intro K k
    have e0:=nQ w1 o1
    have e1:=nQ w1 M3
    have e2:=nQ w1 o2
    have e3:=nQ o1 M3
    have e4:=nQ o1 o2
    have e5:=nQ M3 o2
    simp -dsimp -implicitDefEqProofs [e0,e1,e2,e3,e4,e5,(gset hv14 _)]
    exact k) ?_
   refine Wbl (Wth ?_)
   obtain⟨l17,hl17,H⟩:=bE H
   obtain⟨e1,hse1,H⟩:=bE H
   refine zS [0,1,5,6,7,8,9] (fun s a σ=>∃M5 o3:Nat,N0≤M5∧N0≤o3∧o3<M5∧s.2.2.1.length=p1.length∧a=[(0,.fsl (eL rQuad p0)),(1,.sl w1 0 s.2.2.1.length),(5,.bool s.1),(6,.int .i64 s2),(7,.sl o3 0 s.2.2.2.length),(8,.fsl (eL rFact r16)),(9,.int .i64 s.2.1)]∧σ=hp E0 [(w1,some ⟨166,1,eL zN s.2.2.1⟩),(o3,some ⟨3,1,eL rI s.2.2.2⟩)] M5) (fun s x a σ=>x=.exit 2∧Rc G 54 N0 (fun a σ=>∃M6:Nat,N0≤M6∧s.2.length=p1.length∧a=[(0,.fsl (eL rQuad p0)),(1,.sl w1 0 s.2.length),(5,.bool s.1),(6,.int .i64 s2)]∧σ=hp E0 [(w1,some ⟨166,1,eL zN s.2⟩)] M6) (AAct.keep a [0,1,5,6]) σ) hse1 ?_ ?_ ?_
   ·refine Rc.kp [0,1,5,6,7,8,9] [(0,.fsl (eL rQuad p0)),(1,.sl w1 0 l12.length),(5,.bool s1),(6,.int .i64 s2),(7,.sl o1 0 r11.length),(8,.sl o2 0 r16.length),(9,.int .i64 0)] rfl ?_
    refine gP zK w1 s2.toNat 0 ?_ (hr:=by exact gset hv14 _)
    rw[show hp E0 [(w1,some ⟨166,1,(eL zN l12).set s2.toNat [.osl 180 2 (eL rFact v14)]⟩),(o1,some ⟨3,1,eL rI r11⟩),(o2,some ⟨180,2,eL rFact r16⟩)] (M4+1)=hp E0 [(w1,some ⟨166,1,eL zN l17⟩),(o1,some ⟨3,1,eL rI r11⟩),(o2,some ⟨180,2,eL rFact r16⟩)] (M4+1) from by rw[(setx_iff.1 hl17).2,← zZ];rfl];(try rw[← zH hl17])
    have z3:=nQ w1 o1
    have z4:=nQ w1 o2
    have z5:=nQ o1 o2
    refine gFrz zK 4 [o2] [(w1,some ⟨166,1,eL zN l17⟩),(o1,some ⟨3,1,eL rI r11⟩)] [(0,.fsl (eL rQuad p0)),(1,.sl w1 0 l17.length),(5,.bool s1),(6,.int .i64 s2),(7,.sl o1 0 r11.length),(8,.fsl (eL rFact r16)),(9,.int .i64 0)] (by simp[z3,z4,z5]) (cutD (by simp[z3,z4,z5])) ?_
    exact Rf ⟨M4+1,o1,(by omega),(by omega),(by omega),(by first|rfl|exact((zH hl17).trans ((zH hl12).trans ((zH hl9).trans fM1_1)))|omega),rfl,rfl⟩
   ·clear H hse1
    rintro⟨s18,s19,s20,s21⟩ fl a σ H ⟨M5,o3,fM5_0,fM5_1,fM5_2,fM5_3,rfl,rfl⟩ K6 O6 hK6 hO6
    unfold pN at H;dsimp only at H
    refine Wsq [0,1,5,6,7,8,9] fun K7 hK7=>?_
    refine Sx tok [] [0,1,5,6,7,8,9,43] (by
     intro K k
     have e0:=nQ w1 o3
     simp -dsimp -implicitDefEqProofs [e0]
     exact k) ?_
    refine Ci H (fun H=>?_) fun H=>?_
    ·refine Wsk (Jn hK7 ?_)
     refine Wsq [0,1,5,6,7,8,9] fun K8 hK8=>?_
     refine Wbl (Wth ?_)
     obtain⟨v24,hv24,H⟩:=bE H
     obtain⟨r25,hr25,H⟩:=bE H
     refine jV tok [] [0,1,5,6,7,8,9,52] (fun a σ=>∃M7:Nat,M5+11≤M7∧r25.2.length=s20.length∧a=[(0,.fsl (eL rQuad p0)),(1,.sl w1 0 s20.length),(5,.bool s18),(6,.int .i64 s2),(7,.sl o3 0 s21.length),(8,.fsl (eL rFact r16)),(9,.int .i64 s19),(52,.bool r25.1)]∧σ=hp E0 [(w1,some ⟨166,1,eL zN r25.2⟩),(o3,some ⟨3,1,eL rI s21⟩)] M7) (fun K hK=>?_) ?_
     ·skip
      have e0:=nQ w1 o3
      simp -dsimp -implicitDefEqProofs [e0,ixo23 hv24,(zG hv24).2.2]
      refine(c182 (H:=hr25) (by simp[e0,ixo23 hv24,(zG hv24).2.2])).mono ?_;rintro _ _ ⟨M7,fM7_0,fM7_1,rfl,rfl⟩;simp only[hpN] at fM7_0
      try simp -dsimp -implicitDefEqProofs [e0,ixo23 hv24,(zG hv24).2.2,hoS,hoN]
      exact hK _ _ ⟨M7,(by omega),fM7_1,rfl,rfl⟩
     rintro a σ ⟨M7,fM7_0,fM7_1,rfl,rfl⟩
     try rw[← fM7_1]
     refine Ci H (fun H=>?_) fun H=>?_
     ·refine Rt tok [] [0,1,5,6,7,8,9] (by
       intro K k
       have e0:=nQ w1 o3
       simp -dsimp -implicitDefEqProofs [e0]
       exact k) fun a ha=>?_
      refine hK8 _ _ ?_;rw[ha]
      refine Rc.mk ?_
      refine Rt tok [] [0,1,5,6,7,8,9] (by
       intro K k
       have e0:=nQ w1 o3
       simp -dsimp -implicitDefEqProofs [e0]
       exact k) fun a ha=>?_
      obtain rfl:=oi H
      refine hK6 _ _ _ rfl ?_;rw[ha]
      exact Rf ⟨M7+4,o3,(by omega),(by omega),(by omega),(by first|rfl|exact((fM7_1).trans fM5_3)|omega),rfl,rfl⟩
     refine Wsk (Jn hK8 ?_)
     refine Rt tok [] [0,1,5,6,7,8,9] (by
      intro K k
      have e0:=nQ w1 o3
      simp -dsimp -implicitDefEqProofs [e0]
      exact k) fun a ha=>?_
     obtain rfl:=oi H
     refine hK6 _ _ _ rfl ?_;rw[ha]
     exact Rf ⟨M7+3,o3,(by omega),(by omega),(by omega),(by first|rfl|exact((fM7_1).trans fM5_3)|omega),rfl,rfl⟩
    obtain rfl:=oi H
    refine zJ (hO6 _ _ _ _ rfl ⟨rfl,?_⟩)
    refine Rc.rw (l:=[0,1,5,6]) (X:=[(0,.fsl (eL rQuad p0)),(1,.sl w1 0 s20.length),(5,.bool s18),(6,.int .i64 s2)]) rfl ?_
    exact Rc.fin (zP (AHeap.Sub.trans (AHeap.Sub.refl _) (zY rfl (by simp;try omega)))) ⟨M5+4,(by omega),(by first|rfl|exact fM5_3|omega),rfl,rfl⟩
   intro x a σ hx
   obtain⟨y22,y23⟩:=e1
   obtain⟨rfl,b,τ,hr,M6,fM6_0,fM6_1,rfl,rfl⟩:=hx
   (try dsimp only at H)
   show K4 _ _
   refine hK4 _ _ (zK hr ?_)
   refine Rc.mk ?_
   refine Rt0 tok [] [0,1,5,6] fun a ha=>?_
   obtain rfl:=oi H
   refine hK2 _ _ _ rfl ?_;rw[ha]
   exact Rf ⟨M6+3,(by omega),(by first|rfl|exact fM6_1|omega),rfl,rfl⟩
  obtain rfl:=oi H
  refine zJ (hO2 _ _ _ _ rfl ⟨rfl,?_⟩)
  refine Rc.rw (l:=[5]) (X:=[(5,.bool s1)]) rfl ?_
  exact Rf ⟨M1+4,(by omega),(by first|rfl|exact fM1_1|omega),rfl,rfl⟩
 intro x a σ hx
 obtain⟨y4,y5⟩:=e2
 obtain⟨rfl,b,τ,hr,M2,fM2_0,fM2_1,rfl,rfl⟩:=hx
 (try dsimp only at H)
 show K1 _ _
 refine hK1 _ _ (zK hr ?_)
 refine Rc.mk ?_
 refine S0 tok [] [4] ?_
 obtain rfl:=oi H
 refine Kp [4] ?_
 refine Wr ?_
 refine⟨[.bool y4],by simp,M2+2,by omega,by first|rfl|exact fM2_1|omega,?_,?_⟩
 ·simp[eN]
 first|rfl|simp

theorem c151 {p0:List gQuad}{r:(List (List gFact))}(H:oK p0=some r):APure Tryz.prog G 151 [.fsl (eL rQuad p0)] (.fsl (eL kP r)):=by
 refine zE (fun N0=>?_) (by simp)
 refine fnK tok Tryz.func151 Tryz.ntmps151 Tryz.results151 ?_
 simp only[argsA,Nat.reduceAdd,hpN]
 unfold oK at H
 refine S0 tok [] [0] ?_
 have q0:∀σ i,bsA T 163 true i 0 [] σ=some (.esl,σ):=fun _ _=>rfl
 refine Sx tok [0] [0,3] (by intro K k;simp -dsimp -implicitDefEqProofs [q0];exact k) ?_
 refine Wsq [0,3] fun K1 hK1=>?_
 obtain⟨r1,hr1,H⟩:=bE H
 refine Sx tok [] [0,3,9] (by intro K k;(repeat first|simp -dsimp -implicitDefEqProofs|refine(c103 hr1).app ?_);exact k) ?_
 refine Ci H (fun H=>?_) fun H=>?_
 ·refine S0 tok [] [2] ?_
  obtain rfl:=oi H;exact Wr ⟨_,rfl,4,by simp[eN]⟩
 refine Wsk (Jn hK1 ?_)
 refine Wsq [0,3] fun K2 hK2=>?_
 refine S0 tok [] [0,3,4] ?_
 refine Wbl (Wth ?_)
 obtain⟨e1,hse1,H⟩:=bE H
 refine zS [0,3,4] (fun s a σ=>∃M1 o1:Nat,N0≤M1∧N0≤o1∧o1<M1∧a=[(0,.fsl (eL rQuad p0)),(3,.sl o1 0 s.2.length),(4,.int .i64 s.1)]∧σ=hp E0 [(o1,some ⟨166,1,eL zN s.2⟩)] M1) (fun s x a σ=>x=.exit 0∧Rc G 35 N0 (fun a σ=>∃M2 o2:Nat,N0≤M2∧N0≤o2∧o2<M2∧a=[(0,.fsl (eL rQuad p0)),(3,.sl o2 0 s.length)]∧σ=hp E0 [(o2,some ⟨166,1,eL zN s⟩)] M2) (AAct.keep a [0,3]) σ) hse1 ?_ ?_ ?_
 ·refine Rc.kp [0,3,4] [(0,.fsl (eL rQuad p0)),(3,.esl),(4,.int .i64 0)] rfl ?_
  refine gNilS zK 3 166 1 [(N0+7,some ⟨166,1,eL zN ([]:List (List gFact))⟩)] [(0,.fsl (eL rQuad p0)),(3,.sl (N0+7) 0 ([]:List (List gFact)).length),(4,.int .i64 0)] (by simp(disch:=omega)) (by simp(disch:=omega) [eN]) [0,3,4] rfl ?_
  exact Rf ⟨N0+8,(N0+7),(by omega),(by omega),(by omega),rfl,rfl⟩
 ·clear H hse1
  rintro⟨s2,s3⟩ fl a σ H ⟨M1,o1,fM1_0,fM1_1,fM1_2,rfl,rfl⟩ K3 O3 hK3 hO3
  unfold uA at H;dsimp only at H
  refine Wsq [0,3,4] fun K4 hK4=>?_
  refine S0 tok [] [0,3,4,14] ?_
  refine Ci H (fun H=>?_) fun H=>?_
  ·refine Wsk (Jn hK4 ?_)
   refine Wsq [0,3,4] fun K5 hK5=>?_
   refine Wbl (Wth ?_)
   obtain⟨l5,hl5,H⟩:=bE H
   obtain⟨l6,hl6,H⟩:=bE H
   have q1:∀(a0:Nat) (a1:Nat) σ i,bsA T 163 true i 1 [(0,.sl a0 0 a1)] σ=some (.fsl [[.sl a0 0 a1]],σ):=fun _ _ _ _=>rfl
   refine Rt tok [2] [0,3,4] (by
    intro K k
    have e0:=nQ o1 (M1+5)
    have e1:=nQ o1 (M1+7)
    simp -dsimp -implicitDefEqProofs [e0,e1,mak166 hl5,q1,apr163 zN hl6]
    exact k) fun a ha=>?_
   refine hK5 _ _ ?_;rw[ha]
   refine Rc.mk ?_
   refine gP Wre (M1+7) s3.length 0 ?_ (hr:=by exact fQ _ _ _)
   rw[show hp E0 [(M1+7,some ⟨166,1,eL zN s3++[[.osl 180 2 (eL rFact l5)]]⟩)] (M1+9)=hp E0 [(M1+7,some ⟨166,1,eL zN l6⟩)] (M1+9) from by rw[← fR (f:=zN) (c:=[.osl 180 2 (eL rFact l5)]) hl6 rfl]]
   refine Rt0 tok [] [0,3,4] fun a ha=>?_
   obtain rfl:=oi H
   refine hK3 _ _ _ rfl ?_;rw[ha]
   exact Rf ⟨M1+12,(M1+7),(by omega),(by omega),(by omega),rfl,rfl⟩
  obtain rfl:=oi H
  refine zJ (hO3 _ _ _ _ rfl ⟨rfl,?_⟩)
  refine Rc.rw (l:=[0,3]) (X:=[(0,.fsl (eL rQuad p0)),(3,.sl o1 0 s3.length)]) rfl ?_
  exact Rf ⟨M1+4,o1,(by omega),(by omega),(by omega),rfl,rfl⟩
 intro x a σ hx
 obtain⟨y4,rfl⟩:∃x,x=e1:=⟨_,rfl⟩
 obtain⟨rfl,b,τ,hr,M2,o2,fM2_0,fM2_1,fM2_2,rfl,rfl⟩:=hx
 (try dsimp only at H)
 show K2 _ _
 refine hK2 _ _ (zK hr ?_)
 refine Rc.mk ?_
 refine Wsq [0,3] fun K6 hK6=>?_
 refine S0 tok [] [0,3,5] ?_
 refine Wbl (Wth ?_)
 obtain⟨e2,hse2,H⟩:=bE H
 refine zS [0,3,5] (fun s a σ=>∃M3 o3:Nat,N0≤M3∧N0≤o3∧o3<M3∧a=[(0,.fsl (eL rQuad p0)),(3,.sl o3 0 s.2.length),(5,.int .i64 s.1)]∧σ=hp E0 [(o3,some ⟨166,1,eL zN s.2⟩)] M3) (fun s x a σ=>x=.exit 2∧Rc G 35 N0 (fun a σ=>∃M4 o4:Nat,N0≤M4∧N0≤o4∧o4<M4∧a=[(0,.fsl (eL rQuad p0)),(3,.sl o4 0 s.length)]∧σ=hp E0 [(o4,some ⟨166,1,eL zN s⟩)] M4) (AAct.keep a [0,3]) σ) hse2 ?_ ?_ ?_
 ·refine Rc.kp [0,3,5] [(0,.fsl (eL rQuad p0)),(3,.sl o2 0 y4.length),(5,.int .i64 0)] rfl ?_
  exact Rf ⟨M2+1,o2,(by omega),(by omega),(by omega),rfl,rfl⟩
 ·clear H hse2
  rintro⟨s7,s8⟩ fl a σ H ⟨M3,o3,fM3_0,fM3_1,fM3_2,rfl,rfl⟩ K7 O7 hK7 hO7
  unfold oJ at H;dsimp only at H
  refine Wsq [0,3,5] fun K8 hK8=>?_
  refine S0 tok [] [0,3,5,22] ?_
  refine Ci H (fun H=>?_) fun H=>?_
  ·refine Wsk (Jn hK8 ?_)
   refine Wsq [0,3,5] fun K9 hK9=>?_
   refine Wbl (Wth ?_)
   obtain⟨v10,hv10,H⟩:=bE H
   refine gU Wre o3 0 0 ?_ (hr:=by exact tZ zN hv10)
   obtain⟨v11,hv11,H⟩:=bE H
   obtain⟨l12,hl12,H⟩:=bE H
   refine Rt tok [] [0,3,5] (by
    intro K k
    have e0:=nQ o3 (M3+2)
    simp -dsimp -implicitDefEqProofs [e0,(gset hv10 _),(show((eL _ _).set 0 _)[0]? =some _ from gset hv10 _),oQ hv10,(show _[0]? =some v10 from(zG hv10).2.2),mN hv11,(zG hv11).2.2,(setx_iff.1 hl12).2.symm]
    exact k) fun a ha=>?_
   (try rw[← zH hl12] at ha);(try rw[← zH hl12])
   refine hK9 _ _ ?_;rw[ha]
   refine Rc.mk ?_
   refine Rt tok [] [0,3,5] (by
    intro K k
    have e0:=nQ o3 (M3+2)
    simp -dsimp -implicitDefEqProofs [e0,(gset hv10 _),(show((eL _ _).set 0 _)[0]? =some _ from gset hv10 _)]
    exact k) fun a ha=>?_
   obtain⟨l13,hl13,H⟩:=bE H
   obtain rfl:=oi H
   refine hK7 _ _ _ rfl ?_;rw[ha]
   refine gP zK o3 0 0 ?_ (hr:=by exact gset hv10 _)
   rw[show hp E0 [(o3,some ⟨166,1,(eL zN s8).set 0 [.osl 180 2 (eL rFact l12)]⟩)] (M3+13)=hp E0 [(o3,some ⟨166,1,eL zN l13⟩)] (M3+13) from by rw[(setx_iff.1 hl13).2,← zZ];rfl];(try rw[← zH hl13])
   exact Rf ⟨M3+13,o3,(by omega),(by omega),(by omega),rfl,rfl⟩
  obtain rfl:=oi H
  refine zJ (hO7 _ _ _ _ rfl ⟨rfl,?_⟩)
  refine Rc.rw (l:=[0,3]) (X:=[(0,.fsl (eL rQuad p0)),(3,.sl o3 0 s8.length)]) rfl ?_
  exact Rf ⟨M3+2,o3,(by omega),(by omega),(by omega),rfl,rfl⟩
 intro x a σ hx
 obtain⟨y9,rfl⟩:∃x,x=e2:=⟨_,rfl⟩
 obtain⟨rfl,b,τ,hr,M4,o4,fM4_0,fM4_1,fM4_2,rfl,rfl⟩:=hx
 (try dsimp only at H)
 show K6 _ _
 refine hK6 _ _ (zK hr ?_)
 refine Rc.mk ?_
 refine Wsq [3] fun K10 hK10=>?_
 refine Wbl (Wth ?_)
 obtain⟨e3,hse3,H⟩:=bE H
 refine zS [0,3] (fun s a σ=>∃M5 o5:Nat,N0≤M5∧N0≤o5∧o5<M5∧a=[(0,.fsl (eL rQuad p0)),(3,.sl o5 0 s.length)]∧σ=hp E0 [(o5,some ⟨166,1,eL zN s⟩)] M5) (fun s x a σ=>x=.exit 4∧Rc G 35 N0 (fun a σ=>∃M6 o6:Nat,N0≤M6∧N0≤o6∧o6<M6∧a=[(3,.sl o6 0 s.length)]∧σ=hp E0 [(o6,some ⟨166,1,eL zN s⟩)] M6) (AAct.keep a [3]) σ) hse3 ?_ ?_ ?_
 ·refine Rc.kp [0,3] [(0,.fsl (eL rQuad p0)),(3,.sl o4 0 y9.length)] rfl ?_
  exact Rf ⟨M4,o4,(by omega),(by omega),(by omega),rfl,rfl⟩
 ·clear H hse3
  rintro s14 fl a σ H ⟨M5,o5,fM5_0,fM5_1,fM5_2,rfl,rfl⟩ K11 O11 hK11 hO11
  unfold oI at H;dsimp only at H
  refine Wsq [0,3] fun K12 hK12=>?_
  obtain⟨r16,hr16,H⟩:=bE H
  refine jV tok [] [0,3,33] (fun a σ=>∃M7:Nat,M5+3≤M7∧r16.2.length=s14.length∧a=[(0,.fsl (eL rQuad p0)),(3,.sl o5 0 s14.length),(33,.bool r16.1)]∧σ=hp E0 [(o5,some ⟨166,1,eL zN r16.2⟩)] M7) (fun K hK=>?_) ?_
  ·skip
   simp -dsimp -implicitDefEqProofs
   refine(c170 (H:=hr16) (by simp)).mono ?_;rintro _ _ ⟨M7,fM7_0,fM7_1,rfl,rfl⟩;simp only[hpN] at fM7_0
   try simp -dsimp -implicitDefEqProofs [hoS,hoN]
   exact hK _ _ ⟨M7,(by omega),fM7_1,rfl,rfl⟩
  rintro a σ ⟨M7,fM7_0,fM7_1,rfl,rfl⟩
  try rw[← fM7_1]
  refine Ci H (fun H=>?_) fun H=>?_
  ·refine Wsk (Jn hK12 ?_)
   refine Wbl (Wth ?_)
   refine Wsk ?_
   show K11 _ _
   refine kE [0,3] fun a' ha=>?_
   obtain rfl:=oi H
   refine hK11 _ _ _ rfl ?_;rw[ha]
   exact Rf ⟨M7,o5,(by omega),(by omega),(by omega),rfl,rfl⟩
  obtain rfl:=oi H
  refine zJ (hO11 _ _ _ _ rfl ⟨rfl,?_⟩)
  refine Rc.rw (l:=[3]) (X:=[(3,.sl o5 0 r16.2.length)]) rfl ?_
  exact Rf ⟨M7,o5,(by omega),(by omega),(by omega),rfl,rfl⟩
 intro x a σ hx
 obtain⟨y15,rfl⟩:∃x,x=e3:=⟨_,rfl⟩
 obtain⟨rfl,b,τ,hr,M6,o6,fM6_0,fM6_1,fM6_2,rfl,rfl⟩:=hx
 (try dsimp only at H)
 show K10 _ _
 refine hK10 _ _ (zK hr ?_)
 refine Rc.mk ?_
 refine S0 tok [] [2] ?_
 obtain rfl:=oi H;exact Wr ⟨_,rfl,4,by simp[eN]⟩

theorem c172 {p0:gFact}{p1:Int}{r:Bool}(H:pP p0 p1=some r):APure Tryz.prog G 172 [.agg [.int .i64 p0.Kind,.int .i64 p0.N],.int .i64 p1] (.bool r):=by
 refine zE (fun N0=>?_) (by simp)
 refine fnK tok Tryz.func172 Tryz.ntmps172 Tryz.results172 ?_
 simp only[argsA,Nat.reduceAdd,hpN]
 unfold pP at H
 refine S0 tok [0] [1,2] ?_
 obtain⟨g1,hg1,H⟩:=bE H
 refine Sx tok [] [4] (X:=[(4,.bool g1)]) (Y:=hp E0 [] (N0+12)) (by
  intro K k
  simp -dsimp -implicitDefEqProofs
  cases hbg1:ieq p0.Kind 1
  ·obtain rfl:=oi (ifF hbg1 hg1)
   try simp -dsimp -implicitDefEqProofs [hbg1]
   exact k
  obtain rfl:=oi (ifT hbg1 hg1)
  try simp -dsimp -implicitDefEqProofs [hbg1]
  exact k) ?_
 obtain rfl:=oi H;exact Wr ⟨_,rfl,4,by simp[eN]⟩

theorem c190 {p0:List Int}{p1:Int}{r:Bool}(H:mC p0 p1=some r):APure Tryz.prog G 190 [.fsl (eL rI p0),.int .i64 p1] (.bool r):=by
 refine zE (fun N0=>?_) (by simp)
 refine fnK tok Tryz.func190 Tryz.ntmps190 Tryz.results190 ?_
 simp only[argsA,Nat.reduceAdd,hpN]
 unfold mC at H
 refine S0 tok [] [0,1] ?_
 refine Wsq [] fun K1 hK1=>?_
 refine S0 tok [] [0,1,5] ?_
 refine Wbl (Wth ?_)
 obtain⟨e1,hse1,H⟩:=bE H
 refine zS [0,1,5] (fun s a σ=>∃M1:Nat,N0≤M1∧a=[(0,.fsl (eL rI p0)),(1,.int .i64 p1),(5,.int .i64 s)]∧σ=hp E0 [] M1) (fun e x a σ=>match e with|.inl s=>x=.exit 0∧Rc G 18 N0 (fun a σ=>∃M2:Nat,N0≤M2∧a=[]∧σ=hp E0 [] M2) (AAct.keep a []) σ|.inr s=>x=.ret∧∃vs,resA T σ a [.tmp 4]=some vs∧∃d,thawA (fun _=>true) σ d (tupA vs)=.bool s) hse1 ?_ ?_ ?_
 ·refine Rc.kp [0,1,5] [(0,.fsl (eL rI p0)),(1,.int .i64 p1),(5,.int .i64 0)] rfl ?_
  exact Rf ⟨N0+2,(by omega),rfl,rfl⟩
 ·clear H hse1
  rintro s1 fl a σ H ⟨M1,fM1_0,rfl,rfl⟩ K2 O2 hK2 hO2
  unfold mU at H;dsimp only at H
  refine Wsq [0,1,5] fun K3 hK3=>?_
  refine S0 tok [] [0,1,5,9] ?_
  refine Ci H (fun H=>?_) fun H=>?_
  ·refine Wsk (Jn hK3 ?_)
   refine Wsq [0,1,5] fun K4 hK4=>?_
   refine Wbl (Wth ?_)
   obtain⟨v2,hv2,H⟩:=bE H
   refine Sx tok [] [0,1,5,17] (by intro K k;simp -dsimp -implicitDefEqProofs [ix23 hv2];exact k) ?_
   refine Ci H (fun H=>?_) fun H=>?_
   ·refine S0 tok [] [4] ?_
    obtain rfl:=oi H
    refine Kp [4] ?_
    refine Wr (hO2 _ _ _ _ rfl ⟨rfl,?_⟩)
    exact⟨[.bool true],by simp,4,by simp[eN]⟩
   refine Wsk (Jn hK4 ?_)
   refine Rt0 tok [] [0,1,5] fun a ha=>?_
   obtain rfl:=oi H
   refine hK2 _ _ _ rfl ?_;rw[ha]
   exact Rf ⟨M1+13,(by omega),rfl,rfl⟩
  obtain rfl:=oi H
  refine zJ (hO2 _ _ _ _ rfl ⟨rfl,?_⟩)
  refine Rc.rw (l:=[]) (X:=[]) rfl ?_
  exact Rf ⟨M1+4,(by omega),rfl,rfl⟩
 intro x a σ hx
 rcases e1 with⟨⟩|r0
 ·obtain⟨rfl,b,τ,hr,M2,fM2_0,rfl,rfl⟩:=hx
  (try dsimp only at H)
  show K1 _ _
  refine hK1 _ _ (zK hr ?_)
  refine Rc.mk ?_
  refine S0 tok [] [4] ?_
  obtain rfl:=oi H;exact Wr ⟨_,rfl,4,by simp[eN]⟩
 obtain⟨rfl,hx2⟩:=hx
 (try dsimp only at H)
 obtain rfl:=oi H;first|exact hx2|(simp only[List.set_set] at hx2 ⊢;exact hx2)

theorem c184 {p0:Int}{p1:List Int}{r:Bool}(H:pR p0 p1=some r):APure Tryz.prog G 184 [.int .i64 p0,.fsl (eL rI p1)] (.bool r):=by
 refine zE (fun N0=>?_) (by simp)
 refine fnK tok Tryz.func184 Tryz.ntmps184 Tryz.results184 ?_
 simp only[argsA,Nat.reduceAdd,hpN]
 unfold pR at H
 refine S0 tok [] [0,1] ?_
 obtain⟨r1,hr1,H⟩:=bE H
 refine Sx tok [] [4] (by intro K k;(repeat first|simp -dsimp -implicitDefEqProofs|refine(c190 hr1).app ?_);exact k) ?_
 obtain rfl:=oi H;exact Wr ⟨_,rfl,4,by simp[eN]⟩

theorem c171 {p0:gQuad}{p1:gFact}{p2:gFact}{r:gQuad}(H:gB p0 p1 p2=some r):APure Tryz.prog G 171 [.agg [.int .i64 p0.Op,.int .i64 p0.Dst,.int .i64 p0.A,.int .i64 p0.B,.int .i64 p0.N],.agg [.int .i64 p1.Kind,.int .i64 p1.N],.agg [.int .i64 p2.Kind,.int .i64 p2.N]] (.agg [.int .i64 r.Op,.int .i64 r.Dst,.int .i64 r.A,.int .i64 r.B,.int .i64 r.N]):=by
 refine zE (fun N0=>?_) (by simp)
 refine fnK tok Tryz.func171 Tryz.ntmps171 Tryz.results171 ?_
 simp only[argsA,Nat.reduceAdd,hpN]
 unfold gB at H
 refine S0 tok [0,1,2] [3,4,5,6] ?_
 obtain⟨r1,hr1,H⟩:=bE H
 refine Sx tok [] [3,4,5,6,7] (by intro K k;(repeat first|simp -dsimp -implicitDefEqProofs|refine(c183 hr1).app ?_);exact k) ?_
 refine Wsq [3,6] fun K1 hK1=>?_
 refine Wbl (Wth ?_)
 refine S0 tok [] [3,4,5,6,7,12] ?_
 refine Ci H (fun H=>?_) fun H=>?_
 ·refine S0 tok [] [6] ?_
  obtain rfl:=oi H
  refine Kp [6] ?_
  refine Wr ?_
  exact⟨[.agg [.int .i64 1,.int .i64 p0.Dst,.int .i64 0,.int .i64 0,.int .i64 r1.N]],by simp,4,by simp[eN]⟩
 obtain⟨r2,hr2,H⟩:=bE H
 obtain⟨g4,hg4,H⟩:=bE H
 refine Sx tok [5] [3,4,5,6,21] (X:=[(3,.fptr [.int .i64 p0.Op,.int .i64 p0.Dst,.int .i64 p0.A,.int .i64 p0.B,.int .i64 p0.N] 0),(4,.fptr [.int .i64 p1.Kind,.int .i64 p1.N] 0),(5,.fptr [.int .i64 p2.Kind,.int .i64 p2.N] 0),(6,.ptr (N0+3) 0 0),(21,.bool g4)]) (Y:=hp E0 [(N0+3,some ⟨36,5,[[.int .i64 0,.int .i64 0,.int .i64 0,.int .i64 0,.int .i64 0]]⟩),(N0+8,some ⟨180,2,[[.int .i64 r1.Kind,.int .i64 r1.N]]⟩)] (N0+23)) (by
  intro K k
  simp -dsimp -implicitDefEqProofs
  refine(c172 hr2).app ?_;try simp -dsimp -implicitDefEqProofs
  cases hbg4:r2
  ·obtain rfl:=oi (ifF hbg4 hg4)
   try simp -dsimp -implicitDefEqProofs [hbg4]
   exact k
  replace hg4:=ifT hbg4 hg4
  obtain⟨r3,hr3,hg4⟩:=bE hg4
  have q0:∀σ i,bsA T 23 true i 6 [(0,.int .i64 1),(1,.int .i64 2),(2,.int .i64 6),(3,.int .i64 7),(4,.int .i64 8),(5,.int .i64 9)] σ=some (.fsl (eL rI ([1,2,6,7,8,9]:List Int)),σ):=fun _ _=>rfl
  obtain rfl:=oi hg4
  try simp -dsimp -implicitDefEqProofs [hbg4,q0]
  refine(c184 hr3).app ?_;try simp -dsimp -implicitDefEqProofs [hbg4,q0]
  exact k) ?_
 refine Ci H (fun H=>?_) fun H=>?_
 ·refine S0 tok [] [6] ?_
  obtain rfl:=oi H
  refine Kp [6] ?_
  refine Wr ?_
  exact⟨[.agg [.int .i64 2,.int .i64 p0.Dst,.int .i64 p0.A,.int .i64 0,.int .i64 0]],by simp,4,by simp[eN]⟩
 obtain⟨r5,hr5,H⟩:=bE H
 obtain⟨g7,hg7,H⟩:=bE H
 refine Sx tok [5] [3,4,5,6,35] (X:=[(3,.fptr [.int .i64 p0.Op,.int .i64 p0.Dst,.int .i64 p0.A,.int .i64 p0.B,.int .i64 p0.N] 0),(4,.fptr [.int .i64 p1.Kind,.int .i64 p1.N] 0),(5,.fptr [.int .i64 p2.Kind,.int .i64 p2.N] 0),(6,.ptr (N0+3) 0 0),(35,.bool g7)]) (Y:=hp E0 [(N0+3,some ⟨36,5,[[.int .i64 0,.int .i64 0,.int .i64 0,.int .i64 0,.int .i64 0]]⟩),(N0+8,some ⟨180,2,[[.int .i64 r1.Kind,.int .i64 r1.N]]⟩)] (N0+32)) (by
  intro K k
  simp -dsimp -implicitDefEqProofs
  refine(c172 hr5).app ?_;try simp -dsimp -implicitDefEqProofs
  cases hbg7:r5
  ·obtain rfl:=oi (ifF hbg7 hg7)
   try simp -dsimp -implicitDefEqProofs [hbg7]
   exact k
  replace hg7:=ifT hbg7 hg7
  obtain⟨r6,hr6,hg7⟩:=bE hg7
  have q1:∀σ i,bsA T 23 true i 2 [(0,.int .i64 10),(1,.int .i64 11)] σ=some (.fsl (eL rI ([10,11]:List Int)),σ):=fun _ _=>rfl
  obtain rfl:=oi hg7
  try simp -dsimp -implicitDefEqProofs [hbg7,q1]
  refine(c184 hr6).app ?_;try simp -dsimp -implicitDefEqProofs [hbg7,q1]
  exact k) ?_
 refine Ci H (fun H=>?_) fun H=>?_
 ·refine S0 tok [] [6] ?_
  obtain rfl:=oi H
  refine Kp [6] ?_
  refine Wr ?_
  exact⟨[.agg [.int .i64 2,.int .i64 p0.Dst,.int .i64 p0.A,.int .i64 0,.int .i64 0]],by simp,4,by simp[eN]⟩
 obtain⟨r8,hr8,H⟩:=bE H
 obtain⟨g10,hg10,H⟩:=bE H
 refine Sx tok [5] [3,4,5,6,49] (X:=[(3,.fptr [.int .i64 p0.Op,.int .i64 p0.Dst,.int .i64 p0.A,.int .i64 p0.B,.int .i64 p0.N] 0),(4,.fptr [.int .i64 p1.Kind,.int .i64 p1.N] 0),(5,.fptr [.int .i64 p2.Kind,.int .i64 p2.N] 0),(6,.ptr (N0+3) 0 0),(49,.bool g10)]) (Y:=hp E0 [(N0+3,some ⟨36,5,[[.int .i64 0,.int .i64 0,.int .i64 0,.int .i64 0,.int .i64 0]]⟩),(N0+8,some ⟨180,2,[[.int .i64 r1.Kind,.int .i64 r1.N]]⟩)] (N0+41)) (by
  intro K k
  simp -dsimp -implicitDefEqProofs
  refine(c172 hr8).app ?_;try simp -dsimp -implicitDefEqProofs
  cases hbg10:r8
  ·obtain rfl:=oi (ifF hbg10 hg10)
   try simp -dsimp -implicitDefEqProofs [hbg10]
   exact k
  replace hg10:=ifT hbg10 hg10
  obtain⟨r9,hr9,hg10⟩:=bE hg10
  have q2:∀σ i,bsA T 23 true i 3 [(0,.int .i64 1),(1,.int .i64 2),(2,.int .i64 8)] σ=some (.fsl (eL rI ([1,2,8]:List Int)),σ):=fun _ _=>rfl
  obtain rfl:=oi hg10
  try simp -dsimp -implicitDefEqProofs [hbg10,q2]
  refine(c184 hr9).app ?_;try simp -dsimp -implicitDefEqProofs [hbg10,q2]
  exact k) ?_
 refine Ci H (fun H=>?_) fun H=>?_
 ·refine S0 tok [] [6] ?_
  obtain rfl:=oi H
  refine Kp [6] ?_
  refine Wr ?_
  exact⟨[.agg [.int .i64 2,.int .i64 p0.Dst,.int .i64 p0.B,.int .i64 0,.int .i64 0]],by simp,4,by simp[eN]⟩
 obtain⟨r11,hr11,H⟩:=bE H
 obtain⟨g12,hg12,H⟩:=bE H
 refine Sx tok [] [3,4,5,6,63] (X:=[(3,.fptr [.int .i64 p0.Op,.int .i64 p0.Dst,.int .i64 p0.A,.int .i64 p0.B,.int .i64 p0.N] 0),(4,.fptr [.int .i64 p1.Kind,.int .i64 p1.N] 0),(5,.fptr [.int .i64 p2.Kind,.int .i64 p2.N] 0),(6,.ptr (N0+3) 0 0),(63,.bool g12)]) (Y:=hp E0 [(N0+3,some ⟨36,5,[[.int .i64 0,.int .i64 0,.int .i64 0,.int .i64 0,.int .i64 0]]⟩),(N0+8,some ⟨180,2,[[.int .i64 r1.Kind,.int .i64 r1.N]]⟩)] (N0+49)) (by
  intro K k
  simp -dsimp -implicitDefEqProofs
  refine(c172 hr11).app ?_;try simp -dsimp -implicitDefEqProofs
  cases hbg12:r11
  ·obtain rfl:=oi (ifF hbg12 hg12)
   try simp -dsimp -implicitDefEqProofs [hbg12]
   exact k
  obtain rfl:=oi (ifT hbg12 hg12)
  try simp -dsimp -implicitDefEqProofs [hbg12]
  exact k) ?_
 refine Ci H (fun H=>?_) fun H=>?_
 ·refine S0 tok [] [6] ?_
  obtain rfl:=oi H
  refine Kp [6] ?_
  refine Wr ?_
  exact⟨[.agg [.int .i64 2,.int .i64 p0.Dst,.int .i64 p0.B,.int .i64 0,.int .i64 0]],by simp,4,by simp[eN]⟩
 obtain⟨g13,hg13,H⟩:=bE H
 obtain⟨g15,hg15,H⟩:=bE H
 refine Sx tok [9] [3,6,76] (X:=[(3,.fptr [.int .i64 p0.Op,.int .i64 p0.Dst,.int .i64 p0.A,.int .i64 p0.B,.int .i64 p0.N] 0),(6,.ptr (N0+3) 0 0),(76,.bool g15)]) (Y:=hp E0 [(N0+3,some ⟨36,5,[[.int .i64 0,.int .i64 0,.int .i64 0,.int .i64 0,.int .i64 0]]⟩),(N0+8,some ⟨180,2,[[.int .i64 r1.Kind,.int .i64 r1.N]]⟩)] (N0+62)) (by
  intro K k
  simp -dsimp -implicitDefEqProofs
  refine(c172 hr8).app ?_;try simp -dsimp -implicitDefEqProofs
  cases hbg13:r8
  ·obtain rfl:=oi (ifF hbg13 hg13)
   try simp -dsimp -implicitDefEqProofs [hbg13]
   refine(c172 hr2).app ?_;try simp -dsimp -implicitDefEqProofs [hbg13]
   cases hbg15:r2
   ·obtain rfl:=oi (ifF hbg15 hg15)
    try simp -dsimp -implicitDefEqProofs [hbg13,hbg15]
    exact k
   replace hg15:=ifT hbg15 hg15
   obtain⟨r14,hr14,hg15⟩:=bE hg15
   have q3:∀σ i,bsA T 23 true i 2 [(0,.int .i64 3),(1,.int .i64 10)] σ=some (.fsl (eL rI ([3,10]:List Int)),σ):=fun _ _=>rfl
   obtain rfl:=oi hg15
   try simp -dsimp -implicitDefEqProofs [hbg13,hbg15,q3]
   refine(c184 hr14).app ?_;try simp -dsimp -implicitDefEqProofs [hbg13,hbg15,q3]
   exact k
  obtain rfl:=oi (ifT hbg13 hg13)
  try simp -dsimp -implicitDefEqProofs [hbg13]
  replace hg15:=ifT rfl hg15
  obtain⟨r14,hr14,hg15⟩:=bE hg15
  have q3:∀σ i,bsA T 23 true i 2 [(0,.int .i64 3),(1,.int .i64 10)] σ=some (.fsl (eL rI ([3,10]:List Int)),σ):=fun _ _=>rfl
  obtain rfl:=oi hg15
  try simp -dsimp -implicitDefEqProofs [hbg13,q3]
  refine(c184 hr14).app ?_;try simp -dsimp -implicitDefEqProofs [hbg13,q3]
  exact k) ?_
 refine Ci H (fun H=>?_) fun H=>?_
 ·refine S0 tok [] [6] ?_
  obtain rfl:=oi H
  refine Kp [6] ?_
  refine Wr ?_
  exact⟨[.agg [.int .i64 1,.int .i64 p0.Dst,.int .i64 0,.int .i64 0,.int .i64 0]],by simp,4,by simp[eN]⟩
 refine Wsk (Jn hK1 ?_)
 refine S0 tok [] [6] ?_
 obtain rfl:=oi H
 refine Kp [6] ?_
 refine Wr ?_
 exact⟨[.agg [.int .i64 p0.Op,.int .i64 p0.Dst,.int .i64 p0.A,.int .i64 p0.B,.int .i64 p0.N]],by simp,4,by simp[eN]⟩

theorem c152 {p0:gQuad}{p1:List gFact}{p2:Int}{r:gQuad}(H:nY p0 p1 p2=some r):APure Tryz.prog G 152 [.agg [.int .i64 p0.Op,.int .i64 p0.Dst,.int .i64 p0.A,.int .i64 p0.B,.int .i64 p0.N],.fsl (eL rFact p1),.int .i64 p2] (.agg [.int .i64 r.Op,.int .i64 r.Dst,.int .i64 r.A,.int .i64 r.B,.int .i64 r.N]):=by
 refine zE (fun N0=>?_) (by simp)
 refine fnK tok Tryz.func152 Tryz.ntmps152 Tryz.results152 ?_
 simp only[argsA,Nat.reduceAdd,hpN]
 unfold nY at H
 refine S0 tok [0] [1,2,3,6] ?_
 refine Wsq [1,2,3,6] fun K1 hK1=>?_
 obtain⟨v1,hv1,H⟩:=bE H
 refine Sx tok [] [1,2,3,6,11] (by intro K k;simp -dsimp -implicitDefEqProofs [ix166 hv1];exact k) ?_
 refine Ci H (fun H=>?_) fun H=>?_
 ·refine S0 tok [] [6] ?_
  obtain rfl:=oi H
  refine Kp [6] ?_
  refine Wr ?_
  exact⟨[.agg [.int .i64 p0.Op,.int .i64 p0.Dst,.int .i64 p0.A,.int .i64 p0.B,.int .i64 p0.N]],by simp,4,by simp[eN]⟩
 refine Wsk (Jn hK1 ?_)
 refine Wsq [3,6] fun K2 hK2=>?_
 refine S0 tok [] [1,2,3,6,14] ?_
 refine Wbl (Wth ?_)
 refine S0 tok [] [1,2,3,6,14,15] ?_
 refine Ci H (fun H=>?_) fun H=>?_
 ·obtain⟨v2,hv2,H⟩:=bE H
  refine Sx tok [] [1,3,6,23] (by intro K k;simp -dsimp -implicitDefEqProofs [ix166 hv2];exact k) ?_
  refine Ci H (fun H=>?_) fun H=>?_
  ·refine Sd tok tokM [] [9] [0,1,2,3,4,5,6,7,8,9] [6] (by
    intro K k
    simp only[pickL,zO,zQ]
    simp -dsimp -implicitDefEqProofs [ix166 hv2]
    exact k) ?_
   obtain rfl:=oi H
   refine Kp [6] ?_
   refine Wr ?_
   exact⟨[.agg [.int .i64 1,.int .i64 p0.Dst,.int .i64 0,.int .i64 0,.int .i64 v2.N]],by simp,4,by simp[eN]⟩
  refine Wsk (Jn hK2 ?_)
  refine S0 tok [] [6] ?_
  obtain rfl:=oi H
  refine Kp [6] ?_
  refine Wr ?_
  exact⟨[.agg [.int .i64 p0.Op,.int .i64 p0.Dst,.int .i64 p0.A,.int .i64 p0.B,.int .i64 p0.N]],by simp,4,by simp[eN]⟩
 refine S0 tok [] [1,2,3,6,14,33] ?_
 refine Ci H (fun H=>?_) fun H=>?_
 ·obtain⟨v3,hv3,H⟩:=bE H
  obtain⟨v4,hv4,H⟩:=bE H
  obtain⟨r5,hr5,H⟩:=bE H
  refine Sd tok tokM [] [12] [0,1,2,3,4,5,6,7,8,9,10,11,12] [6] (by
   intro K k
   simp only[pickL,zO,zQ]
   repeat first|simp -dsimp -implicitDefEqProofs [ix166 hv3,ix166 hv4]|refine Pc.mk (c171 hr5) ?_
   exact k) ?_
  obtain rfl:=oi H
  refine Kp [6] ?_
  refine Wr ?_
  exact⟨[.agg [.int .i64 r5.Op,.int .i64 r5.Dst,.int .i64 r5.A,.int .i64 r5.B,.int .i64 r5.N]],by simp,4,by simp[eN]⟩
 refine S0 tok [] [1,2,3,6,47] ?_
 refine Ci H (fun H=>?_) fun H=>?_
 ·refine Wsq [1,2,3,6] fun K3 hK3=>?_
  obtain⟨v6,hv6,H⟩:=bE H
  obtain⟨r7,hr7,H⟩:=bE H
  refine Sx tok [] [1,2,3,6,54] (by intro K k;(repeat first|simp -dsimp -implicitDefEqProofs [ix166 hv6]|refine(c172 hr7).app ?_);exact k) ?_
  refine Ci H (fun H=>?_) fun H=>?_
  ·refine S0 tok [] [6] ?_
   obtain rfl:=oi H
   refine Kp [6] ?_
   refine Wr ?_
   exact⟨[.agg [.int .i64 4,.int .i64 0,.int .i64 0,.int .i64 0,.int .i64 p0.N]],by simp,4,by simp[eN]⟩
  refine Wsk (Jn hK3 ?_)
  refine Sx tok [] [2,3,6,64] (by intro K k;simp -dsimp -implicitDefEqProofs [ix166 hv6];exact k) ?_
  refine Ci H (fun H=>?_) fun H=>?_
  ·refine S0 tok [] [6] ?_
   obtain rfl:=oi H
   refine Kp [6] ?_
   refine Wr ?_
   exact⟨[.agg [.int .i64 4,.int .i64 0,.int .i64 0,.int .i64 0,.int .i64 (iadd .i64 p2 1)]],by simp,4,by simp[eN]⟩
  refine Wsk (Jn hK2 ?_)
  refine S0 tok [] [6] ?_
  obtain rfl:=oi H
  refine Kp [6] ?_
  refine Wr ?_
  exact⟨[.agg [.int .i64 p0.Op,.int .i64 p0.Dst,.int .i64 p0.A,.int .i64 p0.B,.int .i64 p0.N]],by simp,4,by simp[eN]⟩
 refine Wsk (Jn hK2 ?_)
 refine S0 tok [] [6] ?_
 obtain rfl:=oi H
 refine Kp [6] ?_
 refine Wr ?_
 exact⟨[.agg [.int .i64 p0.Op,.int .i64 p0.Dst,.int .i64 p0.A,.int .i64 p0.B,.int .i64 p0.N]],by simp,4,by simp[eN]⟩

theorem c130 {p0:List gQuad}{r:(List gQuad)×Bool}(H:qM p0=some r):APure Tryz.prog G 130 [.fsl (eL rQuad p0)] (.tup [.fsl (eL rQuad r.1),.bool r.2]):=by
 refine zE (fun N0=>?_) (by simp)
 refine fnK tok Tryz.func130 Tryz.ntmps130 Tryz.results130 ?_
 simp only[argsA,Nat.reduceAdd,hpN]
 unfold qM at H
 refine S0 tok [] [0] ?_
 have q0:∀σ i,bsA T 34 true i 0 [] σ=some (.esl,σ):=fun _ _=>rfl
 refine Sx tok [0] [0,4] (by intro K k;simp -dsimp -implicitDefEqProofs [q0];exact k) ?_
 refine Wsq [0,4] fun K1 hK1=>?_
 obtain⟨r1,hr1,H⟩:=bE H
 refine Sx tok [] [0,4,10] (by intro K k;(repeat first|simp -dsimp -implicitDefEqProofs|refine(c103 hr1).app ?_);exact k) ?_
 refine Ci H (fun H=>?_) fun H=>?_
 ·refine S0 tok [] [2,3] ?_
  obtain rfl:=oi H;exact Wr ⟨_,rfl,4,by simp[eN]⟩
 refine Wsk (Jn hK1 ?_)
 obtain⟨r2,hr2,H⟩:=bE H
 refine Sx tok [] [0,4,5] (by intro K k;(repeat first|simp -dsimp -implicitDefEqProofs|refine(c151 hr2).app ?_);exact k) ?_
 refine Wsq [4] fun K2 hK2=>?_
 refine S0 tok [] [0,4,5,6] ?_
 refine Wbl (Wth ?_)
 obtain⟨e1,hse1,H⟩:=bE H
 refine zS [0,4,5,6] (fun s a σ=>∃M1 o1:Nat,N0≤M1∧N0≤o1∧o1<M1∧a=[(0,.fsl (eL rQuad p0)),(4,.sl o1 0 s.2.length),(5,.fsl (eL kP r2)),(6,.int .i64 s.1)]∧σ=hp E0 [(o1,some ⟨36,5,eL rQuad s.2⟩)] M1) (fun s x a σ=>x=.exit 0∧Rc G 34 N0 (fun a σ=>∃M2 o2:Nat,N0≤M2∧N0≤o2∧o2<M2∧a=[(4,.sl o2 0 s.length)]∧σ=hp E0 [(o2,some ⟨36,5,eL rQuad s⟩)] M2) (AAct.keep a [4]) σ) hse1 ?_ ?_ ?_
 ·refine Rc.kp [0,4,5,6] [(0,.fsl (eL rQuad p0)),(4,.esl),(5,.fsl (eL kP r2)),(6,.int .i64 0)] rfl ?_
  refine gNilS zK 4 36 5 [(N0+11,some ⟨36,5,eL rQuad ([]:List gQuad)⟩)] [(0,.fsl (eL rQuad p0)),(4,.sl (N0+11) 0 ([]:List gQuad).length),(5,.fsl (eL kP r2)),(6,.int .i64 0)] (by simp(disch:=omega)) (by simp(disch:=omega) [eN]) [0,4,5,6] rfl ?_
  exact Rf ⟨N0+12,(N0+11),(by omega),(by omega),(by omega),rfl,rfl⟩
 ·clear H hse1
  rintro⟨s3,s4⟩ fl a σ H ⟨M1,o1,fM1_0,fM1_1,fM1_2,rfl,rfl⟩ K3 O3 hK3 hO3
  unfold uS at H;dsimp only at H
  refine Wsq [0,4,5,6] fun K4 hK4=>?_
  refine S0 tok [] [0,4,5,6,17] ?_
  refine Ci H (fun H=>?_) fun H=>?_
  ·refine Wsk (Jn hK4 ?_)
   refine Wsq [0,4,5,6] fun K5 hK5=>?_
   refine Wbl (Wth ?_)
   obtain⟨v6,hv6,H⟩:=bE H
   obtain⟨v7,hv7,H⟩:=bE H
   obtain⟨r8,hr8,H⟩:=bE H
   obtain⟨l9,hl9,H⟩:=bE H
   have q1:∀σ i,bsA T 34 true i 1 [(0,.agg [.int .i64 r8.Op,.int .i64 r8.Dst,.int .i64 r8.A,.int .i64 r8.B,.int .i64 r8.N])] σ=some (.fsl (eL rQuad ([r8]:List gQuad)),σ):=fun _ _=>rfl
   refine mQ tok tokM [11] [12] [0,1,2,3,4,5,6,7,8,9,10,11,12,13] [0,4,5,6] (fun a σ=>a=[(0,.fsl (eL rQuad p0)),(4,.sl (M1+16) 0 l9.length),(5,.fsl (eL kP r2)),(6,.int .i64 s3)]∧σ=hp E0 [(M1+16,some ⟨36,5,eL rQuad l9⟩)] (M1+18)) (by decide) (fun K hK=>?_) ?_
   ·simp only[pickL,zO,zQ]
    have e0:=nQ o1 (M1+16)
    simp -dsimp -implicitDefEqProofs [e0,ix34 hv6,ix163 hv7,q1,app34 hl9]
    refine Pc.mk (c152 hr8) ?_;try simp -dsimp -implicitDefEqProofs [e0,ix34 hv6,ix163 hv7,q1,app34 hl9]
    exact hK _ _ ⟨rfl,rfl⟩
   rintro a σ ⟨ha,rfl⟩
   refine hK5 _ _ ?_;rw[ha]
   refine Rc.mk ?_
   refine Rt0 tok [] [0,4,5,6] fun a ha=>?_
   obtain rfl:=oi H
   refine hK3 _ _ _ rfl ?_;rw[ha]
   exact Rf ⟨M1+21,(M1+16),(by omega),(by omega),(by omega),rfl,rfl⟩
  obtain rfl:=oi H
  refine zJ (hO3 _ _ _ _ rfl ⟨rfl,?_⟩)
  refine Rc.rw (l:=[4]) (X:=[(4,.sl o1 0 s4.length)]) rfl ?_
  exact Rf ⟨M1+4,o1,(by omega),(by omega),(by omega),rfl,rfl⟩
 intro x a σ hx
 obtain⟨y5,rfl⟩:∃x,x=e1:=⟨_,rfl⟩
 obtain⟨rfl,b,τ,hr,M2,o2,fM2_0,fM2_1,fM2_2,rfl,rfl⟩:=hx
 (try dsimp only at H)
 show K2 _ _
 refine hK2 _ _ (zK hr ?_)
 refine Rc.mk ?_
 refine S0 tok [] [2,3] ?_
 obtain rfl:=oi H;exact Wr ⟨_,rfl,4,by simp[eN]⟩

theorem c191 {p0:gQuad}{r:Int}(H:xD p0=some r):APure Tryz.prog G 191 [.agg [.int .i64 p0.Op,.int .i64 p0.Dst,.int .i64 p0.A,.int .i64 p0.B,.int .i64 p0.N]] (.int .i64 r):=by
 refine zE (fun N0=>?_) (by simp)
 refine fnK tok Tryz.func191 Tryz.ntmps191 Tryz.results191 ?_
 simp only[argsA,Nat.reduceAdd,hpN]
 unfold xD at H
 refine S0 tok [0] [1] ?_
 refine Wsq [1] fun K1 hK1=>?_
 obtain⟨r1,hr1,H⟩:=bE H
 refine Sx tok [] [1,5] (by intro K k;(repeat first|simp -dsimp -implicitDefEqProofs|refine(c119 hr1).app ?_);exact k) ?_
 refine Ci H (fun H=>?_) fun H=>?_
 ·refine S0 tok [] [2] ?_
  obtain rfl:=oi H;exact Wr ⟨_,rfl,4,by simp[eN]⟩
 refine Wsk (Jn hK1 ?_)
 refine Wsq [] fun K2 hK2=>?_
 refine S0 tok [] [1,7] ?_
 refine Wbl (Wth ?_)
 obtain⟨j1,hj1,H⟩:=bE H
 refine kR (kQ fun K3 hK3=>?_)
 have hJ1:∀a σ,Rc G 15 N0 (fun a σ=>∃M1:Nat,N0≤M1∧a=[(1,.fptr [.int .i64 p0.Op,.int .i64 p0.Dst,.int .i64 p0.A,.int .i64 p0.B,.int .i64 p0.N] 0),(8,.bool j1)]∧σ=hp E0 [] M1) (a.keep [1,8]) σ→K3 a σ:=by
  rintro a σ ⟨b,τ,hr,M1,fM1_0,rfl,rfl⟩
  refine hK3 _ _ (kI [1,8] (Wre hr ?_))
  refine Ci H (fun H=>?_) fun H=>?_
  ·refine S0 tok [] [2] ?_
   obtain rfl:=oi H;exact Wr ⟨_,rfl,4,by simp[eN]⟩
  refine Wsk (Jn hK2 ?_)
  refine S0 tok [] [2] ?_
  obtain rfl:=oi H;exact Wr ⟨_,rfl,4,by simp[eN]⟩
 replace H:=hj1
 refine S0 tok [] [1,7,8] ?_
 refine Ci H (fun H=>?_) fun H=>?_
 ·refine Wsk ?_
  show K3 _ _
  refine kE [1,8] fun a' ha=>?_
  obtain rfl:=oi H
  refine hJ1 _ _ ?_;rw[ha]
  exact Rf ⟨N0+9,(by omega),rfl,rfl⟩
 refine S0 tok [] [1,7,8] ?_
 refine Ci H (fun H=>?_) fun H=>?_
 ·refine Wsk ?_
  show K3 _ _
  refine kE [1,8] fun a' ha=>?_
  obtain rfl:=oi H
  refine hJ1 _ _ ?_;rw[ha]
  exact Rf ⟨N0+11,(by omega),rfl,rfl⟩
 refine S0 tok [] [1,7,8] ?_
 refine Ci H (fun H=>?_) fun H=>?_
 ·refine Wsk ?_
  show K3 _ _
  refine kE [1,8] fun a' ha=>?_
  obtain rfl:=oi H
  refine hJ1 _ _ ?_;rw[ha]
  exact Rf ⟨N0+13,(by omega),rfl,rfl⟩
 refine Rt0 tok [] [1,8] fun a ha=>?_
 obtain rfl:=oi H
 refine hJ1 _ _ ?_;rw[ha]
 exact Rf ⟨N0+15,(by omega),rfl,rfl⟩

theorem c186 {p0:(List (List Int))}{p1:Int}{p2:List Int}{r:Bool×(List (List Int))}(H:qA p0 p1 p2=some r){σ:AHeap}{w0:Nat}(q0:σ.objs w0=some ⟨23,1,eL zW p0⟩):ACalls Tryz.prog G 186 [.sl w0 0 p0.length,.int .i64 p1,.fsl (eL rI p2)] σ (fun v σ'=>∃M:Nat,σ.next≤M∧r.2.length=p0.length∧v=.bool r.1∧σ'=hp σ.objs [(w0,some ⟨23,1,eL zW r.2⟩)] M):=by
 refine wM (L:=[(w0,some ⟨23,1,eL zW p0⟩)]) (Q1:=fun v σ'=>∃M:Nat,σ.next≤M∧r.2.length=p0.length∧v=.bool r.1∧σ'=hp E0 [(w0,some ⟨23,1,eL zW r.2⟩)] M) (by simp[q0]) (fun hlt=>?_) ?_ ⟨_,Tryz.func186,rfl,rfl⟩
 rotate_left
 ·rintro v σ1 ⟨M,h0,h1,rfl,rfl⟩
  exact⟨_,M,rfl,by simp,by simp;try omega,M,h0,h1,rfl,rfl⟩
 generalize σ.next=N0 at hlt ⊢
 have lw0:w0<N0:=hlt _ (.head _) rfl
 refine fnK tok Tryz.func186 Tryz.ntmps186 Tryz.results186 ?_
 simp only[argsA,Nat.reduceAdd,hpN]
 unfold qA at H
 refine S0 tok [] [0,1,2] ?_
 refine Wsq [0,1,2] fun K1 hK1=>?_
 obtain⟨v1,hv1,H⟩:=bE H
 refine gU Wre w0 p1.toNat 0 ?_ (hr:=by exact tZ zW hv1)
 refine Sx tok [] [0,1,2,14] (by
  intro K k
  have e0:=nQ w0 (N0+1)
  simp -dsimp -implicitDefEqProofs [e0,(gset hv1 _),ixo86 hv1,(zG hv1).2.2]
  exact k) ?_
 refine Ci H (fun H=>?_) fun H=>?_
 ·obtain⟨l2,hl2,H⟩:=bE H
  have q0:∀σ i,bsA T 23 true i 0 [] σ=some (.esl,σ):=fun _ _=>rfl
  refine Sx tok [2] [] (by
   intro K k
   have e0:=nQ w0 (N0+1)
   have e1:=nQ w0 (N0+12)
   simp -dsimp -implicitDefEqProofs [e0,e1,(gset hv1 _),q0,appe23 hl2,ixo86 hv1,(zG hv1).2.2]
   exact k) ?_
  refine Sx tok [] [6] (by
   intro K k
   have e0:=nQ w0 (N0+1)
   have e1:=nQ w0 (N0+12)
   simp -dsimp -implicitDefEqProofs [e0,e1,(gset hv1 _)]
   exact k) ?_
  obtain⟨l3,hl3,H⟩:=bE H
  obtain rfl:=oi H
  refine Kp [6] ?_
  refine gP Wre w0 p1.toNat 0 ?_ (hr:=by exact gset hv1 _)
  rw[show hp E0 [(w0,some ⟨23,1,(eL zW p0).set p1.toNat [.osl 3 1 (eL rI l2)]⟩),(N0+1,some ⟨3,1,eL rI v1⟩)] (N0+16)=hp E0 [(w0,some ⟨23,1,eL zW l3⟩),(N0+1,some ⟨3,1,eL rI v1⟩)] (N0+16) from by rw[(setx_iff.1 hl3).2,← zZ];rfl];(try rw[← zH hl3])
  have z0:=nQ w0 (N0+1)
  refine gDrop Wre [(w0,some ⟨23,1,eL zW l3⟩)] (zP (AHeap.Sub.trans (AHeap.Sub.refl _) (zY rfl (by simp;try omega)))) ?_
  refine Wr ?_
  refine⟨[.bool true],by simp[z0],N0+16,by omega,by first|rfl|exact(zH hl3)|omega,?_,?_⟩
  ·simp[eN]
  first|rfl|simp
 refine Wsk (Jn hK1 ?_)
 refine Sx tok [] [0,1,2,7] (by
  intro K k
  have e0:=nQ w0 (N0+1)
  simp -dsimp -implicitDefEqProofs [e0,(gset hv1 _)]
  exact k) ?_
 refine Wsq [7] fun K2 hK2=>?_
 refine Sx tok [] [0,1,2,7,8] (by
  intro K k
  have e0:=nQ w0 (N0+1)
  simp -dsimp -implicitDefEqProofs [e0,(gset hv1 _)]
  exact k) ?_
 refine Wbl (Wth ?_)
 obtain⟨l4,hl4,H⟩:=bE H
 obtain⟨e1,hse1,H⟩:=bE H
 refine zS [0,1,2,7,8] (fun s a σ=>∃M1:Nat,N0≤M1∧s.2.2.length=p0.length∧a=[(0,.sl w0 0 s.2.2.length),(1,.int .i64 p1),(2,.fsl (eL rI p2)),(7,.bool s.1),(8,.int .i64 s.2.1)]∧σ=hp E0 [(w0,some ⟨23,1,eL zW s.2.2⟩)] M1) (fun s x a σ=>x=.exit 0∧Rc G 56 N0 (fun a σ=>∃M2:Nat,N0≤M2∧s.2.length=p0.length∧a=[(7,.bool s.1)]∧σ=hp E0 [(w0,some ⟨23,1,eL zW s.2⟩)] M2) (AAct.keep a [7]) σ) hse1 ?_ ?_ ?_
 ·refine Rc.kp [0,1,2,7,8] [(0,.sl w0 0 p0.length),(1,.int .i64 p1),(2,.fsl (eL rI p2)),(7,.bool false),(8,.int .i64 0)] rfl ?_
  refine gP zK w0 p1.toNat 0 ?_ (hr:=by exact gset hv1 _)
  rw[show hp E0 [(w0,some ⟨23,1,(eL zW p0).set p1.toNat [.osl 3 1 (eL rI v1)]⟩)] (N0+10)=hp E0 [(w0,some ⟨23,1,eL zW l4⟩)] (N0+10) from by rw[(setx_iff.1 hl4).2,← zZ];rfl];(try rw[← zH hl4])
  exact Rf ⟨N0+10,(by omega),(by first|rfl|exact(zH hl4)|omega),rfl,rfl⟩
 ·clear H hse1
  rintro⟨s5,s6,s7⟩ fl a σ H ⟨M1,fM1_0,fM1_1,rfl,rfl⟩ K3 O3 hK3 hO3
  unfold pM at H;dsimp only at H
  refine Wsq [0,1,2,7,8] fun K4 hK4=>?_
  refine S0 tok [] [0,1,2,7,8,22] ?_
  refine Ci H (fun H=>?_) fun H=>?_
  ·refine Wsk (Jn hK4 ?_)
   refine Wsq [0,1,2,7,8] fun K5 hK5=>?_
   refine Wbl (Wth ?_)
   obtain⟨v10,hv10,H⟩:=bE H
   refine gU Wre w0 p1.toNat 0 ?_ (hr:=by exact tZ zW hv10)
   obtain⟨v11,hv11,H⟩:=bE H
   obtain⟨g13,hg13,H⟩:=bE H
   refine mP tok tokM [] [2,3,5,6,12,13,15,16] [0,1,4,7,2,3,5,6,8,9,10,11,14,17,18,19,20,12,13,15,16,21,22] [0,1,2,7,8,47] (fun a σ=>a=[(0,.sl w0 0 s7.length),(1,.int .i64 p1),(2,.fsl (eL rI p2)),(7,.bool s5),(8,.int .i64 s6),(47,.bool g13)]∧σ=hp E0 [(w0,some ⟨23,1,(eL zW s7).set p1.toNat [.sl (M1+2) 0 v10.length]⟩),(M1+2,some ⟨3,1,eL rI v10⟩)] (M1+26)) (by decide) (fun K hK=>?_) ?_
   ·simp only[pickL,zO,zQ]
    have e0:=nQ w0 (M1+2)
    simp -dsimp -implicitDefEqProofs [e0,(gset hv10 _),ixo86 hv10,(zG hv10).2.2,ixo23 hv11,(zG hv11).2.2]
    cases hbg13:ine v11 s6
    ·obtain rfl:=oi (ifF hbg13 hg13)
     try simp -dsimp -implicitDefEqProofs [e0,(gset hv10 _),ixo86 hv10,(zG hv10).2.2,ixo23 hv11,(zG hv11).2.2,hbg13]
     exact hK _ _ ⟨rfl,rfl⟩
    replace hg13:=ifT hbg13 hg13
    obtain⟨v12,hv12,hg13⟩:=bE hg13
    obtain rfl:=oi hg13
    try simp -dsimp -implicitDefEqProofs [e0,(gset hv10 _),ixo86 hv10,(zG hv10).2.2,ixo23 hv11,(zG hv11).2.2,hbg13,ix23 hv12]
    exact hK _ _ ⟨rfl,rfl⟩
   rintro a σ ⟨rfl,rfl⟩
   refine Ci H (fun H=>?_) fun H=>?_
   ·obtain⟨l14,hl14,H⟩:=bE H
    refine Sx tok [] [0,1,2,8] (by
     intro K k
     have e0:=nQ w0 (M1+2)
     simp -dsimp -implicitDefEqProofs [e0,(gset hv10 _),ixo86 hv10,(zG hv10).2.2,ixo23 hv11,(zG hv11).2.2,(setx_iff.1 hl14).2.symm]
     exact k) ?_
    try rw[← zH hl14]
    refine Rt tok [] [0,1,2,7,8] (by
     intro K k
     have e0:=nQ w0 (M1+2)
     simp -dsimp -implicitDefEqProofs [e0,(gset hv10 _)]
     exact k) fun a ha=>?_
    refine hK5 _ _ ?_;rw[ha]
    refine Rc.mk ?_
    refine Rt tok [] [0,1,2,7,8] (by
     intro K k
     have e0:=nQ w0 (M1+2)
     simp -dsimp -implicitDefEqProofs [e0,(gset hv10 _)]
     exact k) fun a ha=>?_
    obtain⟨l15,hl15,H⟩:=bE H
    obtain rfl:=oi H
    refine hK3 _ _ _ rfl ?_;rw[ha]
    refine gP zK w0 p1.toNat 0 ?_ (hr:=by exact gset hv10 _)
    rw[show hp E0 [(w0,some ⟨23,1,(eL zW s7).set p1.toNat [.osl 3 1 (eL rI l14)]⟩)] (M1+38)=hp E0 [(w0,some ⟨23,1,eL zW l15⟩)] (M1+38) from by rw[(setx_iff.1 hl15).2,← zZ];rfl];(try rw[← zH hl15])
    exact Rf ⟨M1+38,(by omega),(by first|rfl|exact((zH hl15).trans fM1_1)|omega),rfl,rfl⟩
   refine Wsk (Jn hK5 ?_)
   refine Rt tok [] [0,1,2,7,8] (by
    intro K k
    have e0:=nQ w0 (M1+2)
    simp -dsimp -implicitDefEqProofs [e0,(gset hv10 _)]
    exact k) fun a ha=>?_
   obtain⟨l16,hl16,H⟩:=bE H
   obtain rfl:=oi H
   refine hK3 _ _ _ rfl ?_;rw[ha]
   refine gP zK w0 p1.toNat 0 ?_ (hr:=by exact gset hv10 _)
   rw[show hp E0 [(w0,some ⟨23,1,(eL zW s7).set p1.toNat [.osl 3 1 (eL rI v10)]⟩)] (M1+29)=hp E0 [(w0,some ⟨23,1,eL zW l16⟩)] (M1+29) from by rw[(setx_iff.1 hl16).2,← zZ];rfl];(try rw[← zH hl16])
   exact Rf ⟨M1+29,(by omega),(by first|rfl|exact((zH hl16).trans fM1_1)|omega),rfl,rfl⟩
  obtain rfl:=oi H
  refine zJ (hO3 _ _ _ _ rfl ⟨rfl,?_⟩)
  refine Rc.rw (l:=[7]) (X:=[(7,.bool s5)]) rfl ?_
  exact Rf ⟨M1+2,(by omega),(by first|rfl|exact fM1_1|omega),rfl,rfl⟩
 intro x a σ hx
 obtain⟨y8,y9⟩:=e1
 obtain⟨rfl,b,τ,hr,M2,fM2_0,fM2_1,rfl,rfl⟩:=hx
 (try dsimp only at H)
 show K2 _ _
 refine hK2 _ _ (zK hr ?_)
 refine Rc.mk ?_
 refine S0 tok [] [6] ?_
 obtain rfl:=oi H
 refine Kp [6] ?_
 refine Wr ?_
 refine⟨[.bool y8],by simp,M2+2,by omega,by first|rfl|exact fM2_1|omega,?_,?_⟩
 ·simp[eN]
 first|rfl|simp

theorem c185_o {p0:gQuad}{p1:List Int}{r:List Int}(H:vS p0 p1=some r){σ:AHeap}:ACalls Tryz.prog G 185 [.agg [.int .i64 p0.Op,.int .i64 p0.Dst,.int .i64 p0.A,.int .i64 p0.B,.int .i64 p0.N],.fsl (eL rI p1)] σ (fun v σ'=>∃M n0:Nat,σ.next≤M∧σ.next≤n0∧n0<M∧v=.sl n0 0 r.length∧σ'=hp σ.objs [(n0,some ⟨3,1,eL rI r⟩)] M):=by
 refine fr2 [] (by simp) (fun hlt=>?_) ⟨_,Tryz.func185,rfl,rfl⟩
 generalize σ.next=N0 at hlt ⊢
 refine fnK tok Tryz.func185 Tryz.ntmps185 Tryz.results185 ?_
 simp only[argsA,Nat.reduceAdd,hpN]
 unfold vS at H
 refine S0 tok [0] [1,2] ?_
 obtain⟨l1,hl1,H⟩:=bE H
 have q0:∀σ i,bsA T 23 true i 0 [] σ=some (.esl,σ):=fun _ _=>rfl
 refine Sx tok [0] [2,5] (by intro K k;simp -dsimp -implicitDefEqProofs [q0,appe23 hl1];exact k) ?_
 obtain⟨r2,hr2,H⟩:=bE H
 refine Sx tok [] [2,5,6] (by intro K k;(repeat first|simp -dsimp -implicitDefEqProofs|refine(c191 hr2).app ?_);exact k) ?_
 refine Wsq [2,5,6] fun K1 hK1=>?_
 refine S0 tok [] [2,5,6,14] ?_
 refine Ci H (fun H=>?_) fun H=>?_
 ·refine S0 tok [] [4] ?_
  obtain rfl:=oi H
  refine Kp [4] ?_
  refine Wr ?_
  refine⟨[.sl (N0+4) 0 l1.length],by simp,N0+13,N0+4,by omega,by omega,by omega,?_,?_⟩
  ·simp[eN]
  first|rfl|simp
 refine Wsk (Jn hK1 ?_)
 refine Wsq [2,5,6] fun K2 hK2=>?_
 refine S0 tok [] [2,5,6,7] ?_
 refine Wbl (Wth ?_)
 obtain⟨e1,hse1,H⟩:=bE H
 refine zS [2,5,6,7] (fun s a σ=>∃M1 o1:Nat,N0≤M1∧N0≤o1∧o1<M1∧a=[(2,.fptr [.int .i64 p0.Op,.int .i64 p0.Dst,.int .i64 p0.A,.int .i64 p0.B,.int .i64 p0.N] 0),(5,.sl o1 0 s.2.length),(6,.int .i64 r2),(7,.int .i64 s.1)]∧σ=hp E0 [(o1,some ⟨3,1,eL rI s.2⟩)] M1) (fun s x a σ=>x=.exit 0∧Rc G 43 N0 (fun a σ=>∃M2 o2:Nat,N0≤M2∧N0≤o2∧o2<M2∧a=[(2,.fptr [.int .i64 p0.Op,.int .i64 p0.Dst,.int .i64 p0.A,.int .i64 p0.B,.int .i64 p0.N] 0),(5,.sl o2 0 s.length),(6,.int .i64 r2)]∧σ=hp E0 [(o2,some ⟨3,1,eL rI s⟩)] M2) (AAct.keep a [2,5,6]) σ) hse1 ?_ ?_ ?_
 ·refine Rc.kp [2,5,6,7] [(2,.fptr [.int .i64 p0.Op,.int .i64 p0.Dst,.int .i64 p0.A,.int .i64 p0.B,.int .i64 p0.N] 0),(5,.sl (N0+4) 0 l1.length),(6,.int .i64 r2),(7,.int .i64 0)] rfl ?_
  exact Rf ⟨N0+12,(N0+4),(by omega),(by omega),(by omega),rfl,rfl⟩
 ·clear H hse1
  rintro⟨s3,s4⟩ fl a σ H ⟨M1,o1,fM1_0,fM1_1,fM1_2,rfl,rfl⟩ K3 O3 hK3 hO3
  unfold nW at H;dsimp only at H
  refine Wsq [2,5,6,7] fun K4 hK4=>?_
  refine S0 tok [] [2,5,6,7,17] ?_
  refine Ci H (fun H=>?_) fun H=>?_
  ·refine Wsk (Jn hK4 ?_)
   refine Wsq [2,5,6,7] fun K5 hK5=>?_
   refine Wbl (Wth ?_)
   obtain⟨v6,hv6,H⟩:=bE H
   refine Sx tok [] [2,5,6,7,25] (by intro K k;simp -dsimp -implicitDefEqProofs [ixo23 hv6,(zG hv6).2.2];exact k) ?_
   refine Ci H (fun H=>?_) fun H=>?_
   ·obtain⟨l7,hl7,H⟩:=bE H
    refine Rt tok [] [2,5,6,7] (by intro K k;simp -dsimp -implicitDefEqProofs [ixo23 hv6,(zG hv6).2.2,(setx_iff.1 hl7).2.symm];exact k) fun a ha=>?_
    (try rw[← zH hl7] at ha);(try rw[← zH hl7])
    refine hK5 _ _ ?_;rw[ha]
    refine Rc.mk ?_
    refine Rt0 tok [] [2,5,6,7] fun a ha=>?_
    obtain rfl:=oi H
    refine hK3 _ _ _ rfl ?_;rw[ha]
    exact Rf ⟨M1+16,o1,(by omega),(by omega),(by omega),rfl,rfl⟩
   refine Wsk (Jn hK5 ?_)
   refine Rt0 tok [] [2,5,6,7] fun a ha=>?_
   obtain rfl:=oi H
   refine hK3 _ _ _ rfl ?_;rw[ha]
   exact Rf ⟨M1+11,o1,(by omega),(by omega),(by omega),rfl,rfl⟩
  obtain rfl:=oi H
  refine zJ (hO3 _ _ _ _ rfl ⟨rfl,?_⟩)
  refine Rc.rw (l:=[2,5,6]) (X:=[(2,.fptr [.int .i64 p0.Op,.int .i64 p0.Dst,.int .i64 p0.A,.int .i64 p0.B,.int .i64 p0.N] 0),(5,.sl o1 0 s4.length),(6,.int .i64 r2)]) rfl ?_
  exact Rf ⟨M1+2,o1,(by omega),(by omega),(by omega),rfl,rfl⟩
 intro x a σ hx
 obtain⟨y5,rfl⟩:∃x,x=e1:=⟨_,rfl⟩
 obtain⟨rfl,b,τ,hr,M2,o2,fM2_0,fM2_1,fM2_2,rfl,rfl⟩:=hx
 (try dsimp only at H)
 show K2 _ _
 refine hK2 _ _ (zK hr ?_)
 refine Rc.mk ?_
 obtain⟨v8,hv8,H⟩:=bE H
 obtain⟨l9,hl9,H⟩:=bE H
 refine Sx tok [] [2,5,6] (by intro K k;simp -dsimp -implicitDefEqProofs [ixo23 hv8,(zG hv8).2.2,(setx_iff.1 hl9).2.symm];exact k) ?_
 try rw[← zH hl9]
 refine Wsq [5] fun K6 hK6=>?_
 refine S0 tok [] [2,5,6,36] ?_
 refine Ci H (fun H=>?_) fun H=>?_
 ·obtain⟨v10,hv10,H⟩:=bE H
  obtain⟨l11,hl11,H⟩:=bE H
  refine Rt tok [] [5] (by intro K k;simp -dsimp -implicitDefEqProofs [ixo23 hv10,(zG hv10).2.2,(setx_iff.1 hl11).2.symm];exact k) fun a ha=>?_
  (try rw[← zH hl11] at ha);(try rw[← zH hl11])
  refine hK6 _ _ ?_;rw[ha]
  refine Rc.mk ?_
  refine S0 tok [] [4] ?_
  obtain rfl:=oi H
  refine Kp [4] ?_
  refine Wr ?_
  refine⟨[.sl o2 0 l11.length],by simp,M2+16,o2,by omega,by omega,by omega,?_,?_⟩
  ·simp[eN]
  first|rfl|simp
 refine Wsk (Jn hK6 ?_)
 refine S0 tok [] [4] ?_
 obtain rfl:=oi H
 refine Kp [4] ?_
 refine Wr ?_
 refine⟨[.sl o2 0 l9.length],by simp,M2+10,o2,by omega,by omega,by omega,?_,?_⟩
 ·simp[eN]
 first|rfl|simp

theorem c185_o_b {p0:gQuad}{p1:List Int}{r:List Int}(H:vS p0 p1=some r){σ:AHeap}{args:List AV}(hy:args.map (thawA (fun _=>true) σ 8)=[.agg [.int .i64 p0.Op,.int .i64 p0.Dst,.int .i64 p0.A,.int .i64 p0.B,.int .i64 p0.N],.fsl (eL rI p1)]):ACalls Tryz.prog G 185 args σ (fun v σ'=>∃M n0:Nat,σ.next≤M∧σ.next≤n0∧n0<M∧v=.sl n0 0 r.length∧σ'=hp σ.objs [(n0,some ⟨3,1,eL rI r⟩)] M):=by
 refine borrowQ 8 8 (c185_o (σ:=⟨E0,σ.next⟩) H) hy ?_
 rintro _ _ ⟨M,n0,h0,h1,h2,rfl,rfl⟩
 refine⟨_,M,rfl,by simp[AV.rnf,AV.simp1],fun p hp ob ho=>?_,by simp,M,n0,h0,h1,h2,rfl,rfl⟩
 simp only[List.mem_cons,List.not_mem_nil,or_false] at hp
 rcases hp with rfl<;>(cases ho;first|exact encL_nf (fun x=>nf_rI 7 x) _|simp[AV.nf,AV.simp1])

theorem c174 {p0:List gQuad}{p1:(List (List Int))}{r:Bool×(List (List Int))}(H:sZ p0 p1=some r){σ:AHeap}{w1:Nat}(q1:σ.objs w1=some ⟨23,1,eL zW p1⟩):ACalls Tryz.prog G 174 [.fsl (eL rQuad p0),.sl w1 0 p1.length] σ (fun v σ'=>∃M:Nat,σ.next≤M∧r.2.length=p1.length∧v=.bool r.1∧σ'=hp σ.objs [(w1,some ⟨23,1,eL zW r.2⟩)] M):=by
 refine wM (L:=[(w1,some ⟨23,1,eL zW p1⟩)]) (Q1:=fun v σ'=>∃M:Nat,σ.next≤M∧r.2.length=p1.length∧v=.bool r.1∧σ'=hp E0 [(w1,some ⟨23,1,eL zW r.2⟩)] M) (by simp[q1]) (fun hlt=>?_) ?_ ⟨_,Tryz.func174,rfl,rfl⟩
 rotate_left
 ·rintro v σ1 ⟨M,h0,h1,rfl,rfl⟩
  exact⟨_,M,rfl,by simp,by simp;try omega,M,h0,h1,rfl,rfl⟩
 generalize σ.next=N0 at hlt ⊢
 have lw1:w1<N0:=hlt _ (.head _) rfl
 refine fnK tok Tryz.func174 Tryz.ntmps174 Tryz.results174 ?_
 simp only[argsA,Nat.reduceAdd,hpN]
 unfold sZ at H
 refine S0 tok [] [0,1] ?_
 refine S0 tok [] [0,1,5] ?_
 refine Wsq [5] fun K1 hK1=>?_
 refine S0 tok [] [0,1,5,6] ?_
 refine Wbl (Wth ?_)
 obtain⟨e2,hse2,H⟩:=bE H
 refine zS [0,1,5,6] (fun s a σ=>∃M1:Nat,N0≤M1∧s.2.2.length=p1.length∧a=[(0,.fsl (eL rQuad p0)),(1,.sl w1 0 s.2.2.length),(5,.bool s.1),(6,.int .i64 s.2.1)]∧σ=hp E0 [(w1,some ⟨23,1,eL zW s.2.2⟩)] M1) (fun s x a σ=>x=.exit 0∧Rc G 48 N0 (fun a σ=>∃M2:Nat,N0≤M2∧s.2.length=p1.length∧a=[(5,.bool s.1)]∧σ=hp E0 [(w1,some ⟨23,1,eL zW s.2⟩)] M2) (AAct.keep a [5]) σ) hse2 ?_ ?_ ?_
 ·refine Rc.kp [0,1,5,6] [(0,.fsl (eL rQuad p0)),(1,.sl w1 0 p1.length),(5,.bool false),(6,.int .i64 0)] rfl ?_
  exact Rf ⟨N0+3,(by omega),(by first|rfl|exact rfl|omega),rfl,rfl⟩
 ·clear H hse2
  rintro⟨s1,s2,s3⟩ fl a σ H ⟨M1,fM1_0,fM1_1,rfl,rfl⟩ K2 O2 hK2 hO2
  unfold pL at H;dsimp only at H
  refine Wsq [0,1,5,6] fun K3 hK3=>?_
  refine S0 tok [] [0,1,5,6,13] ?_
  refine Ci H (fun H=>?_) fun H=>?_
  ·refine Wsk (Jn hK3 ?_)
   refine Wsq [0,1,5,6] fun K4 hK4=>?_
   refine Wbl (Wth ?_)
   refine Wsq [0,1,5,6] fun K5 hK5=>?_
   obtain⟨v6,hv6,H⟩:=bE H
   refine gU Wre w1 s2.toNat 0 ?_ (hr:=by exact tZ zW hv6)
   refine Sx tok [] [0,1,5,6,21] (by
    intro K k
    have e0:=nQ w1 (M1+4)
    simp -dsimp -implicitDefEqProofs [e0,(gset hv6 _),ixo86 hv6,(zG hv6).2.2]
    exact k) ?_
   refine Ci H (fun H=>?_) fun H=>?_
   ·refine zJ ?_
    show K4 _ _
    refine kE [0,1,5,6] fun a' ha=>?_
    refine hK4 _ _ ?_;rw[ha]
    refine Rc.mk ?_
    refine Rt tok [] [0,1,5,6] (by
     intro K k
     have e0:=nQ w1 (M1+4)
     simp -dsimp -implicitDefEqProofs [e0,(gset hv6 _)]
     exact k) fun a ha=>?_
    obtain⟨l7,hl7,H⟩:=bE H
    obtain rfl:=oi H
    refine hK2 _ _ _ rfl ?_;rw[ha]
    refine gP zK w1 s2.toNat 0 ?_ (hr:=by exact gset hv6 _)
    rw[show hp E0 [(w1,some ⟨23,1,(eL zW s3).set s2.toNat [.osl 3 1 (eL rI v6)]⟩)] (M1+14)=hp E0 [(w1,some ⟨23,1,eL zW l7⟩)] (M1+14) from by rw[(setx_iff.1 hl7).2,← zZ];rfl];(try rw[← zH hl7])
    exact Rf ⟨M1+14,(by omega),(by first|rfl|exact((zH hl7).trans fM1_1)|omega),rfl,rfl⟩
   refine Wsk (Jn hK5 ?_)
   refine gP Wre w1 s2.toNat 0 ?_ (hr:=by exact gset hv6 _)
   obtain⟨l8,hl8,H⟩:=bE H
   rw[show hp E0 [(w1,some ⟨23,1,(eL zW s3).set s2.toNat [.osl 3 1 (eL rI v6)]⟩)] (M1+11)=hp E0 [(w1,some ⟨23,1,eL zW l8⟩)] (M1+11) from by rw[(setx_iff.1 hl8).2,← zZ];rfl];(try rw[← zH hl8])
   obtain⟨r9,hr9,H⟩:=bE H
   refine Sx tok [] [0,1,5,6,7] (by intro K k;(repeat first|simp -dsimp -implicitDefEqProofs|refine(c176 hr9).app ?_);exact k) ?_
   obtain⟨v11,hv11,H⟩:=bE H
   refine gU Wre w1 s2.toNat 0 ?_ (hr:=by exact tZ zW hv11)
   obtain⟨v12,hv12,H⟩:=bE H
   obtain⟨r13,hr13,H⟩:=bE H
   refine mP tok tokM [] [6,7,8] [0,1,2,3,4,5,6,7,8,9] [0,1,5,6,7,8] (fun a σ=>∃M3 o1:Nat,M1+26≤M3∧M1+26≤o1∧o1<M3∧a=[(0,.fsl (eL rQuad p0)),(1,.sl w1 0 l8.length),(5,.bool s1),(6,.int .i64 s2),(7,.fsl (eL rI r9)),(8,.sl o1 0 r13.length)]∧σ=hp E0 [(w1,some ⟨23,1,(eL zW l8).set s2.toNat [.sl (M1+15) 0 v11.length]⟩),(M1+15,some ⟨3,1,eL rI v11⟩),(o1,some ⟨3,1,eL rI r13⟩)] M3) (by decide) (fun K hK=>?_) ?_
   ·simp only[pickL,zO,zQ]
    have e0:=nQ w1 (M1+15)
    simp -dsimp -implicitDefEqProofs [e0,(gset hv11 _),ix34 hv12,ixo86 hv11,(zG hv11).2.2]
    refine(c185_o_b (H:=hr13) (by simp[e0,(gset hv11 _),ix34 hv12,ixo86 hv11,(zG hv11).2.2])).mono ?_;rintro _ _ ⟨M3,o1,fM3_0,fM3_1,fM3_2,rfl,rfl⟩;simp only[hpN] at fM3_0 fM3_1 fM3_2
    have eM3_0:=nQ o1 w1
    have eM3_1:=nQ o1 (M1+15)
    try simp -dsimp -implicitDefEqProofs [e0,(gset hv11 _),ix34 hv12,ixo86 hv11,(zG hv11).2.2,eM3_0,eM3_1,hoS,hoN]
    exact hK _ _ ⟨M3,o1,(by omega),(by omega),(by omega),rfl,rfl⟩
   rintro a σ ⟨M3,o1,fM3_0,fM3_1,fM3_2,rfl,rfl⟩
   refine Sx tok [] [0,1,5,6,7,8,9] (by
    intro K k
    have e0:=nQ w1 (M1+15)
    have e1:=nQ w1 o1
    have e2:=nQ (M1+15) o1
    simp -dsimp -implicitDefEqProofs [e0,e1,e2,(gset hv11 _)]
    exact k) ?_
   refine Wbl (Wth ?_)
   obtain⟨l14,hl14,H⟩:=bE H
   obtain⟨e1,hse1,H⟩:=bE H
   refine zS [0,1,5,6,7,8,9] (fun s a σ=>∃M4:Nat,N0≤M4∧s.2.2.length=p1.length∧a=[(0,.fsl (eL rQuad p0)),(1,.sl w1 0 s.2.2.length),(5,.bool s.1),(6,.int .i64 s2),(7,.fsl (eL rI r9)),(8,.fsl (eL rI r13)),(9,.int .i64 s.2.1)]∧σ=hp E0 [(w1,some ⟨23,1,eL zW s.2.2⟩)] M4) (fun s x a σ=>x=.exit 2∧Rc G 48 N0 (fun a σ=>∃M5:Nat,N0≤M5∧s.2.length=p1.length∧a=[(0,.fsl (eL rQuad p0)),(1,.sl w1 0 s.2.length),(5,.bool s.1),(6,.int .i64 s2)]∧σ=hp E0 [(w1,some ⟨23,1,eL zW s.2⟩)] M5) (AAct.keep a [0,1,5,6]) σ) hse1 ?_ ?_ ?_
   ·refine Rc.kp [0,1,5,6,7,8,9] [(0,.fsl (eL rQuad p0)),(1,.sl w1 0 l8.length),(5,.bool s1),(6,.int .i64 s2),(7,.fsl (eL rI r9)),(8,.sl o1 0 r13.length),(9,.int .i64 0)] rfl ?_
    refine gP zK w1 s2.toNat 0 ?_ (hr:=by exact gset hv11 _)
    rw[show hp E0 [(w1,some ⟨23,1,(eL zW l8).set s2.toNat [.osl 3 1 (eL rI v11)]⟩),(o1,some ⟨3,1,eL rI r13⟩)] (M3+1)=hp E0 [(w1,some ⟨23,1,eL zW l14⟩),(o1,some ⟨3,1,eL rI r13⟩)] (M3+1) from by rw[(setx_iff.1 hl14).2,← zZ];rfl];(try rw[← zH hl14])
    have z1:=nQ w1 o1
    refine gFrz zK 4 [o1] [(w1,some ⟨23,1,eL zW l14⟩)] [(0,.fsl (eL rQuad p0)),(1,.sl w1 0 l14.length),(5,.bool s1),(6,.int .i64 s2),(7,.fsl (eL rI r9)),(8,.fsl (eL rI r13)),(9,.int .i64 0)] (by simp[z1]) (cutD (by simp[z1])) ?_
    exact Rf ⟨M3+1,(by omega),(by first|rfl|exact((zH hl14).trans ((zH hl8).trans fM1_1))|omega),rfl,rfl⟩
   ·clear H hse1
    rintro⟨s15,s16,s17⟩ fl a σ H ⟨M4,fM4_0,fM4_1,rfl,rfl⟩ K6 O6 hK6 hO6
    unfold pK at H;dsimp only at H
    refine Wsq [0,1,5,6,7,8,9] fun K7 hK7=>?_
    refine S0 tok [] [0,1,5,6,7,8,9,37] ?_
    refine Ci H (fun H=>?_) fun H=>?_
    ·refine Wsk (Jn hK7 ?_)
     refine Wsq [0,1,5,6,7,8,9] fun K8 hK8=>?_
     refine Wbl (Wth ?_)
     obtain⟨v20,hv20,H⟩:=bE H
     obtain⟨r21,hr21,H⟩:=bE H
     refine jV tok [] [0,1,5,6,7,8,9,46] (fun a σ=>∃M6:Nat,M4+11≤M6∧r21.2.length=s17.length∧a=[(0,.fsl (eL rQuad p0)),(1,.sl w1 0 s17.length),(5,.bool s15),(6,.int .i64 s2),(7,.fsl (eL rI r9)),(8,.fsl (eL rI r13)),(9,.int .i64 s16),(46,.bool r21.1)]∧σ=hp E0 [(w1,some ⟨23,1,eL zW r21.2⟩)] M6) (fun K hK=>?_) ?_
     ·skip
      simp -dsimp -implicitDefEqProofs [ix23 hv20]
      refine(c186 (H:=hr21) (by simp[ix23 hv20])).mono ?_;rintro _ _ ⟨M6,fM6_0,fM6_1,rfl,rfl⟩;simp only[hpN] at fM6_0
      try simp -dsimp -implicitDefEqProofs [ix23 hv20,hoS,hoN]
      exact hK _ _ ⟨M6,(by omega),fM6_1,rfl,rfl⟩
     rintro a σ ⟨M6,fM6_0,fM6_1,rfl,rfl⟩
     try rw[← fM6_1]
     refine Ci H (fun H=>?_) fun H=>?_
     ·refine Rt0 tok [] [0,1,5,6,7,8,9] fun a ha=>?_
      refine hK8 _ _ ?_;rw[ha]
      refine Rc.mk ?_
      refine Rt0 tok [] [0,1,5,6,7,8,9] fun a ha=>?_
      obtain rfl:=oi H
      refine hK6 _ _ _ rfl ?_;rw[ha]
      exact Rf ⟨M6+4,(by omega),(by first|rfl|exact((fM6_1).trans fM4_1)|omega),rfl,rfl⟩
     refine Wsk (Jn hK8 ?_)
     refine Rt0 tok [] [0,1,5,6,7,8,9] fun a ha=>?_
     obtain rfl:=oi H
     refine hK6 _ _ _ rfl ?_;rw[ha]
     exact Rf ⟨M6+3,(by omega),(by first|rfl|exact((fM6_1).trans fM4_1)|omega),rfl,rfl⟩
    obtain rfl:=oi H
    refine zJ (hO6 _ _ _ _ rfl ⟨rfl,?_⟩)
    refine Rc.rw (l:=[0,1,5,6]) (X:=[(0,.fsl (eL rQuad p0)),(1,.sl w1 0 s17.length),(5,.bool s15),(6,.int .i64 s2)]) rfl ?_
    exact Rf ⟨M4+4,(by omega),(by first|rfl|exact fM4_1|omega),rfl,rfl⟩
   intro x a σ hx
   obtain⟨y18,y19⟩:=e1
   obtain⟨rfl,b,τ,hr,M5,fM5_0,fM5_1,rfl,rfl⟩:=hx
   (try dsimp only at H)
   show K4 _ _
   refine hK4 _ _ (zK hr ?_)
   refine Rc.mk ?_
   refine Rt0 tok [] [0,1,5,6] fun a ha=>?_
   obtain rfl:=oi H
   refine hK2 _ _ _ rfl ?_;rw[ha]
   exact Rf ⟨M5+3,(by omega),(by first|rfl|exact fM5_1|omega),rfl,rfl⟩
  obtain rfl:=oi H
  refine zJ (hO2 _ _ _ _ rfl ⟨rfl,?_⟩)
  refine Rc.rw (l:=[5]) (X:=[(5,.bool s1)]) rfl ?_
  exact Rf ⟨M1+4,(by omega),(by first|rfl|exact fM1_1|omega),rfl,rfl⟩
 intro x a σ hx
 obtain⟨y4,y5⟩:=e2
 obtain⟨rfl,b,τ,hr,M2,fM2_0,fM2_1,rfl,rfl⟩:=hx
 (try dsimp only at H)
 show K1 _ _
 refine hK1 _ _ (zK hr ?_)
 refine Rc.mk ?_
 refine S0 tok [] [4] ?_
 obtain rfl:=oi H
 refine Kp [4] ?_
 refine Wr ?_
 refine⟨[.bool y4],by simp,M2+2,by omega,by first|rfl|exact fM2_1|omega,?_,?_⟩
 ·simp[eN]
 first|rfl|simp

theorem c173_o {r:List Int}(H:tL=some r){σ:AHeap}:ACalls Tryz.prog G 173 [] σ (fun v σ'=>∃M n0:Nat,σ.next≤M∧σ.next≤n0∧n0<M∧v=.sl n0 0 r.length∧σ'=hp σ.objs [(n0,some ⟨3,1,eL rI r⟩)] M):=by
 refine fr2 [] (by simp) (fun hlt=>?_) ⟨_,Tryz.func173,rfl,rfl⟩
 generalize σ.next=N0 at hlt ⊢
 refine fnK tok Tryz.func173 Tryz.ntmps173 Tryz.results173 ?_
 simp only[argsA,Nat.reduceAdd,hpN]
 unfold tL at H
 refine S0 tok [] [] ?_
 have q0:∀σ i,bsA T 23 true i 0 [] σ=some (.esl,σ):=fun _ _=>rfl
 refine Sx tok [0] [1] (by intro K k;simp -dsimp -implicitDefEqProofs [q0];exact k) ?_
 refine Wsq [1] fun K1 hK1=>?_
 refine S0 tok [] [1,2] ?_
 refine Wbl (Wth ?_)
 obtain⟨e1,hse1,H⟩:=bE H
 refine zS [1,2] (fun s a σ=>∃M1 o1:Nat,N0≤M1∧N0≤o1∧o1<M1∧a=[(1,.sl o1 0 s.2.length),(2,.int .i64 s.1)]∧σ=hp E0 [(o1,some ⟨3,1,eL rI s.2⟩)] M1) (fun s x a σ=>x=.exit 0∧Rc G 13 N0 (fun a σ=>∃M2 o2:Nat,N0≤M2∧N0≤o2∧o2<M2∧a=[(1,.sl o2 0 s.length)]∧σ=hp E0 [(o2,some ⟨3,1,eL rI s⟩)] M2) (AAct.keep a [1]) σ) hse1 ?_ ?_ ?_
 ·refine Rc.kp [1,2] [(1,.esl),(2,.int .i64 0)] rfl ?_
  refine gNilS zK 1 3 1 [(N0+4,some ⟨3,1,eL rI ([]:List Int)⟩)] [(1,.sl (N0+4) 0 ([]:List Int).length),(2,.int .i64 0)] (by simp(disch:=omega)) (by simp(disch:=omega) [eN]) [1,2] rfl ?_
  exact Rf ⟨N0+5,(N0+4),(by omega),(by omega),(by omega),rfl,rfl⟩
 ·clear H hse1
  rintro⟨s1,s2⟩ fl a σ H ⟨M1,o1,fM1_0,fM1_1,fM1_2,rfl,rfl⟩ K2 O2 hK2 hO2
  unfold mL at H;dsimp only at H
  refine Wsq [1,2] fun K3 hK3=>?_
  refine S0 tok [] [1,2,5] ?_
  refine Ci H (fun H=>?_) fun H=>?_
  ·refine Wsk (Jn hK3 ?_)
   refine Wsq [1,2] fun K4 hK4=>?_
   refine Wbl (Wth ?_)
   obtain⟨l4,hl4,H⟩:=bE H
   have q1:∀σ i,bsA T 23 true i 1 [(0,.int .i64 s1)] σ=some (.fsl (eL rI ([s1]:List Int)),σ):=fun _ _=>rfl
   refine Rt tok [2] [1,2] (by
    intro K k
    have e0:=nQ o1 (M1+5)
    simp -dsimp -implicitDefEqProofs [e0,q1,app23 hl4]
    exact k) fun a ha=>?_
   refine hK4 _ _ ?_;rw[ha]
   refine Rc.mk ?_
   refine Rt0 tok [] [1,2] fun a ha=>?_
   obtain rfl:=oi H
   refine hK2 _ _ _ rfl ?_;rw[ha]
   exact Rf ⟨M1+10,(M1+5),(by omega),(by omega),(by omega),rfl,rfl⟩
  obtain rfl:=oi H
  refine zJ (hO2 _ _ _ _ rfl ⟨rfl,?_⟩)
  refine Rc.rw (l:=[1]) (X:=[(1,.sl o1 0 s2.length)]) rfl ?_
  exact Rf ⟨M1+2,o1,(by omega),(by omega),(by omega),rfl,rfl⟩
 intro x a σ hx
 obtain⟨y3,rfl⟩:∃x,x=e1:=⟨_,rfl⟩
 obtain⟨rfl,b,τ,hr,M2,o2,fM2_0,fM2_1,fM2_2,rfl,rfl⟩:=hx
 (try dsimp only at H)
 show K1 _ _
 refine hK1 _ _ (zK hr ?_)
 refine Rc.mk ?_
 refine S0 tok [] [0] ?_
 obtain rfl:=oi H
 refine Kp [0] ?_
 refine Wr ?_
 refine⟨[.sl o2 0 y3.length],by simp,M2+2,o2,by omega,by omega,by omega,?_,?_⟩
 ·simp[eN]
 first|rfl|simp

theorem c153 {p0:List gQuad}{r:(List (List Int))}(H:qR p0=some r):APure Tryz.prog G 153 [.fsl (eL rQuad p0)] (.fsl (eL rL_I r)):=by
 refine zE (fun N0=>?_) (by simp)
 refine fnK tok Tryz.func153 Tryz.ntmps153 Tryz.results153 ?_
 simp only[argsA,Nat.reduceAdd,hpN]
 unfold qR at H
 refine S0 tok [] [0] ?_
 have q0:∀σ i,bsA T 86 true i 0 [] σ=some (.esl,σ):=fun _ _=>rfl
 refine Sx tok [0] [0,3] (by intro K k;simp -dsimp -implicitDefEqProofs [q0];exact k) ?_
 refine Wsq [0,3] fun K1 hK1=>?_
 obtain⟨r1,hr1,H⟩:=bE H
 refine Sx tok [] [0,3,9] (by intro K k;(repeat first|simp -dsimp -implicitDefEqProofs|refine(c103 hr1).app ?_);exact k) ?_
 refine Ci H (fun H=>?_) fun H=>?_
 ·refine S0 tok [] [2] ?_
  obtain rfl:=oi H;exact Wr ⟨_,rfl,4,by simp[eN]⟩
 refine Wsk (Jn hK1 ?_)
 refine Wsq [0,3] fun K2 hK2=>?_
 refine S0 tok [] [0,3,4] ?_
 refine Wbl (Wth ?_)
 obtain⟨e1,hse1,H⟩:=bE H
 refine zS [0,3,4] (fun s a σ=>∃M1 o1:Nat,N0≤M1∧N0≤o1∧o1<M1∧a=[(0,.fsl (eL rQuad p0)),(3,.sl o1 0 s.2.length),(4,.int .i64 s.1)]∧σ=hp E0 [(o1,some ⟨23,1,eL zW s.2⟩)] M1) (fun s x a σ=>x=.exit 0∧Rc G 44 N0 (fun a σ=>∃M2 o2:Nat,N0≤M2∧N0≤o2∧o2<M2∧a=[(0,.fsl (eL rQuad p0)),(3,.sl o2 0 s.length)]∧σ=hp E0 [(o2,some ⟨23,1,eL zW s⟩)] M2) (AAct.keep a [0,3]) σ) hse1 ?_ ?_ ?_
 ·refine Rc.kp [0,3,4] [(0,.fsl (eL rQuad p0)),(3,.esl),(4,.int .i64 0)] rfl ?_
  refine gNilS zK 3 23 1 [(N0+7,some ⟨23,1,eL zW ([]:List (List Int))⟩)] [(0,.fsl (eL rQuad p0)),(3,.sl (N0+7) 0 ([]:List (List Int)).length),(4,.int .i64 0)] (by simp(disch:=omega)) (by simp(disch:=omega) [eN]) [0,3,4] rfl ?_
  exact Rf ⟨N0+8,(N0+7),(by omega),(by omega),(by omega),rfl,rfl⟩
 ·clear H hse1
  rintro⟨s2,s3⟩ fl a σ H ⟨M1,o1,fM1_0,fM1_1,fM1_2,rfl,rfl⟩ K3 O3 hK3 hO3
  unfold xW at H;dsimp only at H
  refine Wsq [0,3,4] fun K4 hK4=>?_
  refine S0 tok [] [0,3,4,14] ?_
  refine Ci H (fun H=>?_) fun H=>?_
  ·refine Wsk (Jn hK4 ?_)
   refine Wsq [0,3,4] fun K5 hK5=>?_
   refine Wbl (Wth ?_)
   obtain⟨l5,hl5,H⟩:=bE H
   have q1:∀σ i,bsA T 23 true i 0 [] σ=some (.esl,σ):=fun _ _=>rfl
   have q2:∀  σ i,bsA T 86 true i 1 [(0,.esl)] σ=some (.fsl [[.esl]],σ):=fun  _ _=>rfl
   refine Rt tok [1,2] [0,3,4] (by
    intro K k
    have e0:=nQ o1 (M1+7)
    simp -dsimp -implicitDefEqProofs [e0,q1,q2,apr86 zW hl5]
    exact k) fun a ha=>?_
   refine hK5 _ _ ?_;rw[ha]
   refine Rc.mk ?_
   refine gPk0 Wre (o:=(M1+7)) (ob:=⟨23,1,eL zW s3++[[.esl]]⟩) (row:=[.esl]) (r:=s3.length) (i:=0) 3 1 [(M1+7,some ⟨23,1,eL zW s3++[[.osl 3 1 (eL rI ([]:List Int))]]⟩)] (by simp(disch:=omega)) (fQ _ _ _) rfl (by simp(disch:=omega)) (by simp(disch:=omega) [eN,oU]) ?_
   rw[show hp E0 [(M1+7,some ⟨23,1,eL zW s3++[[.osl 3 1 (eL rI ([]:List Int))]]⟩)] (M1+9)=hp E0 [(M1+7,some ⟨23,1,eL zW l5⟩)] (M1+9) from by rw[← fR (f:=zW) (c:=[.osl 3 1 (eL rI ([]:List Int))]) hl5 rfl]]
   refine Rt0 tok [] [0,3,4] fun a ha=>?_
   obtain rfl:=oi H
   refine hK3 _ _ _ rfl ?_;rw[ha]
   exact Rf ⟨M1+12,(M1+7),(by omega),(by omega),(by omega),rfl,rfl⟩
  obtain rfl:=oi H
  refine zJ (hO3 _ _ _ _ rfl ⟨rfl,?_⟩)
  refine Rc.rw (l:=[0,3]) (X:=[(0,.fsl (eL rQuad p0)),(3,.sl o1 0 s3.length)]) rfl ?_
  exact Rf ⟨M1+4,o1,(by omega),(by omega),(by omega),rfl,rfl⟩
 intro x a σ hx
 obtain⟨y4,rfl⟩:∃x,x=e1:=⟨_,rfl⟩
 obtain⟨rfl,b,τ,hr,M2,o2,fM2_0,fM2_1,fM2_2,rfl,rfl⟩:=hx
 (try dsimp only at H)
 show K2 _ _
 refine hK2 _ _ (zK hr ?_)
 refine Rc.mk ?_
 obtain⟨r6,hr6,H⟩:=bE H
 obtain⟨v7,hv7,H⟩:=bE H
 refine jV tok [] [0,3] (fun a σ=>∃M3 o3:Nat,M2+4≤M3∧M2+4≤o3∧o3<M3∧a=[(0,.fsl (eL rQuad p0)),(3,.sl o2 0 y4.length)]∧σ=hp E0 [(o2,some ⟨23,1,(eL zW y4).set 0 [.sl o3 0 r6.length]⟩),(o3,some ⟨3,1,eL rI r6⟩)] M3) (fun K hK=>?_) ?_
 ·skip
  simp -dsimp -implicitDefEqProofs [ixo86 hv7,(show _[0]? =some v7 from(zG hv7).2.2)]
  refine(c173_o (H:=hr6)).mono ?_;rintro _ _ ⟨M3,o3,fM3_0,fM3_1,fM3_2,rfl,rfl⟩;simp only[hpN] at fM3_0 fM3_1 fM3_2
  have eM3_0:=nQ o3 o2
  try simp -dsimp -implicitDefEqProofs [ixo86 hv7,(show _[0]? =some v7 from(zG hv7).2.2),eM3_0,hoS,hoN]
  exact hK _ _ ⟨M3,o3,(by omega),(by omega),(by omega),rfl,rfl⟩
 rintro a σ ⟨M3,o3,fM3_0,fM3_1,fM3_2,rfl,rfl⟩
 refine Wsq [0,3] fun K6 hK6=>?_
 refine Wbl (Wth ?_)
 obtain⟨l8,hl8,H⟩:=bE H
 obtain⟨e2,hse2,H⟩:=bE H
 refine zS [0,3] (fun s a σ=>∃M4 o4:Nat,N0≤M4∧N0≤o4∧o4<M4∧a=[(0,.fsl (eL rQuad p0)),(3,.sl o4 0 s.length)]∧σ=hp E0 [(o4,some ⟨23,1,eL zW s⟩)] M4) (fun s x a σ=>x=.exit 2∧Rc G 44 N0 (fun a σ=>∃M5 o5:Nat,N0≤M5∧N0≤o5∧o5<M5∧a=[(0,.fsl (eL rQuad p0)),(3,.sl o5 0 s.length)]∧σ=hp E0 [(o5,some ⟨23,1,eL zW s⟩)] M5) (AAct.keep a [0,3]) σ) hse2 ?_ ?_ ?_
 ·refine Rc.kp [0,3] [(0,.fsl (eL rQuad p0)),(3,.sl o2 0 y4.length)] rfl ?_
  refine gP zK o2 0 0 ?_ (hr:=by exact gset hv7 _)
  rw[show hp E0 [(o2,some ⟨23,1,(eL zW y4).set 0 [.osl 3 1 (eL rI r6)]⟩)] M3=hp E0 [(o2,some ⟨23,1,eL zW l8⟩)] M3 from by rw[(setx_iff.1 hl8).2,← zZ];rfl];(try rw[← zH hl8])
  exact Rf ⟨M3,o2,(by omega),(by omega),(by omega),rfl,rfl⟩
 ·clear H hse2
  rintro s9 fl a σ H ⟨M4,o4,fM4_0,fM4_1,fM4_2,rfl,rfl⟩ K7 O7 hK7 hO7
  unfold pW at H;dsimp only at H
  refine Wsq [0,3] fun K8 hK8=>?_
  obtain⟨r11,hr11,H⟩:=bE H
  refine jV tok [] [0,3,26] (fun a σ=>∃M6:Nat,M4+3≤M6∧r11.2.length=s9.length∧a=[(0,.fsl (eL rQuad p0)),(3,.sl o4 0 s9.length),(26,.bool r11.1)]∧σ=hp E0 [(o4,some ⟨23,1,eL zW r11.2⟩)] M6) (fun K hK=>?_) ?_
  ·skip
   simp -dsimp -implicitDefEqProofs
   refine(c174 (H:=hr11) (by simp)).mono ?_;rintro _ _ ⟨M6,fM6_0,fM6_1,rfl,rfl⟩;simp only[hpN] at fM6_0
   try simp -dsimp -implicitDefEqProofs [hoS,hoN]
   exact hK _ _ ⟨M6,(by omega),fM6_1,rfl,rfl⟩
  rintro a σ ⟨M6,fM6_0,fM6_1,rfl,rfl⟩
  try rw[← fM6_1]
  refine Ci H (fun H=>?_) fun H=>?_
  ·refine Wsk (Jn hK8 ?_)
   refine Wbl (Wth ?_)
   refine Wsk ?_
   show K7 _ _
   refine kE [0,3] fun a' ha=>?_
   obtain rfl:=oi H
   refine hK7 _ _ _ rfl ?_;rw[ha]
   exact Rf ⟨M6,o4,(by omega),(by omega),(by omega),rfl,rfl⟩
  obtain rfl:=oi H
  refine zJ (hO7 _ _ _ _ rfl ⟨rfl,?_⟩)
  refine Rc.rw (l:=[0,3]) (X:=[(0,.fsl (eL rQuad p0)),(3,.sl o4 0 r11.2.length)]) rfl ?_
  exact Rf ⟨M6,o4,(by omega),(by omega),(by omega),rfl,rfl⟩
 intro x a σ hx
 obtain⟨y10,rfl⟩:∃x,x=e2:=⟨_,rfl⟩
 obtain⟨rfl,b,τ,hr,M5,o5,fM5_0,fM5_1,fM5_2,rfl,rfl⟩:=hx
 (try dsimp only at H)
 show K6 _ _
 refine hK6 _ _ (zK hr ?_)
 refine Rc.mk ?_
 refine Wsq [3] fun K9 hK9=>?_
 refine S0 tok [] [0,3,5] ?_
 refine Wbl (Wth ?_)
 obtain⟨e3,hse3,H⟩:=bE H
 refine zS [0,3,5] (fun s a σ=>∃M7 o6:Nat,N0≤M7∧N0≤o6∧o6<M7∧a=[(0,.fsl (eL rQuad p0)),(3,.sl o6 0 s.2.length),(5,.int .i64 s.1)]∧σ=hp E0 [(o6,some ⟨23,1,eL zW s.2⟩)] M7) (fun s x a σ=>x=.exit 4∧Rc G 44 N0 (fun a σ=>∃M8 o7:Nat,N0≤M8∧N0≤o7∧o7<M8∧a=[(3,.sl o7 0 s.length)]∧σ=hp E0 [(o7,some ⟨23,1,eL zW s⟩)] M8) (AAct.keep a [3]) σ) hse3 ?_ ?_ ?_
 ·refine Rc.kp [0,3,5] [(0,.fsl (eL rQuad p0)),(3,.sl o5 0 y10.length),(5,.int .i64 0)] rfl ?_
  exact Rf ⟨M5+1,o5,(by omega),(by omega),(by omega),rfl,rfl⟩
 ·clear H hse3
  rintro⟨s12,s13⟩ fl a σ H ⟨M7,o6,fM7_0,fM7_1,fM7_2,rfl,rfl⟩ K10 O10 hK10 hO10
  unfold pV at H;dsimp only at H
  refine Wsq [0,3,5] fun K11 hK11=>?_
  refine S0 tok [] [0,3,5,30] ?_
  refine Ci H (fun H=>?_) fun H=>?_
  ·refine Wsk (Jn hK11 ?_)
   refine Wsq [0,3,5] fun K12 hK12=>?_
   refine Wbl (Wth ?_)
   obtain⟨v15,hv15,H⟩:=bE H
   refine gU Wre o6 s12.toNat 0 ?_ (hr:=by exact tZ zW hv15)
   refine Sx tok [] [0,3,5,38] (by
    intro K k
    have e0:=nQ o6 (M7+4)
    simp -dsimp -implicitDefEqProofs [e0,(gset hv15 _),ixo86 hv15,(zG hv15).2.2]
    exact k) ?_
   refine Ci H (fun H=>?_) fun H=>?_
   ·refine gP Wre o6 s12.toNat 0 ?_ (hr:=by exact gset hv15 _)
    obtain⟨l16,hl16,H⟩:=bE H
    rw[show hp E0 [(o6,some ⟨23,1,(eL zW s13).set s12.toNat [.osl 3 1 (eL rI v15)]⟩)] (M7+11)=hp E0 [(o6,some ⟨23,1,eL zW l16⟩)] (M7+11) from by rw[(setx_iff.1 hl16).2,← zZ];rfl];(try rw[← zH hl16])
    obtain⟨r17,hr17,H⟩:=bE H
    obtain⟨v18,hv18,H⟩:=bE H
    refine gR tok [] [0,3,5] (fun a σ=>∃M9 o8:Nat,M7+16≤M9∧M7+16≤o8∧o8<M9∧a=[(0,.fsl (eL rQuad p0)),(3,.sl o6 0 l16.length),(5,.int .i64 s12)]∧σ=hp E0 [(o6,some ⟨23,1,(eL zW l16).set s12.toNat [.sl o8 0 r17.length]⟩),(o8,some ⟨3,1,eL rI r17⟩)] M9) (fun K hK=>?_) ?_
    ·skip
     simp -dsimp -implicitDefEqProofs [ixo86 hv18,(zG hv18).2.2]
     refine(c173_o (H:=hr17)).mono ?_;rintro _ _ ⟨M9,o8,fM9_0,fM9_1,fM9_2,rfl,rfl⟩;simp only[hpN] at fM9_0 fM9_1 fM9_2
     have eM9_0:=nQ o8 o6
     try simp -dsimp -implicitDefEqProofs [ixo86 hv18,(zG hv18).2.2,eM9_0,hoS,hoN]
     exact hK _ _ ⟨M9,o8,(by omega),(by omega),(by omega),rfl,rfl⟩
    rintro a σ ⟨M9,o8,fM9_0,fM9_1,fM9_2,ha,rfl⟩
    refine hK12 _ _ ?_;rw[ha]
    refine Rc.mk ?_
    refine Rt tok [] [0,3,5] (by
     intro K k
     have e0:=nQ o6 o8
     simp -dsimp -implicitDefEqProofs [e0,(gset hv18 _)]
     exact k) fun a ha=>?_
    obtain⟨l19,hl19,H⟩:=bE H
    obtain rfl:=oi H
    refine hK10 _ _ _ rfl ?_;rw[ha]
    refine gP zK o6 s12.toNat 0 ?_ (hr:=by exact gset hv18 _)
    rw[show hp E0 [(o6,some ⟨23,1,(eL zW l16).set s12.toNat [.osl 3 1 (eL rI r17)]⟩)] (M9+3)=hp E0 [(o6,some ⟨23,1,eL zW l19⟩)] (M9+3) from by rw[(setx_iff.1 hl19).2,← zZ];rfl];(try rw[← zH hl19])
    exact Rf ⟨M9+3,o6,(by omega),(by omega),(by omega),rfl,rfl⟩
   refine Wsk (Jn hK12 ?_)
   refine Rt tok [] [0,3,5] (by
    intro K k
    have e0:=nQ o6 (M7+4)
    simp -dsimp -implicitDefEqProofs [e0,(gset hv15 _)]
    exact k) fun a ha=>?_
   obtain⟨l20,hl20,H⟩:=bE H
   obtain rfl:=oi H
   refine hK10 _ _ _ rfl ?_;rw[ha]
   refine gP zK o6 s12.toNat 0 ?_ (hr:=by exact gset hv15 _)
   rw[show hp E0 [(o6,some ⟨23,1,(eL zW s13).set s12.toNat [.osl 3 1 (eL rI v15)]⟩)] (M7+14)=hp E0 [(o6,some ⟨23,1,eL zW l20⟩)] (M7+14) from by rw[(setx_iff.1 hl20).2,← zZ];rfl];(try rw[← zH hl20])
   exact Rf ⟨M7+14,o6,(by omega),(by omega),(by omega),rfl,rfl⟩
  obtain rfl:=oi H
  refine zJ (hO10 _ _ _ _ rfl ⟨rfl,?_⟩)
  refine Rc.rw (l:=[3]) (X:=[(3,.sl o6 0 s13.length)]) rfl ?_
  exact Rf ⟨M7+4,o6,(by omega),(by omega),(by omega),rfl,rfl⟩
 intro x a σ hx
 obtain⟨y14,rfl⟩:∃x,x=e3:=⟨_,rfl⟩
 obtain⟨rfl,b,τ,hr,M8,o7,fM8_0,fM8_1,fM8_2,rfl,rfl⟩:=hx
 (try dsimp only at H)
 show K9 _ _
 refine hK9 _ _ (zK hr ?_)
 refine Rc.mk ?_
 refine S0 tok [] [2] ?_
 obtain rfl:=oi H;exact Wr ⟨_,rfl,4,by simp[eN]⟩
end Go.Proofs.YtolmjhgondilhaaGreat
