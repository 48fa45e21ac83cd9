/- The contracts of functions of the program (CT3): each computes what its mirror computes. No conditions. -/
import Derived.Test.YtolmjhgondilhaaGreatNCT2
set_option linter.unusedSimpArgs false
set_option linter.unusedVariables false
set_option maxRecDepth 20000
set_option maxHeartbeats 4000000
namespace Go.Proofs.YtolmjhgondilhaaGreat
open Go Go.Abs Go.RowKit Tryz

theorem c110 {p0:Bool}{r:Int}(H:i_truth p0=some r):APure Tryz.prog G 110 [.bool p0] (.int .i64 r):=by
 refine qK func110 ntmps110 results110 fun N0=>?_
 unfold i_truth at H
 refine qA [0] ?_
 refine Wsq [] fun K1 hK1=>?_
 refine qA [3] ?_
 refine Ci H ?_ ?_<;>intro H
 .refine qA [2] ?_
  cases oj H;exact W4
 refine Js hK1 ?_
 refine qA [2] ?_
 cases oj H;exact W4

theorem c21 {p0:Int}{r:Int}(H:fV p0=some r):APure Tryz.prog G 21 [.int .i64 p0] (.int .i64 r):=by
 refine qK func21 ntmps21 results21 fun N0=>?_
 unfold fV at H
 refine qA [0] ?_
 refine qA [2] ?_
 cases oj H;exact W4

theorem c85 {p0:Int}{p1:Int}{p2:Int}{r:Int}(H:nU p0 p1 p2=some r):APure Tryz.prog G 85 [.int .i64 p0,.int .i64 p1,.int .i64 p2] (.int .i64 r):=by
 refine qK func85 ntmps85 results85 fun N0=>?_
 unfold nU at H
 refine qA [0,1,2] ?_
 refine Wsq [1,2] fun K1 hK1=>?_
 refine qA [1,2,7] ?_
 refine Wb ?_
 refine qA [1,2,7,8] ?_
 refine Ci H ?_ ?_<;>intro H
 .refine qA [6] ?_
  cases oj H;exact W4
 refine qA [1,2,7,13] ?_
 refine Ci H ?_ ?_<;>intro H
 .refine qA [6] ?_
  cases oj H;exact W4
 refine qA [1,2,7,18] ?_
 refine Ci H ?_ ?_<;>intro H
 .refine qA [6] ?_
  cases oj H;exact W4
 refine qA [1,2,7,23] ?_
 refine Ci H ?_ ?_<;>intro H
 .obtain⟨r1,hr1,H⟩:=bE H
  refine qD [6] (c110 hr1) ?_
  cases oj H;exact W4
 refine qA [1,2,7,29] ?_
 refine Ci H ?_ ?_<;>intro H
 .obtain⟨r2,hr2,H⟩:=bE H
  refine qD [6] (c110 hr2) ?_
  cases oj H;exact W4
 refine qA [1,2,7,35] ?_
 refine Ci H ?_ ?_<;>intro H
 .obtain⟨v3,hv3,H⟩:=bE H
  obtain⟨r4,hr4,H⟩:=bE H
  refine qE [6] hv3 (c21 hr4) ?_
  cases oj H;exact W4
 refine qA [1,2,7,42] ?_
 refine Ci H ?_ ?_<;>intro H
 .obtain⟨v5,hv5,H⟩:=bE H
  refine qB [6] hv5 ?_
  cases oj H;exact W4
 refine qA [1,2,7,48] ?_
 refine Ci H ?_ ?_<;>intro H
 .obtain⟨r6,hr6,H⟩:=bE H
  refine qD [6] (c21 hr6) ?_
  cases oj H;exact W4
 refine qA [1,2,7,54] ?_
 refine Ci H ?_ ?_<;>intro H
 .obtain⟨r7,hr7,H⟩:=bE H
  refine qD [6] (c21 hr7) ?_
  cases oj H;exact W4
 refine qA [1,2,7,60] ?_
 refine Ci H ?_ ?_<;>intro H
 .obtain⟨r8,hr8,H⟩:=bE H
  refine qD [6] (c21 hr8) ?_
  cases oj H;exact W4
 refine qA [1,2,66] ?_
 refine Ci H ?_ ?_<;>intro H
 .refine Wsq [1,2] fun K2 hK2=>?_
  refine qA [1,2,69] ?_
  refine Ci H ?_ ?_<;>intro H
  .refine qA [6] ?_
   cases oj H;exact W4
  refine Js hK2 ?_
  obtain⟨v9,hv9,H⟩:=bE H
  obtain⟨r10,hr10,H⟩:=bE H
  refine qE [6] hv9 (c21 hr10) ?_
  cases oj H;exact W4
 refine Js hK1 ?_
 refine Wsq [1,2] fun K3 hK3=>?_
 refine qA [1,2,75] ?_
 refine Ci H ?_ ?_<;>intro H
 .refine qA [6] ?_
  cases oj H;exact W4
 refine Js hK3 ?_
 obtain⟨v11,hv11,H⟩:=bE H
 refine qB [6] hv11 ?_
 cases oj H;exact W4

theorem c86 {p0:gBox}{p1:Int}{r:Bool×gBox}(H:mS p0 p1=some r){J:AHeap}{w0:Nat}{W0:List (List AV)}{r0_:Nat}(q0:J.objs w0=some ⟨103,2,W0⟩)(g0:W0[r0_]? =some [.int .i64 p0.Room,.osl 3 1 (eL rI p0.Items)]):ACalls Tryz.prog G 86 [.ptr w0 r0_ 0,.int .i64 p1] J (fun v J'=>∃M:Nat,J.next<=M/\v=.bool r.1/\J'=hp J.objs [(w0,some ⟨103,2,W0.set r0_ [.int .i64 r.2.Room,.osl 3 1 (eL rI r.2.Items)]⟩)] M):=by
 refine fr1 ([(w0,some ⟨103,2,W0⟩)]) (by simp[q0]) (fun hlt=>?_) ⟨_,func86,rfl,rfl⟩
 generalize J.next=N0 at hlt ⊢
 have lw0:w0<N0:=hlt _ (.head _) rfl
 have gs_W0:∀x,(W0.set r0_ x)[r0_]? =some x:=gsetW g0
 rw[<- kC g0]
 refine fnK tok func86 ntmps86 results86 ?_
 simp only[argsA,Nat.reduceAdd,hpN]
 unfold mS at H
 refine qB [0,1] gs_W0 ?_
 refine Wsq [0,1] fun K1 hK1=>?_
 refine gU Wre w0 r0_ 1 ?_ (hr:=by exact gs_W0 _)
 refine Sd tok tokM [] [3,8] [0,1,2,5,6,7,3,4,8,9] [0,1,14] (by
  intro K k
  have e0:=nQ w0 (N0+1)
  simp only[pickL,zJ,zL]
  refine m2 e0 gs_W0 ?_
  exact k) ?_
 refine Ci H ?_ ?_<;>intro H
 .have e0:=nQ w0 (N0+1)
  refine qC [4] e0 gs_W0 ?_
  cases oj H
  refine Kp [4] ?_
  refine gP Wre w0 r0_ 1 ?_ (hr:=by exact gs_W0 _)
  exact V1 gs_W0 (N0+13)
 refine Js hK1 ?_
 obtain⟨l1,hl1,H⟩:=bE H
 have q0:∀J i,bsA T 23 true i 1 [(0,.int .i64 p1)] J=some (.fsl (eL rI ([p1]:List Int)),J):=fun _ _=>rfl
 have e0:=nQ w0 (N0+1)
 have e1:=nQ w0 (N0+19)
 refine Sy tok [6] [] (j e0 (j e1 (j gs_W0 (j q0 (app23 hl1))))) ?_
 have e0:=nQ w0 (N0+19)
 refine qC [4] e0 gs_W0 ?_
 cases oj H
 refine Kp [4] ?_
 refine gP Wre w0 r0_ 1 ?_ (hr:=by exact gs_W0 _)
 exact V1 gs_W0 (N0+24)

theorem c87 {p0:gBox}{r:Int×Bool×gBox}(H:pU p0=some r){J:AHeap}{w0:Nat}{W0:List (List AV)}{r0_:Nat}(q0:J.objs w0=some ⟨103,2,W0⟩)(g0:W0[r0_]? =some [.int .i64 p0.Room,.osl 3 1 (eL rI p0.Items)]):ACalls Tryz.prog G 87 [.ptr w0 r0_ 0] J (fun v J'=>∃M:Nat,J.next<=M/\v=.tup [.int .i64 r.1,.bool r.2.1]/\J'=hp J.objs [(w0,some ⟨103,2,W0.set r0_ [.int .i64 r.2.2.Room,.osl 3 1 (eL rI r.2.2.Items)]⟩)] M):=by
 refine fr1 ([(w0,some ⟨103,2,W0⟩)]) (by simp[q0]) (fun hlt=>?_) ⟨_,func87,rfl,rfl⟩
 generalize J.next=N0 at hlt ⊢
 have lw0:w0<N0:=hlt _ (.head _) rfl
 have gs_W0:∀x,(W0.set r0_ x)[r0_]? =some x:=gsetW g0
 rw[<- kC g0]
 refine fnK tok func87 ntmps87 results87 ?_
 simp only[argsA,Nat.reduceAdd,hpN]
 unfold pU at H
 refine Sx tok [] [0] (by intro K k;simp -dsimp -implicitDefEqProofs (maxDischargeDepth:=6) [gs_W0];exact k) ?_
 refine Wsq [0] fun K1 hK1=>?_
 refine gU Wre w0 r0_ 1 ?_ (hr:=by exact gs_W0 _)
 have e0:=nQ w0 (N0+2)
 refine Sx tok [] [0,10] (by intro K k;simp -dsimp -implicitDefEqProofs (maxDischargeDepth:=6) [e0,gs_W0];exact k) ?_
 refine Ci H ?_ ?_<;>intro H
 .have e0:=nQ w0 (N0+2)
  refine Sx tok [] [2,3] (by intro K k;simp -dsimp -implicitDefEqProofs (maxDischargeDepth:=6) [e0,gs_W0];exact k) ?_
  cases oj H
  refine Kp [2,3] ?_
  refine gP Wre w0 r0_ 1 ?_ (hr:=by exact gs_W0 _)
  exact V1 gs_W0 (N0+11)
 refine Js hK1 ?_
 obtain⟨v1,hv1,H⟩:=bE H
 have e0:=nQ w0 (N0+2)
 refine Sx tok [] [0,4] (by intro K k;simp -dsimp -implicitDefEqProofs (maxDischargeDepth:=6) [e0,gs_W0,ixo23 hv1,(show _[0]? =some v1 from(zG hv1).2.2)];exact k) ?_
 obtain⟨l2,hl2,H⟩:=bE H
 obtain⟨l3,hl3,H⟩:=bE H
 obtain⟨l4,hl4,H⟩:=bE H
 refine Sd tok tokM [] [4,5,9,10,11,14] [0,1,2,3,6,7,8,4,5,9,10,11,12,13,14] [4] (by
  intro K k
  have e0:=nQ w0 (N0+2)
  have e1:=nQ w0 (N0+27)
  simp only[pickL,zJ,zL]
  simp -dsimp -implicitDefEqProofs (maxDischargeDepth:=6) [e0,e1,gs_W0,cutoh_23 hl2,cutol_23 hl3,appv23 hl2 hl4,srcvn23 1 hl3 rfl]
  exact k) ?_
 have e0:=nQ w0 (N0+27)
 refine Sx tok [] [2,3] (by intro K k;simp -dsimp -implicitDefEqProofs (maxDischargeDepth:=6) [e0,gs_W0];exact k) ?_
 obtain rfl:=oi H
 refine Kp [2,3] ?_
 refine gP Wre w0 r0_ 1 ?_ (hr:=by exact gs_W0 _)
 exact V1 gs_W0 (N0+34)

theorem c58 {p0:gThread}{p1:List gQuad}{p2:List gBox}{p3:List Int}{r:Int×gThread×(List gBox)×(List Int)}(H:jT p0 p1 p2 p3=some r){J:AHeap}{w0:Nat}{W0:List (List AV)}{r0_:Nat}{w2:Nat}{w3:Nat}{W3:List (List AV)}{r3_:Nat}{x3_:List AV}{i3_:Nat}{t3_ s3_:Nat}(q0:J.objs w0=some ⟨42,2,W0⟩)(g0:W0[r0_]? =some [.osl 3 1 (eL rI p0.Regs),.int .i64 p0.Pc])(q2:J.objs w2=some ⟨103,2,eL kA p2⟩)(q3:J.objs w3=some ⟨t3_,s3_,W3⟩)(g3:W3[r3_]? =some x3_)(k3:x3_[i3_]? =some (.osl 3 1 (eL rI p3)))(d0_1:¬w0=w2)(d0_2:¬w0=w3)(d1_2:¬w2=w3):ACalls Tryz.prog G 58 [.ptr w0 r0_ 0,.fsl (eL rQuad p1),.sl w2 0 p2.length,.ptr w3 r3_ i3_] J (fun v J'=>∃M:Nat,J.next<=M/\r.2.2.1.length=p2.length/\v=.int .i64 r.1/\J'=hp J.objs [(w0,some ⟨42,2,W0.set r0_ [.osl 3 1 (eL rI r.2.1.Regs),.int .i64 r.2.1.Pc]⟩),(w2,some ⟨103,2,eL kA r.2.2.1⟩),(w3,some ⟨t3_,s3_,W3.set r3_ (x3_.set i3_ (.osl 3 1 (eL rI r.2.2.2)))⟩)] M):=by
 refine xG (L:=[(w0,some ⟨42,2,W0⟩),(w2,some ⟨103,2,eL kA p2⟩),(w3,some ⟨t3_,s3_,W3⟩)]) (Q1:=fun v J'=>∃M:Nat,J.next<=M/\r.2.2.1.length=p2.length/\v=.int .i64 r.1/\J'=hp E0 [(w0,some ⟨42,2,W0.set r0_ [.osl 3 1 (eL rI r.2.1.Regs),.int .i64 r.2.1.Pc]⟩),(w2,some ⟨103,2,eL kA r.2.2.1⟩),(w3,some ⟨t3_,s3_,W3.set r3_ (x3_.set i3_ (.osl 3 1 (eL rI r.2.2.2)))⟩)] M) (by simp[q0,q2,q3]) (fun hlt=>?_) ?_ ⟨_,func58,rfl,rfl⟩
 rotate_left
 .rintro v J1 ⟨M,h0,h1,rfl,rfl⟩
  exact⟨_,M,rfl,by simp,by simp;try omega,M,h0,h1,rfl,rfl⟩
 generalize J.next=N0 at hlt ⊢
 have lw0:w0<N0:=hlt _ (.head _) rfl
 have lw2:w2<N0:=hlt _ (.tail _ (.head _)) rfl
 have lw3:w3<N0:=hlt _ (.tail _ (.tail _ (.head _))) rfl
 have gs_W0:∀x,(W0.set r0_ x)[r0_]? =some x:=gsetW g0
 rw[<- kC g0]
 have gs_W3:∀x,(W3.set r3_ x)[r3_]? =some x:=gsetW g3
 have gs_x3_:∀x,(x3_.set i3_ x)[i3_]? =some x:=gsetC k3
 have ws_x3_:=winS k3
 have wl_x3_:=winL k3
 rw[show W3=W3.set r3_ (x3_.set i3_ (.osl 3 1 (eL rI p3))) from by rw[kC k3,kC g3]]
 refine fnK tok func58 ntmps58 results58 ?_
 simp only[argsA,Nat.reduceAdd,hpN]
 unfold jT at H
 have e0:=nQ w0 w2
 have e1:=nQ w0 w3
 have e2:=nQ w2 w3
 refine qB [0,1,2,3] (j e0 (j e1 (j e2 (j gs_W0 (j gs_W3 (j gs_x3_ (j ws_x3_ wl_x3_))))))) ?_
 obtain⟨v1,hv1,H⟩:=bE H
 have e0:=nQ w0 w2
 have e1:=nQ w0 w3
 have e2:=nQ w0 (N0+8)
 have e3:=nQ w2 w3
 have e4:=nQ w2 (N0+8)
 have e5:=nQ w3 (N0+8)
 refine qB [0,2,3,9] (j e0 (j e1 (j e2 (j e3 (j e4 (j e5 (j gs_W0 (j gs_W3 (j gs_x3_ (j ws_x3_ (j wl_x3_ (ix34 hv1)))))))))))) ?_
 have e0:=nQ w0 w2
 have e1:=nQ w0 w3
 have e2:=nQ w0 (N0+8)
 have e3:=nQ w2 w3
 have e4:=nQ w2 (N0+8)
 have e5:=nQ w3 (N0+8)
 refine qB [0,2,3,9,10] (j e0 (j e1 (j e2 (j e3 (j e4 (j e5 (j gs_W0 (j gs_W3 (j gs_x3_ (j ws_x3_ wl_x3_)))))))))) ?_
 obtain⟨flj1,hflj1,H⟩:=bE H
 refine kP (kN fun K1 hK1=>?_)
 have hJ1:∀(j1:Int×gThread×(List gBox)×(List Int)) a J,flj1=.next j1->Rc G 165 N0 (fun a J=>∃M1:Nat,N0<=M1/\j1.2.2.1.length=p2.length/\a=[(0,.ptr w0 r0_ 0),(10,.int .i64 j1.1)]/\J=hp E0 [(w0,some ⟨42,2,W0.set r0_ [.osl 3 1 (eL rI j1.2.1.Regs),.int .i64 j1.2.1.Pc]⟩),(w2,some ⟨103,2,eL kA j1.2.2.1⟩),(w3,some ⟨t3_,s3_,W3.set r3_ (x3_.set i3_ (.osl 3 1 (eL rI j1.2.2.2)))⟩)] M1) (AAct.keep a [0,10]) J->K1 a J:=by
  rintro j1 a J hfl ⟨b,U,hr,M1,fM1_0,fM1_1,rfl,rfl⟩
  subst hfl;dsimp only at H
  refine hK1 _ _ (kG [0,10] (Wre hr ?_))
  have e0:=nQ w0 w2
  have e1:=nQ w0 w3
  have e2:=nQ w2 w3
  refine qB [] (j e0 (j e1 (j e2 (j gs_W0 (j gs_W3 (j gs_x3_ (j ws_x3_ wl_x3_))))))) ?_
  have e0:=nQ w0 w2
  have e1:=nQ w0 w3
  have e2:=nQ w2 w3
  refine qB [8] (j e0 (j e1 (j e2 (j gs_W0 (j gs_W3 (j gs_x3_ (j ws_x3_ wl_x3_))))))) ?_
  cases oj H
  refine Kp [8] ?_
  have z0:=nQ w0 w2
  have z1:=nQ w0 w3
  have z2:=nQ w2 w3
  refine Wr ?_
  refine⟨[.int .i64 1],by simp[z0,z1,z2,gs_W0,gs_W3,gs_x3_,ws_x3_,wl_x3_],M1+6,by omega,by first|rfl|exact fM1_1|omega,?_,?_⟩
  .simp[eN]
  first|rfl|simp
 have Gj1:=H;replace H:=hflj1
 have e0:=nQ w0 w2
 have e1:=nQ w0 w3
 have e2:=nQ w0 (N0+8)
 have e3:=nQ w2 w3
 have e4:=nQ w2 (N0+8)
 have e5:=nQ w3 (N0+8)
 refine qB [0,2,3,9,10,26] (j e0 (j e1 (j e2 (j e3 (j e4 (j e5 (j gs_W0 (j gs_W3 (j gs_x3_ (j ws_x3_ wl_x3_)))))))))) ?_
 refine Wb ?_
 have e0:=nQ w0 w2
 have e1:=nQ w0 w3
 have e2:=nQ w0 (N0+8)
 have e3:=nQ w2 w3
 have e4:=nQ w2 (N0+8)
 have e5:=nQ w3 (N0+8)
 refine qB [0,2,3,9,10,26,27] (j e0 (j e1 (j e2 (j e3 (j e4 (j e5 (j gs_W0 (j gs_W3 (j gs_x3_ (j ws_x3_ wl_x3_)))))))))) ?_
 refine Ci H ?_ ?_<;>intro H
 .refine gU Wre w0 r0_ 0 ?_ (hr:=by exact gs_W0 _)
  obtain⟨v6,hv6,H⟩:=bE H
  obtain⟨l7,hl7,H⟩:=bE H
  refine oF tok tokM [] [3,5,7,8,9] [0,1,2,4,6,3,5,7,8,9] [0,10] (fun a J=>a=[(0,.ptr w0 r0_ 0),(10,.int .i64 (iadd .i64 p0.Pc 1))]/\J=hp E0 [(w0,some ⟨42,2,W0.set r0_ [.sl (N0+20) 0 p0.Regs.length,.int .i64 p0.Pc]⟩),(w2,some ⟨103,2,eL kA p2⟩),(w3,some ⟨t3_,s3_,W3.set r3_ (x3_.set i3_ (.osl 3 1 (eL rI p3)))⟩),(N0+8,some ⟨36,5,[[.int .i64 v1.Op,.int .i64 v1.Dst,.int .i64 v1.A,.int .i64 v1.B,.int .i64 v1.N]]⟩),(N0+20,some ⟨3,1,eL rI l7⟩)] (N0+31)) (by decide) (fun K hK=>?_) ?_
  .simp only[pickL,zJ,zL]
   have e0:=nQ w0 w2
   have e1:=nQ w0 w3
   have e2:=nQ w0 (N0+8)
   have e3:=nQ w0 (N0+20)
   have e4:=nQ w2 w3
   have e5:=nQ w2 (N0+8)
   have e6:=nQ w2 (N0+20)
   have e7:=nQ w3 (N0+8)
   have e8:=nQ w3 (N0+20)
   refine m1 (j e0 (j e1 (j e2 (j e3 (j e4 (j e5 (j e6 (j e7 (j e8 (j gs_W0 (j gs_W3 (j gs_x3_ (j ws_x3_ (j wl_x3_ (j (ixo23 hv6) (j ((zG hv6).2.2) ((setx_iff.1 hl7).2.symm))))))))))))))))) ?_
   exact hK _ _ ⟨rfl,rfl⟩
  rintro a J ⟨ha,rfl⟩
  (try rw[<- zE hl7] at ha);(try rw[<- zE hl7])
  replace H:=oi H
  refine hJ1 _ _ _ H.symm ?_;rw[ha]
  refine gP zH w0 r0_ 0 ?_ (hr:=by exact gs_W0 _)
  exact Rc.fin (zM (zM (zM (AHeap.Sub.trans (AHeap.Sub.refl _) (zU rfl (by simp;try omega)))))) ⟨N0+31,(by omega),(by first|rfl|exact rfl|omega),rfl,rfl⟩
 have e0:=nQ w0 w2
 have e1:=nQ w0 w3
 have e2:=nQ w0 (N0+8)
 have e3:=nQ w2 w3
 have e4:=nQ w2 (N0+8)
 have e5:=nQ w3 (N0+8)
 refine qB [0,2,3,9,10,26,38] (j e0 (j e1 (j e2 (j e3 (j e4 (j e5 (j gs_W0 (j gs_W3 (j gs_x3_ (j ws_x3_ wl_x3_)))))))))) ?_
 refine Ci H ?_ ?_<;>intro H
 .refine gU Wre w0 r0_ 0 ?_ (hr:=by exact gs_W0 _)
  obtain⟨v8,hv8,H⟩:=bE H
  obtain⟨v9,hv9,H⟩:=bE H
  obtain⟨l10,hl10,H⟩:=bE H
  refine oF tok tokM [] [3,5,9,11,12,13,14,15] [0,1,2,4,6,7,8,10,3,5,9,11,12,13,14,15] [0,10] (fun a J=>a=[(0,.ptr w0 r0_ 0),(10,.int .i64 (iadd .i64 p0.Pc 1))]/\J=hp E0 [(w0,some ⟨42,2,W0.set r0_ [.sl (N0+22) 0 p0.Regs.length,.int .i64 p0.Pc]⟩),(w2,some ⟨103,2,eL kA p2⟩),(w3,some ⟨t3_,s3_,W3.set r3_ (x3_.set i3_ (.osl 3 1 (eL rI p3)))⟩),(N0+8,some ⟨36,5,[[.int .i64 v1.Op,.int .i64 v1.Dst,.int .i64 v1.A,.int .i64 v1.B,.int .i64 v1.N]]⟩),(N0+22,some ⟨3,1,eL rI l10⟩)] (N0+39)) (by decide) (fun K hK=>?_) ?_
  .simp only[pickL,zJ,zL]
   have e0:=nQ w0 w2
   have e1:=nQ w0 w3
   have e2:=nQ w0 (N0+8)
   have e3:=nQ w0 (N0+22)
   have e4:=nQ w2 w3
   have e5:=nQ w2 (N0+8)
   have e6:=nQ w2 (N0+22)
   have e7:=nQ w3 (N0+8)
   have e8:=nQ w3 (N0+22)
   refine m1 (j e0 (j e1 (j e2 (j e3 (j e4 (j e5 (j e6 (j e7 (j e8 (j gs_W0 (j gs_W3 (j gs_x3_ (j ws_x3_ (j wl_x3_ (j (ixo23 hv8) (j ((zG hv8).2.2) (j (ixo23 hv9) (j ((zG hv9).2.2) ((setx_iff.1 hl10).2.symm))))))))))))))))))) ?_
   exact hK _ _ ⟨rfl,rfl⟩
  rintro a J ⟨ha,rfl⟩
  (try rw[<- zE hl10] at ha);(try rw[<- zE hl10])
  replace H:=oi H
  refine hJ1 _ _ _ H.symm ?_;rw[ha]
  refine gP zH w0 r0_ 0 ?_ (hr:=by exact gs_W0 _)
  exact Rc.fin (zM (zM (zM (AHeap.Sub.trans (AHeap.Sub.refl _) (zU rfl (by simp;try omega)))))) ⟨N0+39,(by omega),(by first|rfl|exact rfl|omega),rfl,rfl⟩
 have e0:=nQ w0 w2
 have e1:=nQ w0 w3
 have e2:=nQ w0 (N0+8)
 have e3:=nQ w2 w3
 have e4:=nQ w2 (N0+8)
 have e5:=nQ w3 (N0+8)
 refine qB [0,2,3,9,10,26,55] (j e0 (j e1 (j e2 (j e3 (j e4 (j e5 (j gs_W0 (j gs_W3 (j gs_x3_ (j ws_x3_ wl_x3_)))))))))) ?_
 refine Ci H ?_ ?_<;>intro H
 .refine gU Wre w0 r0_ 0 ?_ (hr:=by exact gs_W0 _)
  obtain⟨v11,hv11,H⟩:=bE H
  obtain⟨v12,hv12,H⟩:=bE H
  obtain⟨r13,hr13,H⟩:=bE H
  obtain⟨v14,hv14,H⟩:=bE H
  obtain⟨l15,hl15,H⟩:=bE H
  refine AWP_ry tok tokM [] [3,5,7,11,13,14,15,19,21,22,23,24,25,26] [0,1,2,4,6,8,9,10,12,16,17,18,20,3,5,7,11,13,14,15,19,21,22,23,24,25,26] [(24,[3,5])] [0,10] (fun a J=>a=[(0,.ptr w0 r0_ 0),(10,.int .i64 (iadd .i64 p0.Pc 1))]/\J=hp E0 [(w0,some ⟨42,2,W0.set r0_ [.sl (N0+24) 0 p0.Regs.length,.int .i64 p0.Pc]⟩),(w2,some ⟨103,2,eL kA p2⟩),(w3,some ⟨t3_,s3_,W3.set r3_ (x3_.set i3_ (.osl 3 1 (eL rI p3)))⟩),(N0+8,some ⟨36,5,[[.int .i64 v1.Op,.int .i64 v1.Dst,.int .i64 v1.A,.int .i64 v1.B,.int .i64 v1.N]]⟩),(N0+24,some ⟨3,1,eL rI l15⟩)] (N0+52)) (by decide) (fun K hK=>?_) ?_
  .simp only[pickL,zJ,zL]
   have e0:=nQ w0 w2
   have e1:=nQ w0 w3
   have e2:=nQ w0 (N0+8)
   have e3:=nQ w0 (N0+24)
   have e4:=nQ w2 w3
   have e5:=nQ w2 (N0+8)
   have e6:=nQ w2 (N0+24)
   have e7:=nQ w3 (N0+8)
   have e8:=nQ w3 (N0+24)
   refine m1 (j e0 (j e1 (j e2 (j e3 (j e4 (j e5 (j e6 (j e7 (j e8 (j gs_W0 (j gs_W3 (j gs_x3_ (j ws_x3_ (j wl_x3_ (j (ixo23 hv11) (j ((zG hv11).2.2) (j (ixo23 hv12) (j ((zG hv12).2.2) (j (ixo23 hv14) (j ((zG hv14).2.2) ((setx_iff.1 hl15).2.symm))))))))))))))))))))) ?_
   refine(c85 hr13).app (m1 (j e0 (j e1 (j e2 (j e3 (j e4 (j e5 (j e6 (j e7 (j e8 (j gs_W0 (j gs_W3 (j gs_x3_ (j ws_x3_ (j wl_x3_ (j (ixo23 hv11) (j ((zG hv11).2.2) (j (ixo23 hv12) (j ((zG hv12).2.2) (j (ixo23 hv14) (j ((zG hv14).2.2) ((setx_iff.1 hl15).2.symm))))))))))))))))))))) ?_)
   exact hK _ _ ⟨rfl,rfl⟩
  rintro a J ⟨ha,rfl⟩
  (try rw[<- zE hl15] at ha);(try rw[<- zE hl15])
  replace H:=oi H
  refine hJ1 _ _ _ H.symm ?_;rw[ha]
  refine gP zH w0 r0_ 0 ?_ (hr:=by exact gs_W0 _)
  exact Rc.fin (zM (zM (zM (AHeap.Sub.trans (AHeap.Sub.refl _) (zU rfl (by simp;try omega)))))) ⟨N0+52,(by omega),(by first|rfl|exact rfl|omega),rfl,rfl⟩
 have e0:=nQ w0 w2
 have e1:=nQ w0 w3
 have e2:=nQ w0 (N0+8)
 have e3:=nQ w2 w3
 have e4:=nQ w2 (N0+8)
 have e5:=nQ w3 (N0+8)
 refine qB [0,2,3,9,10,26,83] (j e0 (j e1 (j e2 (j e3 (j e4 (j e5 (j gs_W0 (j gs_W3 (j gs_x3_ (j ws_x3_ wl_x3_)))))))))) ?_
 refine Ci H ?_ ?_<;>intro H
 .have e0:=nQ w0 w2
  have e1:=nQ w0 w3
  have e2:=nQ w0 (N0+8)
  have e3:=nQ w2 w3
  have e4:=nQ w2 (N0+8)
  have e5:=nQ w3 (N0+8)
  refine Rt tok [] [0,10] (by intro K k;simp -dsimp -implicitDefEqProofs [e0,e1,e2,e3,e4,e5,gs_W0,gs_W3,gs_x3_,ws_x3_,wl_x3_];exact k) fun a ha=>?_
  replace H:=oi H
  refine hJ1 _ _ _ H.symm ?_;rw[ha]
  exact Rc.fin (zM (zM (zM (AHeap.Sub.trans (AHeap.Sub.refl _) (zU rfl (by simp;try omega)))))) ⟨N0+29,(by omega),(by first|rfl|exact rfl|omega),rfl,rfl⟩
 have e0:=nQ w0 w2
 have e1:=nQ w0 w3
 have e2:=nQ w0 (N0+8)
 have e3:=nQ w2 w3
 have e4:=nQ w2 (N0+8)
 have e5:=nQ w3 (N0+8)
 refine qB [0,2,3,9,10,26,87] (j e0 (j e1 (j e2 (j e3 (j e4 (j e5 (j gs_W0 (j gs_W3 (j gs_x3_ (j ws_x3_ wl_x3_)))))))))) ?_
 refine Ci H ?_ ?_<;>intro H
 .refine gU Wre w0 r0_ 0 ?_ (hr:=by exact gs_W0 _)
  obtain⟨v16,hv16,H⟩:=bE H
  refine Sd tok tokM [] [3,5,6,7] [0,1,2,4,3,5,6,7,8] [0,9,10,97] (by
   intro K k
   have e0:=nQ w0 w2
   have e1:=nQ w0 w3
   have e2:=nQ w0 (N0+8)
   have e3:=nQ w0 (N0+28)
   have e4:=nQ w2 w3
   have e5:=nQ w2 (N0+8)
   have e6:=nQ w2 (N0+28)
   have e7:=nQ w3 (N0+8)
   have e8:=nQ w3 (N0+28)
   simp only[pickL,zJ,zL]
   refine m1 (j e0 (j e1 (j e2 (j e3 (j e4 (j e5 (j e6 (j e7 (j e8 (j gs_W0 (j gs_W3 (j gs_x3_ (j ws_x3_ (j wl_x3_ (j (ixo23 hv16) ((zG hv16).2.2)))))))))))))))) ?_
   exact k) ?_
  refine Ci H ?_ ?_<;>intro H
  .have e0:=nQ w0 w2
   have e1:=nQ w0 w3
   have e2:=nQ w0 (N0+8)
   have e3:=nQ w0 (N0+28)
   have e4:=nQ w2 w3
   have e5:=nQ w2 (N0+8)
   have e6:=nQ w2 (N0+28)
   have e7:=nQ w3 (N0+8)
   have e8:=nQ w3 (N0+28)
   refine Rt tok [] [0,10] (by intro K k;simp -dsimp -implicitDefEqProofs [e0,e1,e2,e3,e4,e5,e6,e7,e8,gs_W0,gs_W3,gs_x3_,ws_x3_,wl_x3_];exact k) fun a ha=>?_
   replace H:=oi H
   refine hJ1 _ _ _ H.symm ?_;rw[ha]
   refine gP zH w0 r0_ 0 ?_ (hr:=by exact gs_W0 _)
   exact Rc.fin (zM (zM (zM (AHeap.Sub.trans (AHeap.Sub.refl _) (zU rfl (by simp;try omega)))))) ⟨N0+41,(by omega),(by first|rfl|exact rfl|omega),rfl,rfl⟩
  refine Wsk ?_
  show K1 _ _
  refine kE [0,10] fun a' ha=>?_
  replace H:=oi H
  refine hJ1 _ _ _ H.symm ?_;rw[ha]
  refine gP zH w0 r0_ 0 ?_ (hr:=by exact gs_W0 _)
  exact Rc.fin (zM (zM (zM (AHeap.Sub.trans (AHeap.Sub.refl _) (zU rfl (by simp;try omega)))))) ⟨N0+38,(by omega),(by first|rfl|exact rfl|omega),rfl,rfl⟩
 have e0:=nQ w0 w2
 have e1:=nQ w0 w3
 have e2:=nQ w0 (N0+8)
 have e3:=nQ w2 w3
 have e4:=nQ w2 (N0+8)
 have e5:=nQ w3 (N0+8)
 refine qB [0,2,3,9,10,26,100] (j e0 (j e1 (j e2 (j e3 (j e4 (j e5 (j gs_W0 (j gs_W3 (j gs_x3_ (j ws_x3_ wl_x3_)))))))))) ?_
 refine Ci H ?_ ?_<;>intro H
 .refine gU Wre w0 r0_ 0 ?_ (hr:=by exact gs_W0 _)
  obtain⟨v18,hv18,H⟩:=bE H
  obtain⟨v19,hv19,H⟩:=bE H
  obtain⟨r20,hr20,H⟩:=bE H
  obtain⟨l21,hl21,H⟩:=bE H
  refine gO tok tokM [] [2,3,7,9,10,11,12] [0,1,4,5,6,8,2,3,7,9,10,11,12,13] [0,10,115] (fun a J=>∃M2:Nat,N0+45<=M2/\a=[(0,.ptr w0 r0_ 0),(10,.int .i64 (iadd .i64 p0.Pc 1)),(115,.bool (bnot r20.1))]/\J=hp E0 [(w0,some ⟨42,2,W0.set r0_ [.sl (N0+30) 0 p0.Regs.length,.int .i64 p0.Pc]⟩),(w2,some ⟨103,2,eL kA l21⟩),(w3,some ⟨t3_,s3_,W3.set r3_ (x3_.set i3_ (.osl 3 1 (eL rI p3)))⟩),(N0+8,some ⟨36,5,[[.int .i64 v1.Op,.int .i64 v1.Dst,.int .i64 v1.A,.int .i64 v1.B,.int .i64 v1.N]]⟩),(N0+30,some ⟨3,1,eL rI p0.Regs⟩)] M2) (by decide) (fun K hK=>?_) ?_
  .simp only[pickL,zJ,zL]
   have e0:=nQ w0 w2
   have e1:=nQ w0 w3
   have e2:=nQ w0 (N0+8)
   have e3:=nQ w0 (N0+30)
   have e4:=nQ w2 w3
   have e5:=nQ w2 (N0+8)
   have e6:=nQ w2 (N0+30)
   have e7:=nQ w3 (N0+8)
   have e8:=nQ w3 (N0+30)
   refine m1 (j e0 (j e1 (j e2 (j e3 (j e4 (j e5 (j e6 (j e7 (j e8 (j gs_W0 (j gs_W3 (j gs_x3_ (j ws_x3_ (j wl_x3_ (j (ixo28 hv18) (j ((zG hv18).2.2) (j (ixo23 hv19) (j ((zG hv19).2.2) (j ((setx_iff.1 hl21).2.symm) @uZ))))))))))))))))))) ?_
   refine mc (j e0 (j e1 (j e2 (j e3 (j e4 (j e5 (j e6 (j e7 (j e8 (j gs_W0 (j gs_W3 (j gs_x3_ (j ws_x3_ (j wl_x3_ (j (ixo28 hv18) (j ((zG hv18).2.2) (j (ixo23 hv19) (j ((zG hv19).2.2) (j ((setx_iff.1 hl21).2.symm) @uZ))))))))))))))))))) (c86 (r0_:=v1.N.toNat) (H:=hr20)) fun M2 fM2_0=>?_
   refine m1 (j e0 (j e1 (j e2 (j e3 (j e4 (j e5 (j e6 (j e7 (j e8 (j gs_W0 (j gs_W3 (j gs_x3_ (j ws_x3_ (j wl_x3_ (j (ixo28 hv18) (j ((zG hv18).2.2) (j (ixo23 hv19) (j ((zG hv19).2.2) (j ((setx_iff.1 hl21).2.symm) (j @uZ (j @hoS @hoN))))))))))))))))))))) ?_
   exact hK _ _ ⟨M2,(by omega),rfl,rfl⟩
  rintro a J ⟨M2,fM2_0,rfl,rfl⟩
  try rw[<- zE hl21]
  refine Ci H ?_ ?_<;>intro H
  .have e0:=nQ w0 w2
   have e1:=nQ w0 w3
   have e2:=nQ w0 (N0+8)
   have e3:=nQ w0 (N0+30)
   have e4:=nQ w2 w3
   have e5:=nQ w2 (N0+8)
   have e6:=nQ w2 (N0+30)
   have e7:=nQ w3 (N0+8)
   have e8:=nQ w3 (N0+30)
   refine qB [8] (j e0 (j e1 (j e2 (j e3 (j e4 (j e5 (j e6 (j e7 (j e8 (j gs_W0 (j gs_W3 (j gs_x3_ (j ws_x3_ wl_x3_))))))))))))) ?_
   obtain⟨z,hz,H⟩:=bE H
   obtain rfl:=oi H;dsimp only at Gj1;obtain rfl:=oi Gj1;have H:=hz
   obtain rfl:=oi H
   refine Kp [8] ?_
   refine gP Wre w0 r0_ 0 ?_ (hr:=by exact gs_W0 _)
   have z3:=nQ w0 w2
   have z4:=nQ w0 w3
   have z5:=nQ w0 (N0+8)
   have z6:=nQ w2 w3
   have z7:=nQ w2 (N0+8)
   have z8:=nQ w3 (N0+8)
   refine gDrop Wre [(w0,some ⟨42,2,W0.set r0_ [.osl 3 1 (eL rI p0.Regs),.int .i64 p0.Pc]⟩),(w2,some ⟨103,2,eL kA l21⟩),(w3,some ⟨t3_,s3_,W3.set r3_ (x3_.set i3_ (.osl 3 1 (eL rI p3)))⟩)] (zM (zM (zM (AHeap.Sub.trans (AHeap.Sub.refl _) (zU rfl (by simp;try omega)))))) ?_
   refine Wr ?_
   refine⟨[.int .i64 3],by simp[z3,z4,z5,z6,z7,z8,gs_W0,gs_W3,gs_x3_,ws_x3_,wl_x3_],M2+1,by omega,by first|rfl|exact(zE hl21)|omega,?_,?_⟩
   .simp[eN]
   first|rfl|simp
  refine Wsk ?_
  show K1 _ _
  refine kE [0,10] fun a' ha=>?_
  replace H:=oi H
  refine hJ1 _ _ _ H.symm ?_;rw[ha]
  refine gP zH w0 r0_ 0 ?_ (hr:=by exact gs_W0 _)
  exact Rc.fin (zM (zM (zM (AHeap.Sub.trans (AHeap.Sub.refl _) (zU rfl (by simp;try omega)))))) ⟨M2,(by omega),(by first|rfl|exact(zE hl21)|omega),rfl,rfl⟩
 have e0:=nQ w0 w2
 have e1:=nQ w0 w3
 have e2:=nQ w0 (N0+8)
 have e3:=nQ w2 w3
 have e4:=nQ w2 (N0+8)
 have e5:=nQ w3 (N0+8)
 refine qB [0,2,3,9,10,26,116] (j e0 (j e1 (j e2 (j e3 (j e4 (j e5 (j gs_W0 (j gs_W3 (j gs_x3_ (j ws_x3_ wl_x3_)))))))))) ?_
 refine Ci H ?_ ?_<;>intro H
 .obtain⟨v22,hv22,H⟩:=bE H
  obtain⟨r23,hr23,H⟩:=bE H
  obtain⟨l24,hl24,H⟩:=bE H
  refine Sm tok [] [0,9,10,11,12] (N0+42) (by
   intro K k
   have e0:=nQ w0 w2
   have e1:=nQ w0 w3
   have e2:=nQ w0 (N0+8)
   have e3:=nQ w2 w3
   have e4:=nQ w2 (N0+8)
   have e5:=nQ w3 (N0+8)
   refine m1 (j e0 (j e1 (j e2 (j e3 (j e4 (j e5 (j gs_W0 (j gs_W3 (j gs_x3_ (j ws_x3_ (j wl_x3_ (j (ixo28 hv22) (j ((zG hv22).2.2) (j ((setx_iff.1 hl24).2.symm) @uZ)))))))))))))) ?_
   refine mc (j e0 (j e1 (j e2 (j e3 (j e4 (j e5 (j gs_W0 (j gs_W3 (j gs_x3_ (j ws_x3_ (j wl_x3_ (j (ixo28 hv22) (j ((zG hv22).2.2) (j ((setx_iff.1 hl24).2.symm) @uZ)))))))))))))) (c87 (r0_:=v1.N.toNat) (H:=hr23)) fun M3 fM3_0=>?_
   refine m1 (j e0 (j e1 (j e2 (j e3 (j e4 (j e5 (j gs_W0 (j gs_W3 (j gs_x3_ (j ws_x3_ (j wl_x3_ (j (ixo28 hv22) (j ((zG hv22).2.2) (j ((setx_iff.1 hl24).2.symm) (j @uZ (j @hoS @hoN)))))))))))))))) ?_
   exact k M3 (by omega)) fun M3 fM3_0=>?_
  try rw[<- zE hl24]
  refine Wsq [0,9,10,11] fun K2 hK2=>?_
  have e0:=nQ w0 w2
  have e1:=nQ w0 w3
  have e2:=nQ w0 (N0+8)
  have e3:=nQ w2 w3
  have e4:=nQ w2 (N0+8)
  have e5:=nQ w3 (N0+8)
  refine qB [0,9,10,11,127] (j e0 (j e1 (j e2 (j e3 (j e4 (j e5 (j gs_W0 (j gs_W3 (j gs_x3_ (j ws_x3_ wl_x3_)))))))))) ?_
  refine Ci H ?_ ?_<;>intro H
  .have e0:=nQ w0 w2
   have e1:=nQ w0 w3
   have e2:=nQ w0 (N0+8)
   have e3:=nQ w2 w3
   have e4:=nQ w2 (N0+8)
   have e5:=nQ w3 (N0+8)
   refine qB [8] (j e0 (j e1 (j e2 (j e3 (j e4 (j e5 (j gs_W0 (j gs_W3 (j gs_x3_ (j ws_x3_ wl_x3_)))))))))) ?_
   obtain⟨z,hz,H⟩:=bE H
   obtain rfl:=oi H;dsimp only at Gj1;obtain rfl:=oi Gj1;have H:=hz
   obtain rfl:=oi H
   refine Kp [8] ?_
   have z9:=nQ w0 w2
   have z10:=nQ w0 w3
   have z11:=nQ w0 (N0+8)
   have z12:=nQ w2 w3
   have z13:=nQ w2 (N0+8)
   have z14:=nQ w3 (N0+8)
   refine gDrop Wre [(w0,some ⟨42,2,W0.set r0_ [.osl 3 1 (eL rI p0.Regs),.int .i64 p0.Pc]⟩),(w2,some ⟨103,2,eL kA l24⟩),(w3,some ⟨t3_,s3_,W3.set r3_ (x3_.set i3_ (.osl 3 1 (eL rI p3)))⟩)] (zM (zM (zM (AHeap.Sub.trans (AHeap.Sub.refl _) (zU rfl (by simp;try omega)))))) ?_
   refine Wr ?_
   refine⟨[.int .i64 3],by simp[z9,z10,z11,z12,z13,z14,gs_W0,gs_W3,gs_x3_,ws_x3_,wl_x3_],M3+3,by omega,by first|rfl|exact(zE hl24)|omega,?_,?_⟩
   .simp[eN]
   first|rfl|simp
  refine Js hK2 ?_
  refine gU Wre w0 r0_ 0 ?_ (hr:=by exact gs_W0 _)
  obtain⟨v25,hv25,H⟩:=bE H
  obtain⟨l26,hl26,H⟩:=bE H
  refine oF tok tokM [] [3,5,7,8] [0,1,2,4,6,3,5,7,8] [0,10] (fun a J=>a=[(0,.ptr w0 r0_ 0),(10,.int .i64 (iadd .i64 p0.Pc 1))]/\J=hp E0 [(w0,some ⟨42,2,W0.set r0_ [.sl (M3+2) 0 p0.Regs.length,.int .i64 p0.Pc]⟩),(w2,some ⟨103,2,eL kA l24⟩),(w3,some ⟨t3_,s3_,W3.set r3_ (x3_.set i3_ (.osl 3 1 (eL rI p3)))⟩),(N0+8,some ⟨36,5,[[.int .i64 v1.Op,.int .i64 v1.Dst,.int .i64 v1.A,.int .i64 v1.B,.int .i64 v1.N]]⟩),(M3+2,some ⟨3,1,eL rI l26⟩)] (M3+12)) (by decide) (fun K hK=>?_) ?_
  .simp only[pickL,zJ,zL]
   have e0:=nQ w0 w2
   have e1:=nQ w0 w3
   have e2:=nQ w0 (N0+8)
   have e3:=nQ w0 (M3+2)
   have e4:=nQ w2 w3
   have e5:=nQ w2 (N0+8)
   have e6:=nQ w2 (M3+2)
   have e7:=nQ w3 (N0+8)
   have e8:=nQ w3 (M3+2)
   have e9:=nQ (N0+8) (M3+2)
   have e10:=nQ (N0+6) M3
   refine m1 (j e0 (j e1 (j e2 (j e3 (j e4 (j e5 (j e6 (j e7 (j e8 (j e9 (j e10 (j gs_W0 (j gs_W3 (j gs_x3_ (j ws_x3_ (j wl_x3_ (j (ixo23 hv25) (j ((zG hv25).2.2) ((setx_iff.1 hl26).2.symm))))))))))))))))))) ?_
   exact hK _ _ ⟨rfl,rfl⟩
  rintro a J ⟨ha,rfl⟩
  (try rw[<- zE hl26] at ha);(try rw[<- zE hl26])
  replace H:=oi H
  refine hJ1 _ _ _ H.symm ?_;rw[ha]
  refine gP zH w0 r0_ 0 ?_ (hr:=by exact gs_W0 _)
  exact Rc.fin (zM (zM (zM (AHeap.Sub.trans (AHeap.Sub.refl _) (zU rfl (by simp;try omega)))))) ⟨M3+12,(by omega),(by first|rfl|exact(zE hl24)|omega),rfl,rfl⟩
 have e0:=nQ w0 w2
 have e1:=nQ w0 w3
 have e2:=nQ w0 (N0+8)
 have e3:=nQ w2 w3
 have e4:=nQ w2 (N0+8)
 have e5:=nQ w3 (N0+8)
 refine qB [0,3,9,10,26,136] (j e0 (j e1 (j e2 (j e3 (j e4 (j e5 (j gs_W0 (j gs_W3 (j gs_x3_ (j ws_x3_ wl_x3_)))))))))) ?_
 refine Ci H ?_ ?_<;>intro H
 .have e0:=nQ w0 w2
  have e1:=nQ w0 w3
  have e2:=nQ w0 (N0+8)
  have e3:=nQ w2 w3
  have e4:=nQ w2 (N0+8)
  have e5:=nQ w3 (N0+8)
  refine qB [] (j e0 (j e1 (j e2 (j e3 (j e4 (j e5 (j gs_W0 (j gs_W3 (j gs_x3_ (j ws_x3_ wl_x3_)))))))))) ?_
  have e0:=nQ w0 w2
  have e1:=nQ w0 w3
  have e2:=nQ w0 (N0+8)
  have e3:=nQ w2 w3
  have e4:=nQ w2 (N0+8)
  have e5:=nQ w3 (N0+8)
  refine qB [8] (j e0 (j e1 (j e2 (j e3 (j e4 (j e5 (j gs_W0 (j gs_W3 (j gs_x3_ (j ws_x3_ wl_x3_)))))))))) ?_
  obtain⟨z,hz,H⟩:=bE H
  cases oj H;dsimp only at Gj1;obtain rfl:=oi Gj1;have H:=hz
  cases oj H
  refine Kp [8] ?_
  have z15:=nQ w0 w2
  have z16:=nQ w0 w3
  have z17:=nQ w0 (N0+8)
  have z18:=nQ w2 w3
  have z19:=nQ w2 (N0+8)
  have z20:=nQ w3 (N0+8)
  refine gDrop Wre [(w0,some ⟨42,2,W0.set r0_ [.osl 3 1 (eL rI p0.Regs),.int .i64 (iadd .i64 p0.Pc 1)]⟩),(w2,some ⟨103,2,eL kA p2⟩),(w3,some ⟨t3_,s3_,W3.set r3_ (x3_.set i3_ (.osl 3 1 (eL rI p3)))⟩)] (zM (zM (zM (AHeap.Sub.trans (AHeap.Sub.refl _) (zU rfl (by simp;try omega)))))) ?_
  refine Wr ?_
  refine⟨[.int .i64 2],by simp[z15,z16,z17,z18,z19,z20,gs_W0,gs_W3,gs_x3_,ws_x3_,wl_x3_],N0+40,by omega,by first|rfl|exact rfl|omega,?_,?_⟩
  .simp[eN]
  first|rfl|simp
 have e0:=nQ w0 w2
 have e1:=nQ w0 w3
 have e2:=nQ w0 (N0+8)
 have e3:=nQ w2 w3
 have e4:=nQ w2 (N0+8)
 have e5:=nQ w3 (N0+8)
 refine qB [0,3,9,10,26,142] (j e0 (j e1 (j e2 (j e3 (j e4 (j e5 (j gs_W0 (j gs_W3 (j gs_x3_ (j ws_x3_ wl_x3_)))))))))) ?_
 refine Ci H ?_ ?_<;>intro H
 .refine gUnp Wre (ty:=3) (sz:=1) (es:=eL rI p3) (o:=w3) (ob:=⟨t3_,s3_,W3.set r3_ (x3_.set i3_ (.osl 3 1 (eL rI p3)))⟩) (row:=x3_.set i3_ (.osl 3 1 (eL rI p3))) (r:=r3_) (i:=i3_) [(w0,some ⟨42,2,W0.set r0_ [.osl 3 1 (eL rI p0.Regs),.int .i64 p0.Pc]⟩),(w2,some ⟨103,2,eL kA p2⟩),(w3,some ⟨t3_,s3_,W3.set r3_ (x3_.set i3_ (.sl (N0+36) 0 p3.length))⟩),(N0+8,some ⟨36,5,[[.int .i64 v1.Op,.int .i64 v1.Dst,.int .i64 v1.A,.int .i64 v1.B,.int .i64 v1.N]]⟩),(N0+36,some ⟨3,1,eL rI p3⟩)] (by simp(disch:=omega)) (by simp(disch:=omega) [gs_W3]) (by simp(disch:=omega) [gs_x3_]) (by simp(disch:=omega)) ?_
  refine gU Wre w0 r0_ 0 ?_ (hr:=by exact gs_W0 _)
  obtain⟨v27,hv27,H⟩:=bE H
  obtain⟨l28,hl28,H⟩:=bE H
  have q0:∀J i,bsA T 23 true i 1 [(0,.int .i64 v27)] J=some (.fsl (eL rI ([v27]:List Int)),J):=fun _ _=>rfl
  refine AWP_ry tok tokM [12] [3,7,9,10,11,12,13,15] [0,1,2,4,5,6,8,3,7,9,10,11,12,13,14,15] [(12,[3])] [0,10] (fun a J=>a=[(0,.ptr w0 r0_ 0),(10,.int .i64 (iadd .i64 p0.Pc 1))]/\J=hp E0 [(w0,some ⟨42,2,W0.set r0_ [.sl (N0+37) 0 p0.Regs.length,.int .i64 p0.Pc]⟩),(w2,some ⟨103,2,eL kA p2⟩),(w3,some ⟨t3_,s3_,W3.set r3_ (x3_.set i3_ (.sl (N0+51) 0 l28.length))⟩),(N0+8,some ⟨36,5,[[.int .i64 v1.Op,.int .i64 v1.Dst,.int .i64 v1.A,.int .i64 v1.B,.int .i64 v1.N]]⟩),(N0+37,some ⟨3,1,eL rI p0.Regs⟩),(N0+51,some ⟨3,1,eL rI l28⟩)] (N0+54)) (by decide) (fun K hK=>?_) ?_
  .simp only[pickL,zJ,zL]
   have e0:=nQ w0 w2
   have e1:=nQ w0 w3
   have e2:=nQ w0 (N0+8)
   have e3:=nQ w0 (N0+36)
   have e4:=nQ w0 (N0+37)
   have e5:=nQ w0 (N0+51)
   have e6:=nQ w2 w3
   have e7:=nQ w2 (N0+8)
   have e8:=nQ w2 (N0+36)
   have e9:=nQ w2 (N0+37)
   have e10:=nQ w2 (N0+51)
   have e11:=nQ w3 (N0+8)
   have e12:=nQ w3 (N0+36)
   have e13:=nQ w3 (N0+37)
   have e14:=nQ w3 (N0+51)
   refine m1 (j e0 (j e1 (j e2 (j e3 (j e4 (j e5 (j e6 (j e7 (j e8 (j e9 (j e10 (j e11 (j e12 (j e13 (j e14 (j gs_W0 (j gs_W3 (j gs_x3_ (j ws_x3_ (j wl_x3_ (j (ixo23 hv27) (j ((zG hv27).2.2) (j q0 (app23 hl28)))))))))))))))))))))))) ?_
   exact hK _ _ ⟨rfl,rfl⟩
  rintro a J ⟨ha,rfl⟩
  replace H:=oi H
  refine hJ1 _ _ _ H.symm ?_;rw[ha]
  refine gP zH w0 r0_ 0 ?_ (hr:=by exact gs_W0 _)
  refine gPk zH (k:=l28.length) (o:=w3) (ob:=⟨t3_,s3_,W3.set r3_ (x3_.set i3_ (.sl (N0+51) 0 l28.length))⟩) (row:=x3_.set i3_ (.sl (N0+51) 0 l28.length)) (d:=(N0+51)) (obd:=⟨3,1,eL rI l28⟩) (r:=r3_) (i:=i3_) [(w0,some ⟨42,2,W0.set r0_ [.osl 3 1 (eL rI p0.Regs),.int .i64 p0.Pc]⟩),(w2,some ⟨103,2,eL kA p2⟩),(w3,some ⟨t3_,s3_,W3.set r3_ (x3_.set i3_ (.osl 3 1 (eL rI l28)))⟩),(N0+8,some ⟨36,5,[[.int .i64 v1.Op,.int .i64 v1.Dst,.int .i64 v1.A,.int .i64 v1.B,.int .i64 v1.N]]⟩)] (by simp(disch:=omega)) (by simp(disch:=omega) [gs_W3]) (by simp(disch:=omega) [gs_x3_]) (by simp(disch:=omega)) (by simp(disch:=omega)) (by first|omega|simp) (by simp(disch:=omega) [fD]<;>omega) (by simp(disch:=omega) [fD]) ?_
  exact Rc.fin (zM (zM (zM (AHeap.Sub.trans (AHeap.Sub.refl _) (zU rfl (by simp;try omega)))))) ⟨N0+54,(by omega),(by first|rfl|exact rfl|omega),rfl,rfl⟩
 have e0:=nQ w0 w2
 have e1:=nQ w0 w3
 have e2:=nQ w0 (N0+8)
 have e3:=nQ w2 w3
 have e4:=nQ w2 (N0+8)
 have e5:=nQ w3 (N0+8)
 refine qB [0,10,159] (j e0 (j e1 (j e2 (j e3 (j e4 (j e5 (j gs_W0 (j gs_W3 (j gs_x3_ (j ws_x3_ wl_x3_)))))))))) ?_
 refine Ci H ?_ ?_<;>intro H
 .have e0:=nQ w0 w2
  have e1:=nQ w0 w3
  have e2:=nQ w0 (N0+8)
  have e3:=nQ w2 w3
  have e4:=nQ w2 (N0+8)
  have e5:=nQ w3 (N0+8)
  refine qB [8] (j e0 (j e1 (j e2 (j e3 (j e4 (j e5 (j gs_W0 (j gs_W3 (j gs_x3_ (j ws_x3_ wl_x3_)))))))))) ?_
  obtain⟨z,hz,H⟩:=bE H
  cases oj H;dsimp only at Gj1;obtain rfl:=oi Gj1;have H:=hz
  cases oj H
  refine Kp [8] ?_
  have z21:=nQ w0 w2
  have z22:=nQ w0 w3
  have z23:=nQ w0 (N0+8)
  have z24:=nQ w2 w3
  have z25:=nQ w2 (N0+8)
  have z26:=nQ w3 (N0+8)
  refine gDrop Wre [(w0,some ⟨42,2,W0.set r0_ [.osl 3 1 (eL rI p0.Regs),.int .i64 p0.Pc]⟩),(w2,some ⟨103,2,eL kA p2⟩),(w3,some ⟨t3_,s3_,W3.set r3_ (x3_.set i3_ (.osl 3 1 (eL rI p3)))⟩)] (zM (zM (zM (AHeap.Sub.trans (AHeap.Sub.refl _) (zU rfl (by simp;try omega)))))) ?_
  refine Wr ?_
  refine⟨[.int .i64 4],by simp[z21,z22,z23,z24,z25,z26,gs_W0,gs_W3,gs_x3_,ws_x3_,wl_x3_],N0+39,by omega,by first|rfl|exact rfl|omega,?_,?_⟩
  .simp[eN]
  first|rfl|simp
 refine Wsk ?_
 show K1 _ _
 refine kE [0,10] fun a' ha=>?_
 replace H:=oi H
 refine hJ1 _ _ _ H.symm ?_;rw[ha]
 exact Rc.fin (zM (zM (zM (AHeap.Sub.trans (AHeap.Sub.refl _) (zU rfl (by simp;try omega)))))) ⟨N0+38,(by omega),(by first|rfl|exact rfl|omega),rfl,rfl⟩

theorem c57 {p0:Int}{pf0:gCrew}{r:Int×gCrew}(H:sC p0 pf0=some r){J:AHeap}{wf0:Nat}{Wf0:List (List AV)}{rf0_:Nat}(qf0:J.objs wf0=some ⟨30,6,Wf0⟩)(gf0:Wf0[rf0_]? =some [.fsl (eL zA pf0.Codes),.osl 42 2 (eL zX pf0.Threads),.osl 103 2 (eL kA pf0.Boxes),.int .i64 pf0.Turn,.int .i64 pf0.Idle,.osl 3 1 (eL rI pf0.Out)]):ACalls Tryz.prog G 57 [.int .i64 p0,.ptr wf0 rf0_ 0] J (fun v J'=>∃M:Nat,J.next<=M/\v=.int .i64 r.1/\J'=hp J.objs [(wf0,some ⟨30,6,Wf0.set rf0_ [.fsl (eL zA r.2.Codes),.osl 42 2 (eL zX r.2.Threads),.osl 103 2 (eL kA r.2.Boxes),.int .i64 r.2.Turn,.int .i64 r.2.Idle,.osl 3 1 (eL rI r.2.Out)]⟩)] M):=by
 refine fr1 ([(wf0,some ⟨30,6,Wf0⟩)]) (by simp[qf0]) (fun hlt=>?_) ⟨_,func57,rfl,rfl⟩
 generalize J.next=N0 at hlt ⊢
 have lwf0:wf0<N0:=hlt _ (.head _) rfl
 have gs_Wf0:∀x,(Wf0.set rf0_ x)[rf0_]? =some x:=gsetW gf0
 rw[<- kC gf0]
 refine fnK tok func57 ntmps57 results57 ?_
 simp only[argsA,Nat.reduceAdd,hpN]
 unfold sC at H
 refine qB [0,1] gs_Wf0 ?_
 refine gU Wre wf0 rf0_ 1 ?_ (hr:=by exact gs_Wf0 _)
 refine gU Wre wf0 rf0_ 2 ?_ (hr:=by exact gs_Wf0 _)
 obtain⟨v3,hv3,H⟩:=bE H
 obtain⟨v4,hv4,H⟩:=bE H
 obtain⟨r5,hr5,H⟩:=bE H
 obtain⟨l6,hl6,H⟩:=bE H
 refine gO tok tokM [] [1,3,5,7,8,10,12] [0,2,4,6,9,11,1,3,5,7,8,10,12,13] [3] (fun a J=>∃M1:Nat,N0+17<=M1/\r5.2.2.1.length=pf0.Boxes.length/\a=[(3,.int .i64 r5.1)]/\J=hp E0 [(wf0,some ⟨30,6,Wf0.set rf0_ [.fsl (eL zA pf0.Codes),.sl (N0+1) 0 pf0.Threads.length,.sl (N0+2) 0 pf0.Boxes.length,.int .i64 pf0.Turn,.int .i64 pf0.Idle,.osl 3 1 (eL rI r5.2.2.2)]⟩),(N0+1,some ⟨42,2,eL zX l6⟩),(N0+2,some ⟨103,2,eL kA r5.2.2.1⟩)] M1) (by decide) (fun K hK=>?_) ?_
 .simp only[pickL,zJ,zL]
  have e0:=nQ wf0 (N0+1)
  have e1:=nQ wf0 (N0+2)
  refine m1 (j e0 (j e1 (j gs_Wf0 (j (ixo27 hv3) (j ((zG hv3).2.2) (j (ix24 hv4) (j ((setx_iff.1 hl6).2.symm) @kQ))))))) ?_
  refine(c58 (W0:=eL zX pf0.Threads) (r0_:=p0.toNat) (W3:=Wf0.set rf0_ [.fsl (eL zA pf0.Codes),.sl (N0+1) 0 pf0.Threads.length,.sl (N0+2) 0 pf0.Boxes.length,.int .i64 pf0.Turn,.int .i64 pf0.Idle,.osl 3 1 (eL rI pf0.Out)]) (r3_:=rf0_) (x3_:=[.fsl (eL zA pf0.Codes),.sl (N0+1) 0 pf0.Threads.length,.sl (N0+2) 0 pf0.Boxes.length,.int .i64 pf0.Turn,.int .i64 pf0.Idle,.osl 3 1 (eL rI pf0.Out)]) (i3_:=5) (t3_:=30) (s3_:=6) (H:=hr5) (by simp[e0,e1,gs_Wf0,ixo27 hv3,(zG hv3).2.2,ix24 hv4,(setx_iff.1 hl6).2.symm,kQ]) (by simp[e0,e1,gs_Wf0,ixo27 hv3,(zG hv3).2.2,ix24 hv4,(setx_iff.1 hl6).2.symm,kQ]) (by simp[e0,e1,gs_Wf0,ixo27 hv3,(zG hv3).2.2,ix24 hv4,(setx_iff.1 hl6).2.symm,kQ]) (by simp[e0,e1,gs_Wf0,ixo27 hv3,(zG hv3).2.2,ix24 hv4,(setx_iff.1 hl6).2.symm,kQ]) (by simp[e0,e1,gs_Wf0,ixo27 hv3,(zG hv3).2.2,ix24 hv4,(setx_iff.1 hl6).2.symm,kQ]) (by simp[e0,e1,gs_Wf0,ixo27 hv3,(zG hv3).2.2,ix24 hv4,(setx_iff.1 hl6).2.symm,kQ]) (by simp[e0,e1,gs_Wf0,ixo27 hv3,(zG hv3).2.2,ix24 hv4,(setx_iff.1 hl6).2.symm,kQ]) (by simp[e0,e1,gs_Wf0,ixo27 hv3,(zG hv3).2.2,ix24 hv4,(setx_iff.1 hl6).2.symm,kQ]) (by simp[e0,e1,gs_Wf0,ixo27 hv3,(zG hv3).2.2,ix24 hv4,(setx_iff.1 hl6).2.symm,kQ])).mono ?_;rintro _ _ ⟨M1,fM1_0,fM1_1,rfl,rfl⟩;simp only[hpN] at fM1_0
  refine m1 (j e0 (j e1 (j gs_Wf0 (j (ixo27 hv3) (j ((zG hv3).2.2) (j (ix24 hv4) (j ((setx_iff.1 hl6).2.symm) (j @kQ (j @hoS @hoN))))))))) ?_
  exact hK _ _ ⟨M1,(by omega),fM1_1,rfl,rfl⟩
 rintro a J ⟨M1,fM1_0,fM1_1,rfl,rfl⟩
 try rw[<- zE hl6]
 try rw[<- fM1_1]
 obtain rfl:=oi H
 refine Kp [3] ?_
 refine gP Wre wf0 rf0_ 1 ?_ (hr:=by exact gs_Wf0 _)
 refine gP Wre wf0 rf0_ 2 ?_ (hr:=by exact gs_Wf0 _)
 exact V1 gs_Wf0 M1

theorem c36 {p0:Int}{p1:Int}{p2:Int}{p3:Int}{r:Int×Int×Bool}(H:vH p0 p1 p2 p3=some r):APure Tryz.prog G 36 [.int .i64 p0,.int .i64 p1,.int .i64 p2,.int .i64 p3] (.tup [.int .i64 r.1,.int .i64 r.2.1,.bool r.2.2]):=by
 refine qK func36 ntmps36 results36 fun N0=>?_
 unfold vH at H
 refine qA [0,1,2,3] ?_
 refine Wsq [0,1,2,3] fun K1 hK1=>?_
 obtain⟨g1,hg1,H⟩:=bE H
 obtain⟨g2,hg2,H⟩:=bE H
 obtain⟨g3,hg3,H⟩:=bE H
 obtain⟨g4,hg4,H⟩:=bE H
 obtain⟨g5,hg5,H⟩:=bE H
 refine qF tok [0,1,2,3,34] ([(0,.int .i64 p0),(1,.int .i64 p1),(2,.int .i64 p2),(3,.int .i64 p3),(34,.bool g5)]) (hp E0 [] (N0+27)) (by
  intro K k
  refine m0 ?_
  cases hbg1:ilt p0 1
  .cases oj (ifF hbg1 hg1)
   refine m1 hbg1 ?_
   cases hbg2:(igt p0 3)
   .cases oj (ifF hbg2 hg2)
    refine m2 hbg1 hbg2 ?_
    cases hbg3:(ilt p1 0)
    .cases oj (ifF hbg3 hg3)
     refine m1 (j hbg1 (j hbg2 hbg3)) ?_
     cases hbg4:(ige p1 p0)
     .cases oj (ifF hbg4 hg4)
      refine m1 (j hbg1 (j hbg2 (j hbg3 hbg4))) ?_
      cases hbg5:(ilt p2 0)
      .cases oj (ifF hbg5 hg5)
       exact m1 (j hbg1 (j hbg2 (j hbg3 (j hbg4 hbg5)))) k
      cases oj (ifT hbg5 hg5)
      exact m1 (j hbg1 (j hbg2 (j hbg3 (j hbg4 hbg5)))) k
     cases oj (ifT hbg4 hg4)
     cases oj (ifT rfl hg5)
     exact m1 (j hbg1 (j hbg2 (j hbg3 hbg4))) k
    cases oj (ifT hbg3 hg3)
    cases oj (ifT rfl hg4)
    cases oj (ifT rfl hg5)
    exact m1 (j hbg1 (j hbg2 hbg3)) k
   cases oj (ifT hbg2 hg2)
   cases oj (ifT rfl hg3)
   cases oj (ifT rfl hg4)
   cases oj (ifT rfl hg5)
   exact m2 hbg1 hbg2 k
  cases oj (ifT hbg1 hg1)
  cases oj (ifT rfl hg2)
  cases oj (ifT rfl hg3)
  cases oj (ifT rfl hg4)
  cases oj (ifT rfl hg5)
  refine m1 hbg1 ?_
  exact k) ?_
 refine Ci H ?_ ?_<;>intro H
 .refine qA [8,9,10] ?_
  cases oj H;exact W4
 refine Js hK1 ?_
 refine Wsq [] fun K2 hK2=>?_
 refine qA [0,1,2,35] ?_
 refine Wb ?_
 refine qA [0,1,2,35,36] ?_
 refine Ci H ?_ ?_<;>intro H
 .refine qA [8,9,10] ?_
  cases oj H;exact W4
 refine qA [0,1,2,35,39] ?_
 refine Ci H ?_ ?_<;>intro H
 .obtain⟨v6,hv6,H⟩:=bE H
  refine qB [8,9,10] hv6 ?_
  cases oj H;exact W4
 obtain⟨j1,hj1,H⟩:=bE H
 refine kP (kN fun K3 hK3=>?_)
 have hJ1:∀a J,Rc G 54 N0 (fun a J=>∃M1:Nat,N0<=M1/\a=[(0,.int .i64 p0),(1,.int .i64 p1),(2,.int .i64 p2),(45,.bool j1)]/\J=hp E0 [] M1) (a.keep [0,1,2,45]) J->K3 a J:=by
  rintro a J ⟨b,U,hr,M1,fM1_0,rfl,rfl⟩
  refine hK3 _ _ (kG [0,1,2,45] (Wre hr ?_))
  refine Ci H ?_ ?_<;>intro H
  .obtain⟨v8,hv8,H⟩:=bE H
   refine qB [8,9,10] hv8 ?_
   cases oj H;exact W4
  refine Js hK2 ?_
  refine qA [8,9,10] ?_
  cases oj H;exact W4
 replace H:=hj1
 refine qA [0,1,2,35,45] ?_
 refine Ci H ?_ ?_<;>intro H
 .refine Wsk ?_
  show K3 _ _
  refine kE [0,1,2,45] fun a' ha=>?_
  cases oj H
  refine hJ1 _ _ ?_;rw[ha]
  exact R1 (N0+34)
 refine Rt0 tok [] [0,1,2,45] fun a ha=>?_
 cases oj H
 refine hJ1 _ _ ?_;rw[ha]
 exact R1 (N0+36)

theorem c55_o {p0:List Int}{r:List Int}(H:kI p0=some r){J:AHeap}:ACalls Tryz.prog G 55 [.fsl (eL rI p0)] J (fun v J'=>∃M n0:Nat,J.next<=M/\J.next<=n0/\n0<M/\v=.sl n0 0 r.length/\J'=hp J.objs [(n0,some ⟨3,1,eL rI r⟩)] M):=by
 refine fr2 [] (by simp) (fun hlt=>?_) ⟨_,func55,rfl,rfl⟩
 generalize J.next=N0 at hlt ⊢
 refine fnK tok func55 ntmps55 results55 ?_
 simp only[argsA,Nat.reduceAdd,hpN]
 unfold kI at H
 refine qA [0] ?_
 refine Wsq [0] fun K1 hK1=>?_
 refine AWP_isnil tok [4,0] ([(0,.fsl (eL rI p0))]) rfl rfl (by decide) (by decide) (by decide) (fun _=>rfl) (fun n0=>?_) ?_
 .replace n0:p0=[]:=encL_isnil n0
  replace H:(if true=true then   some ([]:List Int) else   (appx 8 ([]:List Int) p0).bind fun l2=>   some l2:Option ((List Int)))=some r:=by simpa [n0,appx] using H
  refine Ci H ?_ ?_<;>intro H
  .refine qA [2] ?_
   cases oj H
   refine Kp [2] ?_
   refine gNilS Wre 2 3 1 [(N0+2,some ⟨3,1,eL rI ([]:List Int)⟩)] [(2,.sl (N0+2) 0 ([]:List Int).length)] (by simp(disch:=omega)) (by simp(disch:=omega) [eN]) [2] rfl ?_
   exact V2 j0 (N0+3) (N0+2)
  refine Js hK1 ?_
  obtain⟨l2,hl2,H⟩:=bE H
  have q2:∀J i,bsA T 23 true i 0 [] J=some (.esl,J):=fun _ _=>rfl
  refine Sz tok [0] [2] q2 (sP hl2) ?_
  obtain rfl:=oi H
  refine Kp [2] ?_
  exact V2 j0 (N0+5) (N0+3)
 .
  refine Ci H ?_ ?_<;>intro H
  .refine qA [2] ?_
   cases oj H
   refine Kp [2] ?_
   refine gNilS Wre 2 3 1 [(N0+2,some ⟨3,1,eL rI ([]:List Int)⟩)] [(2,.sl (N0+2) 0 ([]:List Int).length)] (by simp(disch:=omega)) (by simp(disch:=omega) [eN]) [2] rfl ?_
   exact V2 j0 (N0+3) (N0+2)
  refine Js hK1 ?_
  obtain⟨l1,hl1,H⟩:=bE H
  have q1:∀J i,bsA T 23 true i 0 [] J=some (.esl,J):=fun _ _=>rfl
  refine Sz tok [0] [2] q1 (sP hl1) ?_
  obtain rfl:=oi H
  refine Kp [2] ?_
  exact V2 j0 (N0+5) (N0+3)

theorem c54_o2 {p0:List gBox}{r:List gBox}(H:xE p0=some r){J:AHeap}:ACalls Tryz.prog G 54 [.fsl (eL rBox p0)] J (fun v J'=>∃M n0:Nat,J.next<=M/\J.next<=n0/\n0<M/\v=.sl n0 0 r.length/\J'=hp J.objs [(n0,some ⟨103,2,eL kA r⟩)] M):=by
 refine fr2 [] (by simp) (fun hlt=>?_) ⟨_,func54,rfl,rfl⟩
 generalize J.next=N0 at hlt ⊢
 refine fnK tok func54 ntmps54 results54 ?_
 simp only[argsA,Nat.reduceAdd,hpN]
 unfold xE at H
 refine qA [0] ?_
 refine qA [0,3] ?_
 refine Wsq [3] fun K1 hK1=>?_
 refine qA [3,6,7,8] ?_
 refine Wb ?_
 obtain⟨e1,hse1,H⟩:=bE H
 refine zR [3,6,7,8] (fun s a J=>∃M1 o1:Nat,N0<=M1/\N0<=o1/\o1<M1/\a=[(3,.sl o1 0 s.2.length),(6,.fsl (eL rBox p0)),(7,.int .i64 (ilen p0)),(8,.int .i64 s.1)]/\J=hp E0 [(o1,some ⟨103,2,eL kA s.2⟩)] M1) (fun s x a J=>x=.exit 0/\Rc G 23 N0 (fun a J=>∃M2 o2:Nat,N0<=M2/\N0<=o2/\o2<M2/\a=[(3,.sl o2 0 s.length)]/\J=hp E0 [(o2,some ⟨103,2,eL kA s⟩)] M2) (AAct.keep a [3]) J) hse1 ?_ ?_ ?_
 .refine kp [3,6,7,8] ?_
  refine gNilS zH 3 103 2 [(N0+5,some ⟨103,2,eL kA ([]:List gBox)⟩)] [(3,.sl (N0+5) 0 ([]:List gBox).length),(6,.fsl (eL rBox p0)),(7,.int .i64 (ilen p0)),(8,.int .i64 0)] (by simp(disch:=omega)) (by simp(disch:=omega) [eN]) [3,6,7,8] rfl ?_
  exact R2 (N0+6) (N0+5)
 .clear H hse1
  rintro⟨s1,s2⟩ fl a J H ⟨M1,o1,fM1_0,fM1_1,fM1_2,rfl,rfl⟩ K2 O2 hK2 hO2
  unfold pS at H;dsimp only at H
  refine qA [3,6,7,8,9] ?_
  refine Wsq [3,6,7,8] fun K3 hK3=>?_
  refine Ci H ?_ ?_<;>intro H
  .refine Js hK3 ?_
   refine Wsq [3,6,7,8] fun K4 hK4=>?_
   refine Wb ?_
   obtain⟨v4,hv4,H⟩:=bE H
   have e0:=nQ o1 (M1+3)
   refine qC [3,5,6,7,8] e0 (ix28 hv4) ?_
   obtain⟨r5,hr5,H⟩:=bE H
   obtain⟨l6,hl6,H⟩:=bE H
   have q0:∀(a0:Int) (a1:Nat) (a2:Nat) J i,bsA T 28 true i 1 [(0,.agg [.int .i64 a0,.sl a1 0 a2])] J=some (.fsl [[.int .i64 a0,.sl a1 0 a2]],J):=fun _ _ _ _ _=>rfl
   refine AWP_ry tok tokM [7] [2,4,5,8] [0,1,3,2,4,5,6,7,8,9] [(5,[2])] [3,6,7,8] (fun a J=>∃M3 o3:Nat,M1+15<=M3/\M1+15<=o3/\o3<M3/\a=[(3,.sl (M1+13) 0 l6.length),(6,.fsl (eL rBox p0)),(7,.int .i64 (ilen p0)),(8,.int .i64 s1)]/\J=hp E0 [(M1+3,some ⟨103,2,[[.int .i64 v4.Room,.fsl (eL rI v4.Items)]]⟩),(o3,some ⟨3,1,eL rI r5⟩),(M1+13,some ⟨103,2,eL kA s2++[[.int .i64 v4.Room,.sl o3 0 r5.length]]⟩)] M3) (by decide) (fun K hK=>?_) ?_
   .simp only[pickL,zJ,zL]
    have e0:=nQ o1 (M1+3)
    have e1:=nQ o1 (M1+13)
    refine m1 (j e0 (j e1 (j q0 (apr28 kA hl6)))) ?_
    refine mo (c55_o (H:=hr5)) fun M3 o3 fM3_0 fM3_1 fM3_2=>?_
    have eM3_0:=nQ o3 o1
    have eM3_1:=nQ o3 (M1+3)
    have eM3_2:=nQ o3 (M1+13)
    refine m1 (j e0 (j e1 (j q0 (j (apr28 kA hl6) (j eM3_0 (j eM3_1 (j eM3_2 (j @hoS @hoN)))))))) ?_
    exact hK _ _ ⟨M3,o3,(by omega),(by omega),(by omega),rfl,rfl⟩
   rintro a J ⟨M3,o3,fM3_0,fM3_1,fM3_2,ha,rfl⟩
   refine hK4 _ _ ?_;rw[ha]
   refine Rc.mk ?_
   refine gP Wre (M1+13) s2.length 1 ?_ (hr:=by exact app_get _ _ _)
   rw[show hp E0 [(M1+3,some ⟨103,2,[[.int .i64 v4.Room,.fsl (eL rI v4.Items)]]⟩),(M1+13,some ⟨103,2,eL kA s2++[[.int .i64 v4.Room,.osl 3 1 (eL rI r5)]]⟩)] M3=hp E0 [(M1+3,some ⟨103,2,[[.int .i64 v4.Room,.fsl (eL rI v4.Items)]]⟩),(M1+13,some ⟨103,2,eL kA l6⟩)] M3 from by rw[<- app_enc (f:=kA) (c:=[.int .i64 v4.Room,.osl 3 1 (eL rI r5)]) hl6 rfl]]
   obtain rfl:=oi H
   refine qI hK2 ?_
   exact Rc.fin (AHeap.Sub.trans (zM (AHeap.Sub.refl _)) (zU rfl (by simp;try omega))) ⟨M3+2,(M1+13),(by omega),(by omega),(by omega),rfl,rfl⟩
  cases oj H
  refine zK (hO2 _ _ _ _ rfl ⟨rfl,?_⟩)
  refine kr ?_
  exact R2 (M1+1) o1
 intro x a J hx
 obtain⟨y3,rfl⟩:∃x,x=e1:=⟨_,rfl⟩
 obtain⟨rfl,b,U,hr,M2,o2,fM2_0,fM2_1,fM2_2,rfl,rfl⟩:=hx
 (try dsimp only at H)
 show K1 _ _
 refine hK1 _ _ (zH hr ?_)
 refine Rc.mk ?_
 refine qA [2] ?_
 obtain rfl:=oi H
 refine Kp [2] ?_
 exact V2 j0 (M2+2) o2

theorem c56_i_CrewRun_1_c4_0_1 {p0:Int}{p1:Int}{p2:Int}{p3:Int}{p4_0:gCrew}{r:Int×Int×Bool×gCrew}(H:kK p0 p1 p2 p3 p4_0=some r){J:AHeap}{w4_0:Nat}{W4_0:List (List AV)}{r4_0_:Nat}{w4_0c1:Nat}(q4_0:J.objs w4_0=some ⟨30,6,W4_0⟩)(g4_0:W4_0[r4_0_]? =some [.fsl (eL zA p4_0.Codes),.sl w4_0c1 0 p4_0.Threads.length,.osl 103 2 (eL kA p4_0.Boxes),.int .i64 p4_0.Turn,.int .i64 p4_0.Idle,.osl 3 1 (eL rI p4_0.Out)])(q4_0c1:J.objs w4_0c1=some ⟨42,2,eL zX p4_0.Threads⟩)(d0_1:¬w4_0=w4_0c1):ACalls Tryz.prog G 56 [.int .i64 p0,.int .i64 p1,.int .i64 p2,.int .i64 p3,.clo 57 [] [.ptr w4_0 r4_0_ 0]] J (fun v J'=>∃M:Nat,J.next<=M/\v=.tup [.int .i64 r.1,.int .i64 r.2.1,.bool r.2.2.1]/\J'=hp J.objs [(w4_0,some ⟨30,6,W4_0.set r4_0_ [.fsl (eL zA r.2.2.2.Codes),.osl 42 2 (eL zX r.2.2.2.Threads),.osl 103 2 (eL kA r.2.2.2.Boxes),.int .i64 r.2.2.2.Turn,.int .i64 r.2.2.2.Idle,.osl 3 1 (eL rI r.2.2.2.Out)]⟩),(w4_0c1,none)] M):=by
 refine fr1 ([(w4_0,some ⟨30,6,W4_0⟩),(w4_0c1,some ⟨42,2,eL zX p4_0.Threads⟩)]) (by simp[q4_0,q4_0c1]) (fun hlt=>?_) ⟨_,func56,rfl,rfl⟩
 generalize J.next=N0 at hlt ⊢
 have lw4_0:w4_0<N0:=hlt _ (.head _) rfl
 have lw4_0c1:w4_0c1<N0:=hlt _ (.tail _ (.head _)) rfl
 have gs_W4_0:∀x,(W4_0.set r4_0_ x)[r4_0_]? =some x:=gsetW g4_0
 rw[<- kC g4_0]
 refine fnK tok func56 ntmps56 results56 ?_
 simp only[argsA,Nat.reduceAdd,hpN]
 unfold kK at H
 have e0:=nQ w4_0 w4_0c1
 refine qC [0,1,2,3,4] e0 gs_W4_0 ?_
 refine Wsq [2,3] fun K1 hK1=>?_
 refine Wb ?_
 obtain⟨e1,hse1,H⟩:=bE H
 refine zR [0,1,2,3,4] (fun s a J=>∃M1:Nat,N0<=M1/\a=[(0,.int .i64 s.1),(1,.int .i64 p1),(2,.int .i64 s.2.1),(3,.int .i64 s.2.2.1),(4,.clo 57 [] [.ptr w4_0 r4_0_ 0])]/\J=hp E0 [(w4_0,some ⟨30,6,W4_0.set r4_0_ [.fsl (eL zA s.2.2.2.Codes),.osl 42 2 (eL zX s.2.2.2.Threads),.osl 103 2 (eL kA s.2.2.2.Boxes),.int .i64 s.2.2.2.Turn,.int .i64 s.2.2.2.Idle,.osl 3 1 (eL rI s.2.2.2.Out)]⟩)] M1) (fun e x a J=>match e with|.inl s=>x=.exit 0/\Rc G 42 N0 (fun a J=>∃M2:Nat,N0<=M2/\a=[(2,.int .i64 s.1),(3,.int .i64 s.2.1)]/\J=hp E0 [(w4_0,some ⟨30,6,W4_0.set r4_0_ [.fsl (eL zA s.2.2.Codes),.osl 42 2 (eL zX s.2.2.Threads),.osl 103 2 (eL kA s.2.2.Boxes),.int .i64 s.2.2.Turn,.int .i64 s.2.2.Idle,.osl 3 1 (eL rI s.2.2.Out)]⟩)] M2) (AAct.keep a [2,3]) J|.inr s=>x=.ret/\∃vs,resA T J a [.tmp 10,.tmp 11,.tmp 12]=some vs/\∃M:Nat,N0<=M/\(tupA vs)=.tup [.int .i64 s.1,.int .i64 s.2.1,.bool s.2.2.1]/\J=hp E0 [(w4_0,some ⟨30,6,W4_0.set r4_0_ [.fsl (eL zA s.2.2.2.Codes),.osl 42 2 (eL zX s.2.2.2.Threads),.osl 103 2 (eL kA s.2.2.2.Boxes),.int .i64 s.2.2.2.Turn,.int .i64 s.2.2.2.Idle,.osl 3 1 (eL rI s.2.2.2.Out)]⟩),(w4_0c1,none)] M) hse1 ?_ ?_ ?_
 .refine kp [0,1,2,3,4] ?_
  refine gP zH w4_0 r4_0_ 1 ?_ (hr:=by exact gs_W4_0 _)
  exact R1 (N0+3)
 .clear H hse1
  rintro⟨s1,s2,s3,s4⟩ fl a J H ⟨M1,fM1_0,rfl,rfl⟩ K2 O2 hK2 hO2
  unfold zT at H;dsimp only at H
  refine Wsq [0,1,2,3,4] fun K3 hK3=>?_
  obtain⟨g8,hg8,H⟩:=bE H
  refine qF tok [0,1,2,3,4,22] ([(0,.int .i64 s1),(1,.int .i64 p1),(2,.int .i64 s2),(3,.int .i64 s3),(4,.clo 57 [] [.ptr w4_0 r4_0_ 0]),(22,.bool g8)]) (hp E0 [(w4_0,some ⟨30,6,W4_0.set r4_0_ [.fsl (eL zA s4.Codes),.osl 42 2 (eL zX s4.Threads),.osl 103 2 (eL kA s4.Boxes),.int .i64 s4.Turn,.int .i64 s4.Idle,.osl 3 1 (eL rI s4.Out)]⟩)] (M1+7)) (by
   intro K k
   refine m1 gs_W4_0 ?_
   cases hbg8:igt s1 0
   .cases oj (ifF hbg8 hg8)
    exact m2 gs_W4_0 hbg8 k
   cases oj (ifT hbg8 hg8)
   refine m2 gs_W4_0 hbg8 ?_
   exact k) ?_
  refine Ci H ?_ ?_<;>intro H
  .refine Js hK3 ?_
   refine Wsq [0,1,2,3,4] fun K4 hK4=>?_
   refine Wb ?_
   obtain⟨r9,hr9,H⟩:=bE H
   obtain⟨r10,hr10,H⟩:=bE H
   refine Sm tok [] [0,1,4,13,14,15] (M1+21) (by
    intro K k
    refine m1 gs_W4_0 ?_
    refine(c57 (Wf0:=W4_0.set r4_0_ [.fsl (eL zA s4.Codes),.osl 42 2 (eL zX s4.Threads),.osl 103 2 (eL kA s4.Boxes),.int .i64 s4.Turn,.int .i64 s4.Idle,.osl 3 1 (eL rI s4.Out)]) (rf0_:=r4_0_) (H:=hr9) (by simp[gs_W4_0]) (by simp[gs_W4_0])).mono ?_;rintro _ _ ⟨M3,fM3_0,rfl,rfl⟩;simp only[hpN] at fM3_0
    refine m1 (j gs_W4_0 (j @hoS @hoN)) ?_
    refine(c36 hr10).app (m1 (j gs_W4_0 (j @hoS @hoN)) ?_)
    exact k M3 (by omega)) fun M3 fM3_0=>?_
   refine Wsq [0,1,4,13,14] fun K5 hK5=>?_
   refine qB [0,1,4,13,14,37] gs_W4_0 ?_
   refine Ci H ?_ ?_<;>intro H
   .refine qB [10,11,12] gs_W4_0 ?_
    obtain rfl:=oi H
    refine Kp [10,11,12] ?_
    refine Wr (hO2 _ _ _ _ rfl ⟨rfl,?_⟩)
    refine⟨[.int .i64 0,.int .i64 0,.bool false],by simp[gs_W4_0],M3+5,by omega,?_,?_⟩
    .simp[eN]
    symm;first|exact hp_tail (L:=[(w4_0,some ⟨30,6,W4_0.set r4_0_ [.fsl (eL zA r9.2.Codes),.osl 42 2 (eL zX r9.2.Threads),.osl 103 2 (eL kA r9.2.Boxes),.int .i64 r9.2.Turn,.int .i64 r9.2.Idle,.osl 3 1 (eL rI r9.2.Out)]⟩)])|(simp only[List.set_set];exact hp_tail (L:=[(w4_0,some ⟨30,6,W4_0.set r4_0_ [.fsl (eL zA r9.2.Codes),.osl 42 2 (eL zX r9.2.Threads),.osl 103 2 (eL kA r9.2.Boxes),.int .i64 r9.2.Turn,.int .i64 r9.2.Idle,.osl 3 1 (eL rI r9.2.Out)]⟩)]))
   refine Js hK5 ?_
   refine qH gs_W4_0 hK4 ?_
   obtain rfl:=oi H
   refine qJ gs_W4_0 hK2 ?_
   exact R1 (M3+9)
  cases oj H
  refine zK (hO2 _ _ _ _ rfl ⟨rfl,?_⟩)
  refine kr ?_
  exact R1 (M1+7)
 intro x a J hx
 rcases e1 with⟨y5,y6,y7⟩|r0
 .obtain⟨rfl,b,U,hr,M2,fM2_0,rfl,rfl⟩:=hx
  (try dsimp only at H)
  show K1 _ _
  refine hK1 _ _ (zH hr ?_)
  refine Rc.mk ?_
  refine qB [10,11,12] gs_W4_0 ?_
  obtain rfl:=oi H
  refine Kp [10,11,12] ?_
  refine Wr ?_
  refine⟨[.int .i64 y5,.int .i64 y6,.bool true],by simp[gs_W4_0],M2+5,by omega,?_,?_⟩
  .simp[eN]
  symm;first|exact hp_tail (L:=[(w4_0,some ⟨30,6,W4_0.set r4_0_ [.fsl (eL zA y7.Codes),.osl 42 2 (eL zX y7.Threads),.osl 103 2 (eL kA y7.Boxes),.int .i64 y7.Turn,.int .i64 y7.Idle,.osl 3 1 (eL rI y7.Out)]⟩)])|(simp only[List.set_set];exact hp_tail (L:=[(w4_0,some ⟨30,6,W4_0.set r4_0_ [.fsl (eL zA y7.Codes),.osl 42 2 (eL zX y7.Threads),.osl 103 2 (eL kA y7.Boxes),.int .i64 y7.Turn,.int .i64 y7.Idle,.osl 3 1 (eL rI y7.Out)]⟩)]))
 obtain⟨rfl,hx2⟩:=hx
 (try dsimp only at H)
 cases oj H;first|exact hx2|(simp only[List.set_set] at hx2 ⊢;exact hx2)

theorem c20 {p0:gCrew}{p1:Int}{r:gCrew×Bool}(H:sD p0 p1=some r):APure Tryz.prog G 20 [.agg [.fsl (eL zA p0.Codes),.fsl (eL zB p0.Threads),.fsl (eL rBox p0.Boxes),.int .i64 p0.Turn,.int .i64 p0.Idle,.fsl (eL rI p0.Out)],.int .i64 p1] (.tup [.agg [.fsl (eL zA r.1.Codes),.fsl (eL zB r.1.Threads),.fsl (eL rBox r.1.Boxes),.int .i64 r.1.Turn,.int .i64 r.1.Idle,.fsl (eL rI r.1.Out)],.bool r.2]):=by
 refine qK func20 ntmps20 results20 fun N0=>?_
 unfold sD at H
 refine S0 tok [0] [1,2,4] ?_
 refine Wsq [1,2,4] fun K1 hK1=>?_
 refine gW Wre (N0+1) 0 0 ?_
 refine gW Wre (N0+1) 0 1 ?_
 refine gW Wre (N0+1) 0 2 ?_
 refine gW Wre (N0+1) 0 5 ?_
 obtain⟨r1,hr1,H⟩:=bE H
 obtain⟨g2,hg2,H⟩:=bE H
 obtain⟨g3,hg3,H⟩:=bE H
 refine qF tok [1,2,4,19] ([(1,.int .i64 p1),(2,.fptr [.fsl (eL zA p0.Codes),.fsl (eL zB p0.Threads),.fsl (eL rBox p0.Boxes),.int .i64 p0.Turn,.int .i64 p0.Idle,.fsl (eL rI p0.Out)] 0),(4,.ptr (N0+1) 0 0),(19,.bool g3)]) (hp E0 [(N0+1,some ⟨30,6,[[.fsl [],.fsl [],.fsl [],.int .i64 0,.int .i64 0,.fsl []]]⟩)] (N0+14)) (by
  intro K k
  refine m0 ?_
  refine(c32 hr1).app (m0 ?_)
  cases hbg2:bnot r1
  .cases oj (ifF hbg2 hg2)
   refine m1 hbg2 ?_
   cases hbg3:(ilt p1 0)
   .cases oj (ifF hbg3 hg3)
    exact m2 hbg2 hbg3 k
   cases oj (ifT hbg3 hg3)
   exact m2 hbg2 hbg3 k
  cases oj (ifT hbg2 hg2)
  cases oj (ifT rfl hg3)
  refine m1 hbg2 ?_
  exact k) ?_
 refine Ci H ?_ ?_<;>intro H
 .refine qA [4,5] ?_
  cases oj H
  refine Kp [4,5] ?_
  exact V0
 refine Js hK1 ?_
 obtain⟨r4,hr4,H⟩:=bE H
 obtain⟨r5,hr5,H⟩:=bE H
 obtain⟨r6,hr6,H⟩:=bE H
 refine AWP_syC tok tokM [9] [5,8,10,11] [0,1,2,3,4,6,7,5,8,9,10,11] [] [1,2,4,6] (fun a J=>∃M1 o1:Nat,∃M2 o2:Nat,N0+26<=M1/\N0+26<=o1/\o1<M1/\M1<=M2/\M1<=o2/\o2<M2/\a=[(1,.int .i64 p1),(2,.fptr [.fsl (eL zA p0.Codes),.fsl (eL zB p0.Threads),.fsl (eL rBox p0.Boxes),.int .i64 p0.Turn,.int .i64 p0.Idle,.fsl (eL rI p0.Out)] 0),(4,.ptr (N0+1) 0 0),(6,.ptr (N0+24) 0 0)]/\J=hp E0 [(N0+1,some ⟨30,6,[[.fsl [],.fsl [],.fsl [],.int .i64 0,.int .i64 0,.fsl []]]⟩),(o1,some ⟨103,2,eL kA r5⟩),(o2,some ⟨3,1,eL rI r6⟩),(N0+24,some ⟨30,6,[[.fsl (eL zA r4),.nilsl,.sl o1 0 r5.length,.int .i64 0,.int .i64 0,.sl o2 0 r6.length]]⟩)] M2) (by decide) (by kernel_rfl) (fun K hK=>?_) ?_
 .simp only[pickL,zJ,zL]
  refine m0 ?_
  refine Pc.mk (c43 hr4) (m0 ?_)
  refine mo (c54_o2 (H:=hr5)) fun M1 o1 fM1_0 fM1_1 fM1_2=>?_
  have eM1_0:=nQ o1 (N0+1)
  have eM1_1:=nQ o1 (N0+24)
  refine m1 (j eM1_0 (j eM1_1 (j @hoS @hoN))) ?_
  refine mo (c55_o (H:=hr6)) fun M2 o2 fM2_0 fM2_1 fM2_2=>?_
  have eM2_0:=nQ o2 (N0+1)
  have eM2_1:=nQ o2 (N0+24)
  have eM2_2:=nQ o2 o1
  refine m1 (j eM1_0 (j eM1_1 (j @hoS (j @hoN (j eM2_0 (j eM2_1 eM2_2)))))) ?_
  exact hK _ _ ⟨M1,o1,M2,o2,(by omega),(by omega),(by omega),(by omega),(by omega),(by omega),rfl,rfl⟩
 rintro a J ⟨M1,o1,M2,o2,fM1_0,fM1_1,fM1_2,fM2_0,fM2_1,fM2_2,rfl,rfl⟩
 refine Wsq [1,2,4,6] fun K2 hK2=>?_
 have e0:=nQ (N0+1) o1
 have e1:=nQ (N0+1) o2
 have e2:=nQ o1 o2
 have e3:=nQ o1 (N0+24)
 have e4:=nQ o2 (N0+24)
 refine qB [1,2,4,6,32,33,34] (j e0 (j e1 (j e2 (j e3 e4)))) ?_
 refine Wb ?_
 obtain⟨e1,hse1,H⟩:=bE H
 refine zR [1,2,4,6,32,33,34] (fun s a J=>∃M3 o3 o4:Nat,N0<=M3/\N0<=o3/\o3<M3/\N0<=o4/\o4<M3/\¬o3=o4/\a=[(1,.int .i64 p1),(2,.fptr [.fsl (eL zA p0.Codes),.fsl (eL zB p0.Threads),.fsl (eL rBox p0.Boxes),.int .i64 p0.Turn,.int .i64 p0.Idle,.fsl (eL rI p0.Out)] 0),(4,.ptr o3 0 0),(6,.ptr o4 0 0),(32,.fsl (eL zB p0.Threads)),(33,.int .i64 (ilen p0.Threads)),(34,.int .i64 s.1)]/\J=hp E0 [(o3,some ⟨30,6,[[.fsl (eL zA s.2.1.Codes),.fsl (eL zB s.2.1.Threads),.fsl (eL rBox s.2.1.Boxes),.int .i64 s.2.1.Turn,.int .i64 s.2.1.Idle,.fsl (eL rI s.2.1.Out)]]⟩),(o4,some ⟨30,6,[[.fsl (eL zA s.2.2.Codes),.osl 42 2 (eL zX s.2.2.Threads),.osl 103 2 (eL kA s.2.2.Boxes),.int .i64 s.2.2.Turn,.int .i64 s.2.2.Idle,.osl 3 1 (eL rI s.2.2.Out)]]⟩)] M3) (fun s x a J=>x=.exit 0/\Rc G 67 N0 (fun a J=>∃M4 o5 o6:Nat,N0<=M4/\N0<=o5/\o5<M4/\N0<=o6/\o6<M4/\¬o5=o6/\a=[(1,.int .i64 p1),(2,.fptr [.fsl (eL zA p0.Codes),.fsl (eL zB p0.Threads),.fsl (eL rBox p0.Boxes),.int .i64 p0.Turn,.int .i64 p0.Idle,.fsl (eL rI p0.Out)] 0),(4,.ptr o5 0 0),(6,.ptr o6 0 0)]/\J=hp E0 [(o5,some ⟨30,6,[[.fsl (eL zA s.1.Codes),.fsl (eL zB s.1.Threads),.fsl (eL rBox s.1.Boxes),.int .i64 s.1.Turn,.int .i64 s.1.Idle,.fsl (eL rI s.1.Out)]]⟩),(o6,some ⟨30,6,[[.fsl (eL zA s.2.Codes),.osl 42 2 (eL zX s.2.Threads),.osl 103 2 (eL kA s.2.Boxes),.int .i64 s.2.Turn,.int .i64 s.2.Idle,.osl 3 1 (eL rI s.2.Out)]]⟩)] M4) (AAct.keep a [1,2,4,6]) J) hse1 ?_ ?_ ?_
 .refine kp [1,2,4,6,32,33,34] ?_
  refine gP0 zH (N0+24) 0 1 42 2 (eL zX ([]:List gThread)) ?_
  refine gP zH (N0+24) 0 2 ?_
  refine gP zH (N0+24) 0 5 ?_
  exact R3 (M2+4) (N0+1) (N0+24)
 .clear H hse1
  rintro⟨s7,s8,s9⟩ fl a J H ⟨M3,o3,o4,fM3_0,fM3_1,fM3_2,fM3_3,fM3_4,fM3_5,rfl,rfl⟩ K3 O3 hK3 hO3
  unfold uE at H;dsimp only at H
  have e0:=nQ o3 o4
  refine qB [1,2,4,6,32,33,34,35] e0 ?_
  refine Wsq [1,2,4,6,32,33,34] fun K4 hK4=>?_
  refine Ci H ?_ ?_<;>intro H
  .refine Js hK4 ?_
   refine Wsq [1,2,4,6,32,33,34] fun K5 hK5=>?_
   refine Wb ?_
   obtain⟨v12,hv12,H⟩:=bE H
   have e0:=nQ o3 o4
   have e1:=nQ o3 (M3+3)
   have e2:=nQ o4 (M3+3)
   refine qB [1,2,4,6,8,32,33,34] (j e0 (j e1 (j e2 (ix27 hv12)))) ?_
   refine gU Wre o4 0 1 ?_
   obtain⟨r13,hr13,H⟩:=bE H
   obtain⟨l14,hl14,H⟩:=bE H
   have q0:∀(a0:Nat) (a1:Nat) (a2:Int) J i,bsA T 27 true i 1 [(0,.agg [.sl a0 0 a1,.int .i64 a2])] J=some (.fsl [[.sl a0 0 a1,.int .i64 a2]],J):=fun _ _ _ _ _=>rfl
   refine AWP_ry tok tokM [8] [1,3,4,6,7,8,9,11] [0,2,5,1,3,6,4,7,8,9,10,11] [(4,[1,6]),(8,[1])] [1,2,4,6,32,33,34] (fun a J=>∃M5 o7:Nat,M3+18<=M5/\M3+18<=o7/\o7<M5/\a=[(1,.int .i64 p1),(2,.fptr [.fsl (eL zA p0.Codes),.fsl (eL zB p0.Threads),.fsl (eL rBox p0.Boxes),.int .i64 p0.Turn,.int .i64 p0.Idle,.fsl (eL rI p0.Out)] 0),(4,.ptr o3 0 0),(6,.ptr o4 0 0),(32,.fsl (eL zB p0.Threads)),(33,.int .i64 (ilen p0.Threads)),(34,.int .i64 s7)]/\J=hp E0 [(o3,some ⟨30,6,[[.fsl (eL zA s8.Codes),.fsl (eL zB s8.Threads),.fsl (eL rBox s8.Boxes),.int .i64 s8.Turn,.int .i64 s8.Idle,.fsl (eL rI s8.Out)]]⟩),(o4,some ⟨30,6,[[.fsl (eL zA s9.Codes),.sl (M3+15) 0 l14.length,.osl 103 2 (eL kA s9.Boxes),.int .i64 s9.Turn,.int .i64 s9.Idle,.osl 3 1 (eL rI s9.Out)]]⟩),(M3+3,some ⟨42,2,[[.fsl (eL rI v12.Regs),.int .i64 v12.Pc]]⟩),(o7,some ⟨3,1,eL rI r13⟩),(M3+15,some ⟨42,2,eL zX s9.Threads++[[.sl o7 0 r13.length,.int .i64 v12.Pc]]⟩)] M5) (by decide) (fun K hK=>?_) ?_
   .simp only[pickL,zJ,zL]
    have e0:=nQ o3 o4
    have e1:=nQ o3 (M3+3)
    have e2:=nQ o3 (M3+5)
    have e3:=nQ o3 (M3+15)
    have e4:=nQ o4 (M3+3)
    have e5:=nQ o4 (M3+5)
    have e6:=nQ o4 (M3+15)
    refine m1 (j e0 (j e1 (j e2 (j e3 (j e4 (j e5 (j e6 (j q0 (apr27 zX hl14))))))))) ?_
    refine mo (c55_o (H:=hr13)) fun M5 o7 fM5_0 fM5_1 fM5_2=>?_
    have eM5_0:=nQ o7 o3
    have eM5_1:=nQ o7 o4
    have eM5_2:=nQ o7 (M3+3)
    have eM5_3:=nQ o7 (M3+5)
    have eM5_4:=nQ o7 (M3+15)
    refine m1 (j e0 (j e1 (j e2 (j e3 (j e4 (j e5 (j e6 (j q0 (j (apr27 zX hl14) (j eM5_0 (j eM5_1 (j eM5_2 (j eM5_3 (j eM5_4 (j @hoS @hoN))))))))))))))) ?_
    exact hK _ _ ⟨M5,o7,(by omega),(by omega),(by omega),rfl,rfl⟩
   rintro a J ⟨M5,o7,fM5_0,fM5_1,fM5_2,ha,rfl⟩
   refine hK5 _ _ ?_;rw[ha]
   refine Rc.mk ?_
   refine gP Wre (M3+15) s9.Threads.length 0 ?_ (hr:=by exact app_get _ _ _)
   rw[show hp E0 [(o3,some ⟨30,6,[[.fsl (eL zA s8.Codes),.fsl (eL zB s8.Threads),.fsl (eL rBox s8.Boxes),.int .i64 s8.Turn,.int .i64 s8.Idle,.fsl (eL rI s8.Out)]]⟩),(o4,some ⟨30,6,[[.fsl (eL zA s9.Codes),.sl (M3+15) 0 l14.length,.osl 103 2 (eL kA s9.Boxes),.int .i64 s9.Turn,.int .i64 s9.Idle,.osl 3 1 (eL rI s9.Out)]]⟩),(M3+3,some ⟨42,2,[[.fsl (eL rI v12.Regs),.int .i64 v12.Pc]]⟩),(M3+15,some ⟨42,2,eL zX s9.Threads++[[.osl 3 1 (eL rI r13),.int .i64 v12.Pc]]⟩)] M5=hp E0 [(o3,some ⟨30,6,[[.fsl (eL zA s8.Codes),.fsl (eL zB s8.Threads),.fsl (eL rBox s8.Boxes),.int .i64 s8.Turn,.int .i64 s8.Idle,.fsl (eL rI s8.Out)]]⟩),(o4,some ⟨30,6,[[.fsl (eL zA s9.Codes),.sl (M3+15) 0 l14.length,.osl 103 2 (eL kA s9.Boxes),.int .i64 s9.Turn,.int .i64 s9.Idle,.osl 3 1 (eL rI s9.Out)]]⟩),(M3+3,some ⟨42,2,[[.fsl (eL rI v12.Regs),.int .i64 v12.Pc]]⟩),(M3+15,some ⟨42,2,eL zX l14⟩)] M5 from by rw[<- app_enc (f:=zX) (c:=[.osl 3 1 (eL rI r13),.int .i64 v12.Pc]) hl14 rfl]]
   have e0:=nQ o3 o4
   have e1:=nQ o3 (M3+3)
   have e2:=nQ o3 (M3+15)
   have e3:=nQ o4 (M3+3)
   have e4:=nQ o4 (M3+15)
   obtain rfl:=oi H
   refine qJ (j e0 (j e1 (j e2 (j e3 e4)))) hK3 ?_
   refine gP zH o4 0 1 ?_
   exact Rc.fin (zM (zM (AHeap.Sub.trans (AHeap.Sub.refl _) (zU rfl (by simp;try omega))))) ⟨M5+2,o3,o4,(by omega),(by omega),(by omega),(by omega),(by omega),(by omega),rfl,rfl⟩
  cases oj H
  refine zK (hO3 _ _ _ _ rfl ⟨rfl,?_⟩)
  refine kr ?_
  exact R3 (M3+1) o3 o4
 intro x a J hx
 obtain⟨y10,y11⟩:=e1
 obtain⟨rfl,b,U,hr,M4,o5,o6,fM4_0,fM4_1,fM4_2,fM4_3,fM4_4,fM4_5,rfl,rfl⟩:=hx
 (try dsimp only at H)
 show K2 _ _
 refine hK2 _ _ (zH hr ?_)
 refine Rc.mk ?_
 refine gU Wre o6 0 1 ?_
 obtain⟨r15,hr15,H⟩:=bE H
 refine Sm tok [] [4,6] (M4+19) (by
  intro K k
  have e0:=nQ o5 o6
  have e1:=nQ o5 M4
  have e2:=nQ o6 M4
  refine m1 (j e0 (j e1 e2)) ?_
  refine(c56_i_CrewRun_1_c4_0_1 (w4_0c1:=M4) (W4_0:=[[.fsl (eL zA y11.Codes),.sl M4 0 y11.Threads.length,.osl 103 2 (eL kA y11.Boxes),.int .i64 y11.Turn,.int .i64 y11.Idle,.osl 3 1 (eL rI y11.Out)]]) (r4_0_:=0) (H:=hr15) (by simp[e0,e1,e2]) (by simp[e0,e1,e2]) (by simp[e0,e1,e2]) (by simp[e0,e1,e2])).mono ?_;rintro _ _ ⟨M6,fM6_0,rfl,rfl⟩;simp only[hpN] at fM6_0
  refine m1 (j e0 (j e1 (j e2 (j @hoS @hoN)))) ?_
  exact k M6 (by omega)) fun M6 fM6_0=>?_
 refine gU Wre o6 0 1 ?_
 refine gU Wre o6 0 2 ?_
 refine gU Wre o6 0 5 ?_
 have e0:=nQ o5 o6
 have e1:=nQ o5 M6
 have e2:=nQ o5 (M6+1)
 have e3:=nQ o5 (M6+2)
 have e4:=nQ o6 M6
 have e5:=nQ o6 (M6+1)
 have e6:=nQ o6 (M6+2)
 refine qB [4,5] (j e0 (j e1 (j e2 (j e3 (j e4 (j e5 e6)))))) ?_
 obtain rfl:=oi H
 refine Kp [4,5] ?_
 have z0:=nQ o5 o6
 have z1:=nQ o5 M6
 have z2:=nQ o5 (M6+1)
 have z3:=nQ o5 (M6+2)
 have z4:=nQ o6 M6
 have z5:=nQ o6 (M6+1)
 have z6:=nQ o6 (M6+2)
 refine Wr ?_
 exact⟨[.agg [.fsl (eL zA r15.2.2.2.Codes),.sl M6 0 r15.2.2.2.Threads.length,.sl (M6+1) 0 r15.2.2.2.Boxes.length,.int .i64 r15.1,.int .i64 r15.2.1,.sl (M6+2) 0 r15.2.2.2.Out.length],.bool true],by simp[z0,z1,z2,z3,z4,z5,z6],4,by simp[eN,z0,z1,z2,z3,z4,z5,z6]⟩

theorem c29 {p0:gCrew}{r:gCrew×Bool}(H:pT p0=some r):APure Tryz.prog G 29 [.agg [.fsl (eL zA p0.Codes),.fsl (eL zB p0.Threads),.fsl (eL rBox p0.Boxes),.int .i64 p0.Turn,.int .i64 p0.Idle,.fsl (eL rI p0.Out)]] (.tup [.agg [.fsl (eL zA r.1.Codes),.fsl (eL zB r.1.Threads),.fsl (eL rBox r.1.Boxes),.int .i64 r.1.Turn,.int .i64 r.1.Idle,.fsl (eL rI r.1.Out)],.bool r.2]):=by
 refine qK func29 ntmps29 results29 fun N0=>?_
 unfold pT at H
 refine S0 tok [0] [1,2] ?_
 refine gW Wre (N0+1) 0 0 ?_
 refine gW Wre (N0+1) 0 1 ?_
 refine gW Wre (N0+1) 0 2 ?_
 refine gW Wre (N0+1) 0 5 ?_
 obtain⟨r1,hr1,H⟩:=bE H
 refine qD [2,3] (c20 hr1) ?_
 obtain rfl:=oi H
 refine Kp [2,3] ?_
 exact V0

theorem c31 {p0:gCrew}{r:gCrew×Bool}(H:pK p0=some r):APure Tryz.prog G 31 [.agg [.fsl (eL zA p0.Codes),.fsl (eL zB p0.Threads),.fsl (eL rBox p0.Boxes),.int .i64 p0.Turn,.int .i64 p0.Idle,.fsl (eL rI p0.Out)]] (.tup [.agg [.fsl (eL zA r.1.Codes),.fsl (eL zB r.1.Threads),.fsl (eL rBox r.1.Boxes),.int .i64 r.1.Turn,.int .i64 r.1.Idle,.fsl (eL rI r.1.Out)],.bool r.2]):=by
 refine qK func31 ntmps31 results31 fun N0=>?_
 unfold pK at H
 refine S0 tok [0] [1,2] ?_
 refine gW Wre (N0+1) 0 0 ?_
 refine gW Wre (N0+1) 0 1 ?_
 refine gW Wre (N0+1) 0 2 ?_
 refine gW Wre (N0+1) 0 5 ?_
 obtain⟨r1,hr1,H⟩:=bE H
 refine qD [2,3] (c28 hr1) ?_
 obtain rfl:=oi H
 refine Kp [2,3] ?_
 exact V0

theorem c73 {p0:List gQuad}{p1:List gQuad}{r:Bool}(H:pR p0 p1=some r):APure Tryz.prog G 73 [.fsl (eL rQuad p0),.fsl (eL rQuad p1)] (.bool r):=by
 refine qK func73 ntmps73 results73 fun N0=>?_
 unfold pR at H
 refine qA [0,1] ?_
 refine Wsq [0,1] fun K1 hK1=>?_
 refine qA [0,1,10] ?_
 refine Ci H ?_ ?_<;>intro H
 .refine qA [4] ?_
  cases oj H;exact W4
 refine Js hK1 ?_
 refine Wsq [] fun K2 hK2=>?_
 refine qA [0,1,5] ?_
 refine Wb ?_
 obtain⟨e1,hse1,H⟩:=bE H
 refine zR [0,1,5] (fun s a J=>∃M1:Nat,N0<=M1/\a=[(0,.fsl (eL rQuad p0)),(1,.fsl (eL rQuad p1)),(5,.int .i64 s)]/\J=hp E0 [] M1) (fun e x a J=>match e with|.inl s=>x=.exit 0/\Rc G 26 N0 (fun a J=>∃M2:Nat,N0<=M2/\a=[]/\J=hp E0 [] M2) (AAct.keep a []) J|.inr s=>x=.ret/\∃vs,resA T J a [.tmp 4]=some vs/\∃d,thawA (fun _=>true) J d (tupA vs)=.bool s) hse1 ?_ ?_ ?_
 .refine kp [0,1,5] ?_
  exact R1 (N0+7)
 .clear H hse1
  rintro s1 fl a J H ⟨M1,fM1_0,rfl,rfl⟩ K3 O3 hK3 hO3
  unfold wP at H;dsimp only at H
  refine Wsq [0,1,5] fun K4 hK4=>?_
  refine qA [0,1,5,14] ?_
  refine Ci H ?_ ?_<;>intro H
  .refine Js hK4 ?_
   refine Wsq [0,1,5] fun K5 hK5=>?_
   refine Wb ?_
   obtain⟨v2,hv2,H⟩:=bE H
   obtain⟨v3,hv3,H⟩:=bE H
   refine Sd tok tokM [] [] [0,1,2,3,4,5,6,7,8] [0,1,5,25] (by
    intro K k
    simp only[pickL,zJ,zL]
    refine m2 (ix34 hv2) (ix34 hv3) ?_
    exact k) ?_
   refine Ci H ?_ ?_<;>intro H
   .refine qA [4] ?_
    cases oj H
    refine Kp [4] ?_
    refine Wr (hO3 _ _ _ _ rfl ⟨rfl,?_⟩)
    exact⟨[.bool false],by simp,4,by simp[eN]⟩
   refine Js hK5 ?_
   obtain rfl:=oi H
   refine qI hK3 ?_
   exact R1 (M1+16)
  cases oj H
  refine zK (hO3 _ _ _ _ rfl ⟨rfl,?_⟩)
  refine kr ?_
  exact R1 (M1+4)
 intro x a J hx
 rcases e1 with⟨⟩|r0
 .obtain⟨rfl,b,U,hr,M2,fM2_0,rfl,rfl⟩:=hx
  (try dsimp only at H)
  show K2 _ _
  refine hK2 _ _ (zH hr ?_)
  refine Rc.mk ?_
  refine qA [4] ?_
  cases oj H;exact W4
 obtain⟨rfl,hx2⟩:=hx
 (try dsimp only at H)
 cases oj H;first|exact hx2|(simp only[List.set_set] at hx2 ⊢;exact hx2)

theorem c33 {p0:(List (List gQuad))}{p1:(List (List gQuad))}{r:Bool}(H:tW p0 p1=some r):APure Tryz.prog G 33 [.fsl (eL zA p0),.fsl (eL zA p1)] (.bool r):=by
 refine qK func33 ntmps33 results33 fun N0=>?_
 unfold tW at H
 refine qA [0,1] ?_
 refine Wsq [0,1] fun K1 hK1=>?_
 refine qA [0,1,10] ?_
 refine Ci H ?_ ?_<;>intro H
 .refine qA [4] ?_
  cases oj H;exact W4
 refine Js hK1 ?_
 refine Wsq [] fun K2 hK2=>?_
 refine qA [0,1,5] ?_
 refine Wb ?_
 obtain⟨e1,hse1,H⟩:=bE H
 refine zR [0,1,5] (fun s a J=>∃M1:Nat,N0<=M1/\a=[(0,.fsl (eL zA p0)),(1,.fsl (eL zA p1)),(5,.int .i64 s)]/\J=hp E0 [] M1) (fun e x a J=>match e with|.inl s=>x=.exit 0/\Rc G 27 N0 (fun a J=>∃M2:Nat,N0<=M2/\a=[]/\J=hp E0 [] M2) (AAct.keep a []) J|.inr s=>x=.ret/\∃vs,resA T J a [.tmp 4]=some vs/\∃d,thawA (fun _=>true) J d (tupA vs)=.bool s) hse1 ?_ ?_ ?_
 .refine kp [0,1,5] ?_
  exact R1 (N0+7)
 .clear H hse1
  rintro s1 fl a J H ⟨M1,fM1_0,rfl,rfl⟩ K3 O3 hK3 hO3
  unfold jZ at H;dsimp only at H
  refine Wsq [0,1,5] fun K4 hK4=>?_
  refine qA [0,1,5,14] ?_
  refine Ci H ?_ ?_<;>intro H
  .refine Js hK4 ?_
   refine Wsq [0,1,5] fun K5 hK5=>?_
   refine Wb ?_
   obtain⟨v2,hv2,H⟩:=bE H
   obtain⟨v3,hv3,H⟩:=bE H
   obtain⟨r4,hr4,H⟩:=bE H
   refine Sd tok tokM [] [] [0,1,2,3,4,5,6,7,8,9] [0,1,5,26] (by
    intro K k
    simp only[pickL,zJ,zL]
    repeat first|simp -dsimp -implicitDefEqProofs [ix24 hv2,ix24 hv3]|refine Pc.mk (c73 hr4) ?_
    exact k) ?_
   refine Ci H ?_ ?_<;>intro H
   .refine qA [4] ?_
    cases oj H
    refine Kp [4] ?_
    refine Wr (hO3 _ _ _ _ rfl ⟨rfl,?_⟩)
    exact⟨[.bool false],by simp,4,by simp[eN]⟩
   refine Js hK5 ?_
   obtain rfl:=oi H
   refine qI hK3 ?_
   exact R1 (M1+17)
  cases oj H
  refine zK (hO3 _ _ _ _ rfl ⟨rfl,?_⟩)
  refine kr ?_
  exact R1 (M1+4)
 intro x a J hx
 rcases e1 with⟨⟩|r0
 .obtain⟨rfl,b,U,hr,M2,fM2_0,rfl,rfl⟩:=hx
  (try dsimp only at H)
  show K2 _ _
  refine hK2 _ _ (zH hr ?_)
  refine Rc.mk ?_
  refine qA [4] ?_
  cases oj H;exact W4
 obtain⟨rfl,hx2⟩:=hx
 (try dsimp only at H)
 cases oj H;first|exact hx2|(simp only[List.set_set] at hx2 ⊢;exact hx2)

theorem c39 {p0:List Int}{p1:List Int}{r:Bool}(H:xS p0 p1=some r):APure Tryz.prog G 39 [.fsl (eL rI p0),.fsl (eL rI p1)] (.bool r):=by
 refine qK func39 ntmps39 results39 fun N0=>?_
 unfold xS at H
 refine qA [0,1] ?_
 refine Wsq [0,1] fun K1 hK1=>?_
 refine qA [0,1,10] ?_
 refine Ci H ?_ ?_<;>intro H
 .refine qA [4] ?_
  cases oj H;exact W4
 refine Js hK1 ?_
 refine Wsq [] fun K2 hK2=>?_
 refine qA [0,1,5] ?_
 refine Wb ?_
 obtain⟨e1,hse1,H⟩:=bE H
 refine zR [0,1,5] (fun s a J=>∃M1:Nat,N0<=M1/\a=[(0,.fsl (eL rI p0)),(1,.fsl (eL rI p1)),(5,.int .i64 s)]/\J=hp E0 [] M1) (fun e x a J=>match e with|.inl s=>x=.exit 0/\Rc G 26 N0 (fun a J=>∃M2:Nat,N0<=M2/\a=[]/\J=hp E0 [] M2) (AAct.keep a []) J|.inr s=>x=.ret/\∃vs,resA T J a [.tmp 4]=some vs/\∃d,thawA (fun _=>true) J d (tupA vs)=.bool s) hse1 ?_ ?_ ?_
 .refine kp [0,1,5] ?_
  exact R1 (N0+7)
 .clear H hse1
  rintro s1 fl a J H ⟨M1,fM1_0,rfl,rfl⟩ K3 O3 hK3 hO3
  unfold wO at H;dsimp only at H
  refine Wsq [0,1,5] fun K4 hK4=>?_
  refine qA [0,1,5,14] ?_
  refine Ci H ?_ ?_<;>intro H
  .refine Js hK4 ?_
   refine Wsq [0,1,5] fun K5 hK5=>?_
   refine Wb ?_
   obtain⟨v2,hv2,H⟩:=bE H
   obtain⟨v3,hv3,H⟩:=bE H
   refine Sd tok tokM [] [] [0,1,2,3,4,5,6,7,8] [0,1,5,25] (by
    intro K k
    simp only[pickL,zJ,zL]
    refine m2 (ix23 hv2) (ix23 hv3) ?_
    exact k) ?_
   refine Ci H ?_ ?_<;>intro H
   .refine qA [4] ?_
    cases oj H
    refine Kp [4] ?_
    refine Wr (hO3 _ _ _ _ rfl ⟨rfl,?_⟩)
    exact⟨[.bool false],by simp,4,by simp[eN]⟩
   refine Js hK5 ?_
   obtain rfl:=oi H
   refine qI hK3 ?_
   exact R1 (M1+16)
  cases oj H
  refine zK (hO3 _ _ _ _ rfl ⟨rfl,?_⟩)
  refine kr ?_
  exact R1 (M1+4)
 intro x a J hx
 rcases e1 with⟨⟩|r0
 .obtain⟨rfl,b,U,hr,M2,fM2_0,rfl,rfl⟩:=hx
  (try dsimp only at H)
  show K2 _ _
  refine hK2 _ _ (zH hr ?_)
  refine Rc.mk ?_
  refine qA [4] ?_
  cases oj H;exact W4
 obtain⟨rfl,hx2⟩:=hx
 (try dsimp only at H)
 cases oj H;first|exact hx2|(simp only[List.set_set] at hx2 ⊢;exact hx2)

theorem c37 {p0:gThread}{p1:gThread}{r:Bool}(H:jI p0 p1=some r):APure Tryz.prog G 37 [.agg [.fsl (eL rI p0.Regs),.int .i64 p0.Pc],.agg [.fsl (eL rI p1.Regs),.int .i64 p1.Pc]] (.bool r):=by
 refine qK func37 ntmps37 results37 fun N0=>?_
 unfold jI at H
 refine S0 tok [0,1] [2,3] ?_
 obtain⟨g2,hg2,H⟩:=bE H
 refine qF tok [4] ([(4,.bool g2)]) (hp E0 [] (N0+16)) (by
  intro K k
  refine m0 ?_
  cases hbg2:ieq p0.Pc p1.Pc
  .cases oj (ifF hbg2 hg2)
   exact m1 hbg2 k
  replace hg2:=ifT hbg2 hg2
  obtain⟨r1,hr1,hg2⟩:=bE hg2
  cases oj hg2
  refine m1 hbg2 ?_
  refine(c39 hr1).app (m1 hbg2 ?_)
  exact k) ?_
 cases oj H;exact W4

theorem c74 {p0:gBox}{p1:gBox}{r:Bool}(H:mP p0 p1=some r):APure Tryz.prog G 74 [.agg [.int .i64 p0.Room,.fsl (eL rI p0.Items)],.agg [.int .i64 p1.Room,.fsl (eL rI p1.Items)]] (.bool r):=by
 refine qK func74 ntmps74 results74 fun N0=>?_
 unfold mP at H
 refine S0 tok [0,1] [2,3] ?_
 obtain⟨g2,hg2,H⟩:=bE H
 refine qF tok [4] ([(4,.bool g2)]) (hp E0 [] (N0+16)) (by
  intro K k
  refine m0 ?_
  cases hbg2:ieq p0.Room p1.Room
  .cases oj (ifF hbg2 hg2)
   exact m1 hbg2 k
  replace hg2:=ifT hbg2 hg2
  obtain⟨r1,hr1,hg2⟩:=bE hg2
  cases oj hg2
  refine m1 hbg2 ?_
  refine(c39 hr1).app (m1 hbg2 ?_)
  exact k) ?_
 cases oj H;exact W4

theorem c38 {p0:List gBox}{p1:List gBox}{r:Bool}(H:vE p0 p1=some r):APure Tryz.prog G 38 [.fsl (eL rBox p0),.fsl (eL rBox p1)] (.bool r):=by
 refine qK func38 ntmps38 results38 fun N0=>?_
 unfold vE at H
 refine qA [0,1] ?_
 refine Wsq [0,1] fun K1 hK1=>?_
 refine qA [0,1,10] ?_
 refine Ci H ?_ ?_<;>intro H
 .refine qA [4] ?_
  cases oj H;exact W4
 refine Js hK1 ?_
 refine Wsq [] fun K2 hK2=>?_
 refine qA [0,1,5] ?_
 refine Wb ?_
 obtain⟨e1,hse1,H⟩:=bE H
 refine zR [0,1,5] (fun s a J=>∃M1:Nat,N0<=M1/\a=[(0,.fsl (eL rBox p0)),(1,.fsl (eL rBox p1)),(5,.int .i64 s)]/\J=hp E0 [] M1) (fun e x a J=>match e with|.inl s=>x=.exit 0/\Rc G 27 N0 (fun a J=>∃M2:Nat,N0<=M2/\a=[]/\J=hp E0 [] M2) (AAct.keep a []) J|.inr s=>x=.ret/\∃vs,resA T J a [.tmp 4]=some vs/\∃d,thawA (fun _=>true) J d (tupA vs)=.bool s) hse1 ?_ ?_ ?_
 .refine kp [0,1,5] ?_
  exact R1 (N0+7)
 .clear H hse1
  rintro s1 fl a J H ⟨M1,fM1_0,rfl,rfl⟩ K3 O3 hK3 hO3
  unfold xC at H;dsimp only at H
  refine Wsq [0,1,5] fun K4 hK4=>?_
  refine qA [0,1,5,14] ?_
  refine Ci H ?_ ?_<;>intro H
  .refine Js hK4 ?_
   refine Wsq [0,1,5] fun K5 hK5=>?_
   refine Wb ?_
   obtain⟨v2,hv2,H⟩:=bE H
   obtain⟨v3,hv3,H⟩:=bE H
   obtain⟨r4,hr4,H⟩:=bE H
   refine Sd tok tokM [] [] [0,1,2,3,4,5,6,7,8,9] [0,1,5,26] (by
    intro K k
    simp only[pickL,zJ,zL]
    repeat first|simp -dsimp -implicitDefEqProofs [ix28 hv2,ix28 hv3]|refine Pc.mk (c74 hr4) ?_
    exact k) ?_
   refine Ci H ?_ ?_<;>intro H
   .refine qA [4] ?_
    cases oj H
    refine Kp [4] ?_
    refine Wr (hO3 _ _ _ _ rfl ⟨rfl,?_⟩)
    exact⟨[.bool false],by simp,4,by simp[eN]⟩
   refine Js hK5 ?_
   obtain rfl:=oi H
   refine qI hK3 ?_
   exact R1 (M1+17)
  cases oj H
  refine zK (hO3 _ _ _ _ rfl ⟨rfl,?_⟩)
  refine kr ?_
  exact R1 (M1+4)
 intro x a J hx
 rcases e1 with⟨⟩|r0
 .obtain⟨rfl,b,U,hr,M2,fM2_0,rfl,rfl⟩:=hx
  (try dsimp only at H)
  show K2 _ _
  refine hK2 _ _ (zH hr ?_)
  refine Rc.mk ?_
  refine qA [4] ?_
  cases oj H;exact W4
 obtain⟨rfl,hx2⟩:=hx
 (try dsimp only at H)
 cases oj H;first|exact hx2|(simp only[List.set_set] at hx2 ⊢;exact hx2)

theorem c22 {p0:gCrew}{p1:gCrew}{r:Bool}(H:pQ p0 p1=some r):APure Tryz.prog G 22 [.agg [.fsl (eL zA p0.Codes),.fsl (eL zB p0.Threads),.fsl (eL rBox p0.Boxes),.int .i64 p0.Turn,.int .i64 p0.Idle,.fsl (eL rI p0.Out)],.agg [.fsl (eL zA p1.Codes),.fsl (eL zB p1.Threads),.fsl (eL rBox p1.Boxes),.int .i64 p1.Turn,.int .i64 p1.Idle,.fsl (eL rI p1.Out)]] (.bool r):=by
 refine qK func22 ntmps22 results22 fun N0=>?_
 unfold pQ at H
 refine S0 tok [0,1] [2,3] ?_
 refine Wsq [2,3] fun K1 hK1=>?_
 obtain⟨g1,hg1,H⟩:=bE H
 obtain⟨g2,hg2,H⟩:=bE H
 refine qF tok [2,3,26] ([(2,.fptr [.fsl (eL zA p0.Codes),.fsl (eL zB p0.Threads),.fsl (eL rBox p0.Boxes),.int .i64 p0.Turn,.int .i64 p0.Idle,.fsl (eL rI p0.Out)] 0),(3,.fptr [.fsl (eL zA p1.Codes),.fsl (eL zB p1.Threads),.fsl (eL rBox p1.Boxes),.int .i64 p1.Turn,.int .i64 p1.Idle,.fsl (eL rI p1.Out)] 0),(26,.bool g2)]) (hp E0 [] (N0+24)) (by
  intro K k
  refine m0 ?_
  cases hbg1:ine (ilen p0.Threads) (ilen p1.Threads)
  .cases oj (ifF hbg1 hg1)
   refine m1 hbg1 ?_
   cases hbg2:(ine p0.Turn p1.Turn)
   .cases oj (ifF hbg2 hg2)
    exact m2 hbg1 hbg2 k
   cases oj (ifT hbg2 hg2)
   exact m2 hbg1 hbg2 k
  cases oj (ifT hbg1 hg1)
  cases oj (ifT rfl hg2)
  refine m1 hbg1 ?_
  exact k) ?_
 refine Ci H ?_ ?_<;>intro H
 .refine qA [4] ?_
  cases oj H;exact W4
 refine Js hK1 ?_
 refine Wsq [2,3] fun K2 hK2=>?_
 refine qA [2,3,5] ?_
 refine Wb ?_
 obtain⟨e1,hse1,H⟩:=bE H
 refine zR [2,3,5] (fun s a J=>∃M1:Nat,N0<=M1/\a=[(2,.fptr [.fsl (eL zA p0.Codes),.fsl (eL zB p0.Threads),.fsl (eL rBox p0.Boxes),.int .i64 p0.Turn,.int .i64 p0.Idle,.fsl (eL rI p0.Out)] 0),(3,.fptr [.fsl (eL zA p1.Codes),.fsl (eL zB p1.Threads),.fsl (eL rBox p1.Boxes),.int .i64 p1.Turn,.int .i64 p1.Idle,.fsl (eL rI p1.Out)] 0),(5,.int .i64 s)]/\J=hp E0 [] M1) (fun e x a J=>match e with|.inl s=>x=.exit 0/\Rc G 59 N0 (fun a J=>∃M2:Nat,N0<=M2/\a=[(2,.fptr [.fsl (eL zA p0.Codes),.fsl (eL zB p0.Threads),.fsl (eL rBox p0.Boxes),.int .i64 p0.Turn,.int .i64 p0.Idle,.fsl (eL rI p0.Out)] 0),(3,.fptr [.fsl (eL zA p1.Codes),.fsl (eL zB p1.Threads),.fsl (eL rBox p1.Boxes),.int .i64 p1.Turn,.int .i64 p1.Idle,.fsl (eL rI p1.Out)] 0)]/\J=hp E0 [] M2) (AAct.keep a [2,3]) J|.inr s=>x=.ret/\∃vs,resA T J a [.tmp 4]=some vs/\∃d,thawA (fun _=>true) J d (tupA vs)=.bool s) hse1 ?_ ?_ ?_
 .refine kp [2,3,5] ?_
  exact R1 (N0+25)
 .clear H hse1
  rintro s3 fl a J H ⟨M1,fM1_0,rfl,rfl⟩ K3 O3 hK3 hO3
  unfold wN at H;dsimp only at H
  refine Wsq [2,3,5] fun K4 hK4=>?_
  refine qA [2,3,5,31] ?_
  refine Ci H ?_ ?_<;>intro H
  .refine Js hK4 ?_
   refine Wsq [2,3,5] fun K5 hK5=>?_
   refine Wb ?_
   obtain⟨v4,hv4,H⟩:=bE H
   obtain⟨v5,hv5,H⟩:=bE H
   refine Sd tok tokM [] [] [0,1,2,3,4,5,6,7,8,9,10,11,12] [2,3,5,46] (by
    intro K k
    simp only[pickL,zJ,zL]
    refine m2 (ix27 hv4) (ix27 hv5) ?_
    exact k) ?_
   refine Ci H ?_ ?_<;>intro H
   .refine qA [4] ?_
    cases oj H
    refine Kp [4] ?_
    refine Wr (hO3 _ _ _ _ rfl ⟨rfl,?_⟩)
    exact⟨[.bool false],by simp,4,by simp[eN]⟩
   refine Js hK5 ?_
   obtain rfl:=oi H
   refine qI hK3 ?_
   exact R1 (M1+21)
  cases oj H
  refine zK (hO3 _ _ _ _ rfl ⟨rfl,?_⟩)
  refine kr ?_
  exact R1 (M1+5)
 intro x a J hx
 rcases e1 with⟨⟩|r0
 .obtain⟨rfl,b,U,hr,M2,fM2_0,rfl,rfl⟩:=hx
  (try dsimp only at H)
  show K2 _ _
  refine hK2 _ _ (zH hr ?_)
  refine Rc.mk ?_
  obtain⟨r6,hr6,H⟩:=bE H
  obtain⟨g8,hg8,H⟩:=bE H
  refine qF tok [4] ([(4,.bool g8)]) (hp E0 [] (M2+13)) (by
   intro K k
   refine m0 ?_
   refine(c38 hr6).app (m0 ?_)
   cases hbg8:r6
   .cases oj (ifF hbg8 hg8)
    exact m1 hbg8 k
   replace hg8:=ifT hbg8 hg8
   obtain⟨r7,hr7,hg8⟩:=bE hg8
   cases oj hg8
   refine m1 hbg8 ?_
   refine(c39 hr7).app (m1 hbg8 ?_)
   exact k) ?_
  cases oj H;exact W4
 obtain⟨rfl,hx2⟩:=hx
 (try dsimp only at H)
 cases oj H;first|exact hx2|(simp only[List.set_set] at hx2 ⊢;exact hx2)

theorem c16 {p0:gCrew}{p1:gCrew}{r:Bool}(H:tV p0 p1=some r):APure Tryz.prog G 16 [.agg [.fsl (eL zA p0.Codes),.fsl (eL zB p0.Threads),.fsl (eL rBox p0.Boxes),.int .i64 p0.Turn,.int .i64 p0.Idle,.fsl (eL rI p0.Out)],.agg [.fsl (eL zA p1.Codes),.fsl (eL zB p1.Threads),.fsl (eL rBox p1.Boxes),.int .i64 p1.Turn,.int .i64 p1.Idle,.fsl (eL rI p1.Out)]] (.bool r):=by
 refine qK func16 ntmps16 results16 fun N0=>?_
 unfold tV at H
 refine S0 tok [0,1] [2,3] ?_
 refine Wsq [2,3] fun K1 hK1=>?_
 refine qA [2,3,12] ?_
 refine Ci H ?_ ?_<;>intro H
 .refine qA [4] ?_
  cases oj H;exact W4
 refine Js hK1 ?_
 refine Wsq [2,3] fun K2 hK2=>?_
 refine qA [2,3,5] ?_
 refine Wb ?_
 obtain⟨e1,hse1,H⟩:=bE H
 refine zR [2,3,5] (fun s a J=>∃M1:Nat,N0<=M1/\a=[(2,.fptr [.fsl (eL zA p0.Codes),.fsl (eL zB p0.Threads),.fsl (eL rBox p0.Boxes),.int .i64 p0.Turn,.int .i64 p0.Idle,.fsl (eL rI p0.Out)] 0),(3,.fptr [.fsl (eL zA p1.Codes),.fsl (eL zB p1.Threads),.fsl (eL rBox p1.Boxes),.int .i64 p1.Turn,.int .i64 p1.Idle,.fsl (eL rI p1.Out)] 0),(5,.int .i64 s)]/\J=hp E0 [] M1) (fun e x a J=>match e with|.inl s=>x=.exit 0/\Rc G 35 N0 (fun a J=>∃M2:Nat,N0<=M2/\a=[(2,.fptr [.fsl (eL zA p0.Codes),.fsl (eL zB p0.Threads),.fsl (eL rBox p0.Boxes),.int .i64 p0.Turn,.int .i64 p0.Idle,.fsl (eL rI p0.Out)] 0),(3,.fptr [.fsl (eL zA p1.Codes),.fsl (eL zB p1.Threads),.fsl (eL rBox p1.Boxes),.int .i64 p1.Turn,.int .i64 p1.Idle,.fsl (eL rI p1.Out)] 0)]/\J=hp E0 [] M2) (AAct.keep a [2,3]) J|.inr s=>x=.ret/\∃vs,resA T J a [.tmp 4]=some vs/\∃d,thawA (fun _=>true) J d (tupA vs)=.bool s) hse1 ?_ ?_ ?_
 .refine kp [2,3,5] ?_
  exact R1 (N0+11)
 .clear H hse1
  rintro s1 fl a J H ⟨M1,fM1_0,rfl,rfl⟩ K3 O3 hK3 hO3
  unfold jY at H;dsimp only at H
  refine Wsq [2,3,5] fun K4 hK4=>?_
  refine qA [2,3,5,17] ?_
  refine Ci H ?_ ?_<;>intro H
  .refine Js hK4 ?_
   refine Wsq [2,3,5] fun K5 hK5=>?_
   refine Wb ?_
   obtain⟨v2,hv2,H⟩:=bE H
   obtain⟨v3,hv3,H⟩:=bE H
   obtain⟨r4,hr4,H⟩:=bE H
   refine Sd tok tokM [] [] [0,1,2,3,4,5,6,7,8,9,10,11] [2,3,5,31] (by
    intro K k
    simp only[pickL,zJ,zL]
    repeat first|simp -dsimp -implicitDefEqProofs [ix27 hv2,ix27 hv3]|refine Pc.mk (c37 hr4) ?_
    exact k) ?_
   refine Ci H ?_ ?_<;>intro H
   .refine qA [4] ?_
    cases oj H
    refine Kp [4] ?_
    refine Wr (hO3 _ _ _ _ rfl ⟨rfl,?_⟩)
    exact⟨[.bool false],by simp,4,by simp[eN]⟩
   refine Js hK5 ?_
   obtain rfl:=oi H
   refine qI hK3 ?_
   exact R1 (M1+20)
  cases oj H
  refine zK (hO3 _ _ _ _ rfl ⟨rfl,?_⟩)
  refine kr ?_
  exact R1 (M1+5)
 intro x a J hx
 rcases e1 with⟨⟩|r0
 .obtain⟨rfl,b,U,hr,M2,fM2_0,rfl,rfl⟩:=hx
  (try dsimp only at H)
  show K2 _ _
  refine hK2 _ _ (zH hr ?_)
  refine Rc.mk ?_
  obtain⟨r5,hr5,H⟩:=bE H
  refine qD [4] (c22 hr5) ?_
  cases oj H;exact W4
 obtain⟨rfl,hx2⟩:=hx
 (try dsimp only at H)
 cases oj H;first|exact hx2|(simp only[List.set_set] at hx2 ⊢;exact hx2)

theorem c15 {p0:gCrew}{p1:gCrew}{r:Bool}(H:yY p0 p1=some r):APure Tryz.prog G 15 [.agg [.fsl (eL zA p0.Codes),.fsl (eL zB p0.Threads),.fsl (eL rBox p0.Boxes),.int .i64 p0.Turn,.int .i64 p0.Idle,.fsl (eL rI p0.Out)],.agg [.fsl (eL zA p1.Codes),.fsl (eL zB p1.Threads),.fsl (eL rBox p1.Boxes),.int .i64 p1.Turn,.int .i64 p1.Idle,.fsl (eL rI p1.Out)]] (.bool r):=by
 refine qK func15 ntmps15 results15 fun N0=>?_
 unfold yY at H
 refine S0 tok [0,1] [2,3] ?_
 obtain⟨r1,hr1,H⟩:=bE H
 obtain⟨g3,hg3,H⟩:=bE H
 refine qF tok [4] ([(4,.bool g3)]) (hp E0 [] (N0+14)) (by
  intro K k
  refine m0 ?_
  refine(c33 hr1).app (m0 ?_)
  cases hbg3:r1
  .cases oj (ifF hbg3 hg3)
   exact m1 hbg3 k
  replace hg3:=ifT hbg3 hg3
  obtain⟨r2,hr2,hg3⟩:=bE hg3
  cases oj hg3
  refine m1 hbg3 ?_
  refine(c16 hr2).app (m1 hbg3 ?_)
  exact k) ?_
 cases oj H;exact W4

theorem c35 {p0:List gQuad}{p1:gThread}{p2:List gBox}{r:gThread×(List gBox)×(List Int)×Int}(H:uD p0 p1 p2=some r):APure Tryz.prog G 35 [.fsl (eL rQuad p0),.agg [.fsl (eL rI p1.Regs),.int .i64 p1.Pc],.fsl (eL rBox p2)] (.tup [.agg [.fsl (eL rI r.1.Regs),.int .i64 r.1.Pc],.fsl (eL rBox r.2.1),.fsl (eL rI r.2.2.1),.int .i64 r.2.2.2]):=by
 refine qK func35 ntmps35 results35 fun N0=>?_
 unfold uD at H
 refine S0 tok [0] [0,2,4,6] ?_
 refine Wsq [0,2,4,6] fun K1 hK1=>?_
 refine gW Wre (N0+1) 0 0 ?_
 obtain⟨r1,hr1,H⟩:=bE H
 obtain⟨g3,hg3,H⟩:=bE H
 obtain⟨g6,hg6,H⟩:=bE H
 refine qF tok [0,2,4,6,33] ([(0,.fsl (eL rQuad p0)),(2,.fsl (eL rBox p2)),(4,.fptr [.fsl (eL rI p1.Regs),.int .i64 p1.Pc] 0),(6,.ptr (N0+1) 0 0),(33,.bool g6)]) (hp E0 [(N0+1,some ⟨42,2,[[.fsl [],.int .i64 0]]⟩)] (N0+25)) (by
  intro K k
  refine m0 ?_
  refine(c71 hr1).app (m0 ?_)
  cases hbg3:bnot r1
  .replace hg3:=ifF hbg3 hg3
   obtain⟨r2,hr2,hg3⟩:=bE hg3
   obtain rfl:=oi hg3
   refine m1 hbg3 ?_
   refine(c70 hr2).app (m1 hbg3 ?_)
   cases hbg6:(bnot r2)
   .replace hg6:=ifF hbg6 hg6
    obtain⟨v4,hv4,hg6⟩:=bE hg6
    obtain⟨r5,hr5,hg6⟩:=bE hg6
    cases oj hg6
    refine m1 (j hbg3 (j hbg6 (ix34 hv4))) ?_
    refine(c72 hr5).app (m1 (j hbg3 (j hbg6 (ix34 hv4))) ?_)
    exact k
   cases oj (ifT hbg6 hg6)
   exact m2 hbg3 hbg6 k
  cases oj (ifT hbg3 hg3)
  cases oj (ifT rfl hg6)
  refine m1 hbg3 ?_
  exact k) ?_
 refine Ci H ?_ ?_<;>intro H
 .refine qA [6,7,8,9] ?_
  cases oj H
  refine Kp [6,7,8,9] ?_
  exact V0
 refine Js hK1 ?_
 obtain⟨r7,hr7,H⟩:=bE H
 refine AWP_syC tok tokM [] [2,6,7] [0,1,3,4,2,5,6,7] [] [0,2,6,10] (fun a J=>∃M1 o1:Nat,N0+33<=M1/\N0+33<=o1/\o1<M1/\a=[(0,.fsl (eL rQuad p0)),(2,.fsl (eL rBox p2)),(6,.ptr (N0+1) 0 0),(10,.ptr (N0+31) 0 0)]/\J=hp E0 [(N0+1,some ⟨42,2,[[.fsl [],.int .i64 0]]⟩),(o1,some ⟨3,1,eL rI r7⟩),(N0+31,some ⟨42,2,[[.sl o1 0 r7.length,.int .i64 p1.Pc]]⟩)] M1) (by decide) (by kernel_rfl) (fun K hK=>?_) ?_
 .simp only[pickL,zJ,zL]
  refine m0 ?_
  refine mo (c55_o (H:=hr7)) fun M1 o1 fM1_0 fM1_1 fM1_2=>?_
  have eM1_0:=nQ o1 (N0+1)
  have eM1_1:=nQ o1 (N0+31)
  refine m1 (j eM1_0 (j eM1_1 (j @hoS @hoN))) ?_
  exact hK _ _ ⟨M1,o1,(by omega),(by omega),(by omega),rfl,rfl⟩
 rintro a J ⟨M1,o1,fM1_0,fM1_1,fM1_2,rfl,rfl⟩
 refine gP Wre (N0+31) 0 0 ?_
 obtain⟨r8,hr8,H⟩:=bE H
 refine jC tok [] [0,6,10,11] (fun a J=>∃M2 o2:Nat,M1+3<=M2/\M1+3<=o2/\o2<M2/\a=[(0,.fsl (eL rQuad p0)),(6,.ptr (N0+1) 0 0),(10,.ptr (N0+31) 0 0),(11,.sl o2 0 r8.length)]/\J=hp E0 [(N0+1,some ⟨42,2,[[.fsl [],.int .i64 0]]⟩),(N0+31,some ⟨42,2,[[.osl 3 1 (eL rI r7),.int .i64 p1.Pc]]⟩),(o2,some ⟨103,2,eL kA r8⟩)] M2) (fun K hK=>?_) ?_
 .skip
  refine m0 ?_
  refine mo (c54_o2 (H:=hr8)) fun M2 o2 fM2_0 fM2_1 fM2_2=>?_
  have eM2_0:=nQ o2 (N0+1)
  have eM2_1:=nQ o2 (N0+31)
  refine m1 (j eM2_0 (j eM2_1 (j @hoS @hoN))) ?_
  exact hK _ _ ⟨M2,o2,(by omega),(by omega),(by omega),rfl,rfl⟩
 rintro a J ⟨M2,o2,fM2_0,fM2_1,fM2_2,rfl,rfl⟩
 have e0:=nQ (N0+1) o2
 have e1:=nQ (N0+1) M2
 have e2:=nQ (N0+31) o2
 have e3:=nQ (N0+31) M2
 have e4:=nQ o2 M2
 refine qB [0,6,10,11,12] (j e0 (j e1 (j e2 (j e3 e4)))) ?_
 refine gP0 Wre M2 0 0 3 1 (eL rI ([]:List Int)) ?_
 obtain⟨r9,hr9,H⟩:=bE H
 refine jC tok [] [6,10,11,12,13] (fun a J=>∃M3:Nat,M2+5<=M3/\r9.2.2.1.length=r8.length/\a=[(6,.ptr (N0+1) 0 0),(10,.ptr (N0+31) 0 0),(11,.sl o2 0 r8.length),(12,.ptr M2 0 0),(13,.int .i64 r9.1)]/\J=hp E0 [(N0+1,some ⟨42,2,[[.fsl [],.int .i64 0]]⟩),(N0+31,some ⟨42,2,[[.osl 3 1 (eL rI r9.2.1.Regs),.int .i64 r9.2.1.Pc]]⟩),(o2,some ⟨103,2,eL kA r9.2.2.1⟩),(M2,some ⟨23,1,[[.osl 3 1 (eL rI r9.2.2.2)]]⟩)] M3) (fun K hK=>?_) ?_
 .skip
  have e0:=nQ (N0+1) o2
  have e1:=nQ (N0+1) M2
  have e2:=nQ (N0+31) o2
  have e3:=nQ (N0+31) M2
  have e4:=nQ o2 M2
  refine m1 (j e0 (j e1 (j e2 (j e3 e4)))) ?_
  refine(c58 (W0:=[[.osl 3 1 (eL rI r7),.int .i64 p1.Pc]]) (r0_:=0) (W3:=[[.osl 3 1 (eL rI ([]:List Int))]]) (r3_:=0) (x3_:=[.osl 3 1 (eL rI ([]:List Int))]) (i3_:=0) (t3_:=23) (s3_:=1) (H:=hr9) (by simp[e0,e1,e2,e3,e4]) (by simp[e0,e1,e2,e3,e4]) (by simp[e0,e1,e2,e3,e4]) (by simp[e0,e1,e2,e3,e4]) (by simp[e0,e1,e2,e3,e4]) (by simp[e0,e1,e2,e3,e4]) (by simp[e0,e1,e2,e3,e4]) (by simp[e0,e1,e2,e3,e4]) (by simp[e0,e1,e2,e3,e4])).mono ?_;rintro _ _ ⟨M3,fM3_0,fM3_1,rfl,rfl⟩;simp only[hpN] at fM3_0
  refine m1 (j e0 (j e1 (j e2 (j e3 (j e4 (j @hoS @hoN)))))) ?_
  exact hK _ _ ⟨M3,(by omega),fM3_1,rfl,rfl⟩
 rintro a J ⟨M3,fM3_0,fM3_1,rfl,rfl⟩
 try rw[<- fM3_1]
 refine gU Wre (N0+31) 0 0 ?_
 refine gU Wre M2 0 0 ?_
 refine AWP_sy tok tokM [] [0,2,4,5] [1,3,0,2,4,5,6,7] [(4,[2])] [6,7,8,9] (fun a J=>a=[(6,.ptr (N0+1) 0 0),(7,.sl o2 0 r9.2.2.1.length),(8,.sl (M3+1) 0 r9.2.2.2.length),(9,.int .i64 r9.1)]/\J=hp E0 [(N0+1,some ⟨42,2,[[.sl M3 0 r9.2.1.Regs.length,.int .i64 r9.2.1.Pc]]⟩),(N0+31,some ⟨42,2,[[.sl M3 0 r9.2.1.Regs.length,.int .i64 r9.2.1.Pc]]⟩),(o2,some ⟨103,2,eL kA r9.2.2.1⟩),(M2,some ⟨23,1,[[.sl (M3+1) 0 r9.2.2.2.length]]⟩),(M3,some ⟨3,1,eL rI r9.2.1.Regs⟩),(M3+1,some ⟨3,1,eL rI r9.2.2.2⟩)] (M3+10)) (by decide) (fun K hK=>?_) ?_
 .simp only[pickL,zJ,zL]
  have e0:=nQ (N0+1) o2
  have e1:=nQ (N0+1) M2
  have e2:=nQ (N0+1) M3
  have e3:=nQ (N0+1) (M3+1)
  have e4:=nQ N0 M3
  have e5:=nQ (N0+31) o2
  have e6:=nQ (N0+31) M2
  have e7:=nQ (N0+31) M3
  have e8:=nQ (N0+31) (M3+1)
  have e9:=nQ (N0+30) M3
  have e10:=nQ o2 M2
  have e11:=nQ o2 M3
  have e12:=nQ o2 (M3+1)
  have e13:=nQ M2 M3
  have e14:=nQ M2 (M3+1)
  refine m1 (j e0 (j e1 (j e2 (j e3 (j e4 (j e5 (j e6 (j e7 (j e8 (j e9 (j e10 (j e11 (j e12 (j e13 e14)))))))))))))) ?_
  exact hK _ _ ⟨rfl,rfl⟩
 rintro a J ⟨rfl,rfl⟩
 obtain rfl:=oi H
 refine Kp [6,7,8,9] ?_
 have z0:=nQ (N0+1) o2
 have z1:=nQ (N0+1) M2
 have z2:=nQ (N0+1) M3
 have z3:=nQ (N0+1) (M3+1)
 have z4:=nQ N0 M3
 have z5:=nQ (N0+31) o2
 have z6:=nQ (N0+31) M2
 have z7:=nQ (N0+31) M3
 have z8:=nQ (N0+31) (M3+1)
 have z9:=nQ (N0+30) M3
 have z10:=nQ o2 M2
 have z11:=nQ o2 M3
 have z12:=nQ o2 (M3+1)
 have z13:=nQ M2 M3
 have z14:=nQ M2 (M3+1)
 refine Wr ?_
 exact⟨[.agg [.sl M3 0 r9.2.1.Regs.length,.int .i64 r9.2.1.Pc],.sl o2 0 r9.2.2.1.length,.sl (M3+1) 0 r9.2.2.2.length,.int .i64 r9.1],by simp[z0,z1,z2,z3,z4,z5,z6,z7,z8,z9,z10,z11,z12,z13,z14],4,by simp[eN,z0,z1,z2,z3,z4,z5,z6,z7,z8,z9,z10,z11,z12,z13,z14]⟩
end Go.Proofs.YtolmjhgondilhaaGreat
