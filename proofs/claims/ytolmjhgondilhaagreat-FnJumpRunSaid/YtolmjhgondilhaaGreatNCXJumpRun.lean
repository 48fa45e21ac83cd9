/- The contracts of functions of the program (CXJumpRun): each computes what its mirror computes. No conditions. -/
import Derived.Test.YtolmjhgondilhaaGreatNCNJumpRun
import Derived.Test.YtolmjhgondilhaaGreatNCT3
set_option linter.unusedSimpArgs false
set_option linter.unusedVariables false
set_option maxRecDepth 20000
set_option maxHeartbeats 4000000
namespace Go.Proofs.YtolmjhgondilhaaGreat
open Go Go.Abs Go.RowKit Tryz

theorem c42_o {p0:gL6Rd}{r:(List (List gQuad))×gL6Rd}(H:xE p0=some r){J:AHeap}{w0:Nat}{W0:List (List AV)}{r0_:Nat}(q0:J.objs w0=some ⟨105,2,W0⟩)(g0:W0[r0_]? =some [.fsl (eL rU8 p0.b),.int .i64 p0.p]):ACalls Tryz.prog G 42 [.ptr w0 r0_ 0] J (fun v J'=>∃M n0:Nat,J.next<=M/\J.next<=n0/\n0<M/\v=.sl n0 0 r.1.length/\J'=hp J.objs [(w0,some ⟨105,2,W0.set r0_ [.fsl (eL rU8 r.2.b),.int .i64 r.2.p]⟩),(n0,some ⟨34,1,eL zA r.1⟩)] M):=by
 refine fr2 ([(w0,some ⟨105,2,W0⟩)]) (by simp[q0]) (fun hlt=>?_) ⟨_,func42,rfl,rfl⟩
 generalize J.next=N0 at hlt ⊢
 have lw0:w0<N0:=hlt _ (.head _) rfl
 have gs_W0:∀x,(W0.set r0_ x)[r0_]? =some x:=gsetW g0
 rw[<- zY g0]
 refine fnK tok func42 ntmps42 results42 ?_
 simp only[argsA,Nat.reduceAdd,hpN]
 unfold xE at H
 refine qB [0] gs_W0 ?_
 have q0:∀J i,bsA T 24 true i 0 [] J=some (.esl,J):=fun _ _=>rfl
 refine Sz tok [0] [0,3] gs_W0 q0 ?_
 obtain⟨r1,hr1,H⟩:=bE H
 refine Sm tok [] [0,3,4] (N0+7) (by
  intro K k
  refine m1 gs_W0 ?_
  refine mc gs_W0 (c41 (r0_:=r0_) (H:=hr1)) fun M1 fM1_0=>?_
  refine m1 (j gs_W0 (j @hoS @hoN)) ?_
  exact k M1 (by omega)) fun M1 fM1_0=>?_
 refine Wsq [3] fun K1 hK1=>?_
 refine qB [0,3,4,5] gs_W0 ?_
 refine Wb ?_
 obtain⟨e1,hse1,H⟩:=bE H
 refine zP [0,3,4,5] (fun s a J=>∃M2 o1:Nat,N0<=M2/\N0<=o1/\o1<M2/\a=[(0,.ptr w0 r0_ 0),(3,.sl o1 0 s.2.2.length),(4,.int .i64 (iadd .i64 1 r1.1)),(5,.int .i64 s.1)]/\J=hp E0 [(w0,some ⟨105,2,W0.set r0_ [.fsl (eL rU8 s.2.1.b),.int .i64 s.2.1.p]⟩),(o1,some ⟨34,1,eL zA s.2.2⟩)] M2) (fun s x a J=>x=.exit 0/\Rc G 21 N0 (fun a J=>∃M3 o2:Nat,N0<=M3/\N0<=o2/\o2<M3/\a=[(3,.sl o2 0 s.2.length)]/\J=hp E0 [(w0,some ⟨105,2,W0.set r0_ [.fsl (eL rU8 s.1.b),.int .i64 s.1.p]⟩),(o2,some ⟨34,1,eL zA s.2⟩)] M3) (AAct.keep a [3]) J) hse1 ?_ ?_ ?_
 .refine kp [0,3,4,5] ?_
  refine gNilS zD 3 34 1 [(w0,some ⟨105,2,W0.set r0_ [.fsl (eL rU8 r1.2.b),.int .i64 r1.2.p]⟩),(M1+1,some ⟨34,1,eL zA ([]:List (List gQuad))⟩)] [(0,.ptr w0 r0_ 0),(3,.sl (M1+1) 0 ([]:List (List gQuad)).length),(4,.int .i64 (iadd .i64 1 r1.1)),(5,.int .i64 0)] (by simp(disch:=omega)) (by simp(disch:=omega) [eN]) [0,3,4,5] rfl ?_
  exact R2 (M1+2) (M1+1)
 .clear H hse1
  rintro⟨s2,s3,s4⟩ fl a J H ⟨M2,o1,fM2_0,fM2_1,fM2_2,rfl,rfl⟩ K2 O2 hK2 hO2
  unfold vL at H;dsimp only at H
  refine Wsq [0,3,4,5] fun K3 hK3=>?_
  have e0:=nQ w0 o1
  refine qC [0,3,4,5,12] e0 gs_W0 ?_
  refine Ci H ?_ ?_<;>intro H
  .refine Js hK3 ?_
   refine Wsq [0,3,4,5] fun K4 hK4=>?_
   refine Wb ?_
   obtain⟨r7,hr7,H⟩:=bE H
   obtain⟨l8,hl8,H⟩:=bE H
   have q1:∀J i,bsA T 24 true i 1 [(0,.fsl (eL rQuad r7.1))] J=some (.fsl (eL zA ([r7.1]:List (List gQuad))),J):=fun _ _=>rfl
   refine uT tok [3] [0,3,4,5] (fun a J=>∃M4:Nat,M2+9<=M4/\a=[(0,.ptr w0 r0_ 0),(3,.sl (M2+7) 0 l8.length),(4,.int .i64 (iadd .i64 1 r1.1)),(5,.int .i64 s2)]/\J=hp E0 [(w0,some ⟨105,2,W0.set r0_ [.fsl (eL rU8 r7.2.b),.int .i64 r7.2.p]⟩),(M2+7,some ⟨34,1,eL zA l8⟩)] M4) (fun K hK=>?_) ?_
   .skip
    have e0:=nQ w0 o1
    have e1:=nQ w0 (M2+7)
    have e2:=nQ o1 (M2+7)
    refine m1 (j e0 (j e1 (j e2 (j gs_W0 (j q1 (app24 hl8)))))) ?_
    refine mc (j e0 (j e1 (j e2 (j gs_W0 (j q1 (app24 hl8)))))) (c75 (r0_:=r0_) (H:=hr7)) fun M4 fM4_0=>?_
    refine m1 (j e0 (j e1 (j e2 (j gs_W0 (j q1 (j (app24 hl8) (j @hoS @hoN))))))) ?_
    exact hK _ _ ⟨M4,(by omega),rfl,rfl⟩
   rintro a J ⟨M4,fM4_0,ha,rfl⟩
   refine hK4 _ _ ?_;rw[ha]
   refine Rc.mk ?_
   have e0:=nQ w0 (M2+7)
   obtain rfl:=oi H
   refine qJ (j e0 gs_W0) hK2 ?_
   exact R2 (M4+3) (M2+7)
  cases oj H
  refine zJ (hO2 _ _ _ _ rfl ⟨rfl,?_⟩)
  refine kr ?_
  exact R2 (M2+3) o1
 intro x a J hx
 obtain⟨y5,y6⟩:=e1
 obtain⟨rfl,b,U,hr,M3,o2,fM3_0,fM3_1,fM3_2,rfl,rfl⟩:=hx
 (try dsimp only at H)
 show K1 _ _
 refine hK1 _ _ (zD hr ?_)
 refine Rc.mk ?_
 have e0:=nQ w0 o2
 refine qC [2] e0 gs_W0 ?_
 obtain rfl:=oi H
 refine Kp [2] ?_
 have z0:=nQ w0 o2
 exact V2 (j z0 gs_W0) (M3+2) o2

theorem c12 {p0:List Int}{r:(List Int)×(List (List gQuad))}(H:yE p0=some r):APure Tryz.prog G 12 [.fsl (eL rU8 p0)] (.tup [.fsl (eL rI r.1),.fsl (eL zA r.2)]):=by
 refine qK func12 ntmps12 results12 fun N0=>?_
 unfold yE at H
 refine qA [0] ?_
 obtain⟨r1,hr1,H⟩:=bE H
 refine kT tok [] [4] (fun a J=>∃M1 o1:Nat,N0+5<=M1/\N0+5<=o1/\o1<M1/\a=[(4,.ptr o1 0 0)]/\J=hp E0 [(o1,some ⟨105,2,[[.fsl (eL rU8 r1.b),.int .i64 r1.p]]⟩)] M1) (fun K hK=>?_) ?_
 .skip
  refine m0 ?_
  refine mo (c40_o (H:=hr1)) fun M1 o1 fM1_0 fM1_1 fM1_2=>?_
  refine m2 @hoS @hoN ?_
  exact hK _ _ ⟨M1,o1,(by omega),(by omega),(by omega),rfl,rfl⟩
 rintro a J ⟨M1,o1,fM1_0,fM1_1,fM1_2,rfl,rfl⟩
 obtain⟨r2,hr2,H⟩:=bE H
 obtain⟨r3,hr3,H⟩:=bE H
 obtain⟨l4,hl4,H⟩:=bE H
 have q0:∀J i,bsA T 23 false i 2 [(0,.int .i64 (iadd .i64 1 r2.1)),(1,.int .i64 (iadd .i64 1 r3.1))] J=some (.sl i 0 (List.length l4),J.put i ⟨3,1,eL rI l4⟩):=by rw[<- Option.some.inj hl4];exact fun _ _=>rfl
 refine Sm tok [] [4,5] (M1+8) (by
  intro K k
  have e0:=nQ o1 (M1+6)
  refine m2 e0 q0 ?_
  refine mc (j e0 q0) (c41 (r0_:=0) (H:=hr2)) fun M2 fM2_0=>?_
  refine m1 (j e0 (j q0 (j @hoS @hoN))) ?_
  refine mc (j e0 (j q0 (j @hoS @hoN))) (c41 (r0_:=0) (H:=hr3)) fun M3 fM3_0=>?_
  refine m1 (j e0 (j q0 (j @hoS @hoN))) ?_
  exact k M3 (by omega)) fun M3 fM3_0=>?_
 obtain⟨r5,hr5,H⟩:=bE H
 refine kT tok [] [4,5,6] (fun a J=>∃M4 o2:Nat,M3+3<=M4/\M3+3<=o2/\o2<M4/\a=[(4,.ptr o1 0 0),(5,.sl (M1+6) 0 l4.length),(6,.sl o2 0 r5.1.length)]/\J=hp E0 [(o1,some ⟨105,2,[[.fsl (eL rU8 r5.2.b),.int .i64 r5.2.p]]⟩),(M1+6,some ⟨3,1,eL rI l4⟩),(o2,some ⟨34,1,eL zA r5.1⟩)] M4) (fun K hK=>?_) ?_
 .skip
  have e0:=nQ o1 (M1+6)
  refine m1 e0 ?_
  refine(c42_o (W0:=[[.fsl (eL rU8 r3.2.b),.int .i64 r3.2.p]]) (r0_:=0) (H:=hr5) (by simp[e0]) (by simp[e0])).mono ?_;rintro _ _ ⟨M4,o2,fM4_0,fM4_1,fM4_2,rfl,rfl⟩;simp only[hpN] at fM4_0 fM4_1 fM4_2
  have eM4_0:=nQ o2 o1
  have eM4_1:=nQ o2 (M1+6)
  refine m1 (j e0 (j eM4_0 (j eM4_1 (j @hoS @hoN)))) ?_
  exact hK _ _ ⟨M4,o2,(by omega),(by omega),(by omega),rfl,rfl⟩
 rintro a J ⟨M4,o2,fM4_0,fM4_1,fM4_2,rfl,rfl⟩
 refine Wsq [5,6] fun K1 hK1=>?_
 obtain⟨r6,hr6,H⟩:=bE H
 refine Sm tok [] [5,6,19] (M4+2) (by
  intro K k
  have e0:=nQ o1 (M1+6)
  have e1:=nQ o1 o2
  have e2:=nQ (M1+6) o2
  refine m1 (j e0 (j e1 e2)) ?_
  refine mc (j e0 (j e1 e2)) (c41 (r0_:=0) (H:=hr6)) fun M5 fM5_0=>?_
  refine m1 (j e0 (j e1 (j e2 (j @hoS @hoN)))) ?_
  exact k M5 (by omega)) fun M5 fM5_0=>?_
 refine Wb ?_
 have e0:=nQ o1 (M1+6)
 have e1:=nQ o1 o2
 have e2:=nQ (M1+6) o2
 refine qB [5,6,19,20] (j e0 (j e1 e2)) ?_
 refine Ci H ?_ ?_<;>intro H
 .have q1:∀J i,bsA T 23 true i 0 [] J=some (.esl,J):=fun _ _=>rfl
  have e0:=nQ o1 (M1+6)
  have e1:=nQ o1 o2
  have e2:=nQ (M1+6) o2
  refine Rb tok [0] (j e0 (j e1 (j e2 q1))) hK1 ?_
  have e0:=nQ o1 (M1+6)
  have e1:=nQ o1 o2
  have e2:=nQ (M1+6) o2
  refine qB [2,3] (j e0 (j e1 e2)) ?_
  obtain rfl:=oi H
  refine Kp [2,3] ?_
  have z0:=nQ o1 (M1+6)
  have z1:=nQ o1 o2
  have z2:=nQ (M1+6) o2
  refine Wr ?_
  exact⟨[.esl,.sl o2 0 r5.1.length],by simp[z0,z1,z2],4,by simp[eN,z0,z1,z2]⟩
 have e0:=nQ o1 (M1+6)
 have e1:=nQ o1 o2
 have e2:=nQ (M1+6) o2
 refine qB [5,6,19,23] (j e0 (j e1 e2)) ?_
 refine Ci H ?_ ?_<;>intro H
 .obtain⟨v7,hv7,H⟩:=bE H
  obtain⟨l8,hl8,H⟩:=bE H
  have e0:=nQ o1 (M1+6)
  have e1:=nQ o1 o2
  have e2:=nQ (M1+6) o2
  refine Rt tok [] [5,6] (by intro K k;simp -dsimp -implicitDefEqProofs [e0,e1,e2,ixo23 hv7,(show _[0]? =some v7 from(zL hv7).2.2),(show List.set _ 0 _=l8 from(setx_iff.1 hl8).2.symm)];exact k) fun a ha=>?_
  (try rw[<- zK hl8] at ha);(try rw[<- zK hl8])
  refine hK1 _ _ ?_;rw[ha]
  refine Rc.mk ?_
  have e0:=nQ o1 (M1+6)
  have e1:=nQ o1 o2
  have e2:=nQ (M1+6) o2
  refine qB [2,3] (j e0 (j e1 e2)) ?_
  obtain rfl:=oi H
  refine Kp [2,3] ?_
  have z3:=nQ o1 (M1+6)
  have z4:=nQ o1 o2
  have z5:=nQ (M1+6) o2
  refine Wr ?_
  exact⟨[.sl (M1+6) 0 l8.length,.sl o2 0 r5.1.length],by simp[z3,z4,z5],4,by simp[eN,z3,z4,z5]⟩
 have e0:=nQ o1 (M1+6)
 have e1:=nQ o1 o2
 have e2:=nQ (M1+6) o2
 refine qB [5,6,27] (j e0 (j e1 e2)) ?_
 refine Ci H ?_ ?_<;>intro H
 .obtain⟨l9,hl9,H⟩:=bE H
  have q2:∀J i,bsA T 34 true i 0 [] J=some (.esl,J):=fun _ _=>rfl
  have q3:∀  J i,bsA T 24 true i 1 [(0,.esl)] J=some (.fsl [[.esl]],J):=fun  _ _=>rfl
  have e0:=nQ o1 (M1+6)
  have e1:=nQ o1 o2
  have e2:=nQ o1 (M5+9)
  have e3:=nQ (M1+6) o2
  have e4:=nQ (M1+6) (M5+9)
  have e5:=nQ M1 (M5+3)
  have e6:=nQ o2 (M5+9)
  refine Rb tok [1,2] (j e0 (j e1 (j e2 (j e3 (j e4 (j e5 (j e6 (j q2 (j q3 (apr24 zA hl9)))))))))) hK1 ?_
  refine gWkC Wre (o:=(M5+9)) (ob:=⟨34,1,eL zA r5.1++[[.esl]]⟩) (row:=[.esl]) (r:=r5.1.length) (i:=0) [(o1,some ⟨105,2,[[.fsl (eL rU8 r6.2.b),.int .i64 r6.2.p]]⟩),(M1+6,some ⟨3,1,eL rI l4⟩),(M5+9,some ⟨34,1,eL zA r5.1++[[.fsl []]]⟩)] (by simp(disch:=omega)) (app_get _ _ _) rfl (by simp(disch:=omega)) (by simp(disch:=omega) [eN,gH]) ?_
  rw[show hp E0 [(o1,some ⟨105,2,[[.fsl (eL rU8 r6.2.b),.int .i64 r6.2.p]]⟩),(M1+6,some ⟨3,1,eL rI l4⟩),(M5+9,some ⟨34,1,eL zA r5.1++[[.fsl []]]⟩)] (M5+11)=hp E0 [(o1,some ⟨105,2,[[.fsl (eL rU8 r6.2.b),.int .i64 r6.2.p]]⟩),(M1+6,some ⟨3,1,eL rI l4⟩),(M5+9,some ⟨34,1,eL zA l9⟩)] (M5+11) from by rw[<- app_enc (f:=zA) (c:=[.fsl []]) hl9 rfl]]
  have e0:=nQ o1 (M1+6)
  have e1:=nQ o1 (M5+9)
  have e2:=nQ (M1+6) (M5+9)
  have e3:=nQ M1 (M5+3)
  refine qB [2,3] (j e0 (j e1 (j e2 e3))) ?_
  obtain rfl:=oi H
  refine Kp [2,3] ?_
  have z6:=nQ o1 (M1+6)
  have z7:=nQ o1 (M5+9)
  have z8:=nQ (M1+6) (M5+9)
  have z9:=nQ M1 (M5+3)
  refine Wr ?_
  exact⟨[.sl (M1+6) 0 l4.length,.sl (M5+9) 0 l9.length],by simp[z6,z7,z8,z9],4,by simp[eN,z6,z7,z8,z9]⟩
 refine Js hK1 ?_
 have e0:=nQ o1 (M1+6)
 have e1:=nQ o1 o2
 have e2:=nQ (M1+6) o2
 refine qB [2,3] (j e0 (j e1 e2)) ?_
 obtain rfl:=oi H
 refine Kp [2,3] ?_
 have z10:=nQ o1 (M1+6)
 have z11:=nQ o1 o2
 have z12:=nQ (M1+6) o2
 refine Wr ?_
 exact⟨[.sl (M1+6) 0 l4.length,.sl o2 0 r5.1.length],by simp[z10,z11,z12],4,by simp[eN,z10,z11,z12]⟩

theorem c44 {p0:List Int}{r:List gBox}(H:tE p0=some r):APure Tryz.prog G 44 [.fsl (eL rI p0)] (.fsl (eL rBox r)):=by
 refine qK func44 ntmps44 results44 fun N0=>?_
 unfold tE at H
 refine qA [0] ?_
 refine qA [0,3] ?_
 refine Wsq [3] fun K1 hK1=>?_
 refine qA [3,6,7,8] ?_
 refine Wb ?_
 obtain⟨e1,hse1,H⟩:=bE H
 refine zP [3,6,7,8] (fun s a J=>∃M1 o1:Nat,N0<=M1/\N0<=o1/\o1<M1/\a=[(3,.sl o1 0 s.2.length),(6,.fsl (eL rI p0)),(7,.int .i64 (ilen p0)),(8,.int .i64 s.1)]/\J=hp E0 [(o1,some ⟨103,2,eL rBox s.2⟩)] M1) (fun s x a J=>x=.exit 0/\Rc G 19 N0 (fun a J=>∃M2 o2:Nat,N0<=M2/\N0<=o2/\o2<M2/\a=[(3,.sl o2 0 s.length)]/\J=hp E0 [(o2,some ⟨103,2,eL rBox s⟩)] M2) (AAct.keep a [3]) J) hse1 ?_ ?_ ?_
 .refine kp [3,6,7,8] ?_
  refine gNilS zD 3 103 2 [(N0+5,some ⟨103,2,eL rBox ([]:List gBox)⟩)] [(3,.sl (N0+5) 0 ([]:List gBox).length),(6,.fsl (eL rI p0)),(7,.int .i64 (ilen p0)),(8,.int .i64 0)] (by simp(disch:=omega)) (by simp(disch:=omega) [eN]) [3,6,7,8] rfl ?_
  exact R2 (N0+6) (N0+5)
 .clear H hse1
  rintro⟨s1,s2⟩ fl a J H ⟨M1,o1,fM1_0,fM1_1,fM1_2,rfl,rfl⟩ K2 O2 hK2 hO2
  unfold xX at H;dsimp only at H
  refine qA [3,6,7,8,9] ?_
  refine Wsq [3,6,7,8] fun K3 hK3=>?_
  refine Ci H ?_ ?_<;>intro H
  .refine Js hK3 ?_
   refine Wsq [3,6,7,8] fun K4 hK4=>?_
   refine Wb ?_
   obtain⟨v4,hv4,H⟩:=bE H
   refine qB [3,5,6,7,8] (ix23 hv4) ?_
   obtain⟨l5,hl5,H⟩:=bE H
   have q0:∀J i,bsA T 28 true i 1 [(0,.agg [.int .i64 v4,.fsl []])] J=some (.fsl (eL rBox ([(⟨v4,([]:List Int)⟩:gBox)]:List gBox)),J):=fun _ _=>rfl
   have e0:=nQ o1 (M1+8)
   refine Rb tok [3] (j e0 (j q0 (app28 hl5))) hK4 ?_
   obtain rfl:=oi H
   refine qI hK2 ?_
   exact R2 (M1+12) (M1+8)
  cases oj H
  refine zJ (hO2 _ _ _ _ rfl ⟨rfl,?_⟩)
  refine kr ?_
  exact R2 (M1+1) o1
 intro x a J hx
 obtain⟨y3,rfl⟩:∃x,x=e1:=⟨_,rfl⟩
 obtain⟨rfl,b,U,hr,M2,o2,fM2_0,fM2_1,fM2_2,rfl,rfl⟩:=hx
 (try dsimp only at H)
 show K1 _ _
 refine hK1 _ _ (zD hr ?_)
 refine Rc.mk ?_
 refine qA [2] ?_
 cases oj H;exact W4

theorem c45 {p0:List Int}{r:Bool}(H:xK p0=some r):APure Tryz.prog G 45 [.fsl (eL rI p0)] (.bool r):=by
 refine qK func45 ntmps45 results45 fun N0=>?_
 unfold xK at H
 refine qA [0] ?_
 refine Wsq [0] fun K1 hK1=>?_
 refine qA [0,5,6,7] ?_
 refine Wb ?_
 obtain⟨e1,hse1,H⟩:=bE H
 refine zP [0,5,6,7] (fun s a J=>∃M1:Nat,N0<=M1/\a=[(0,.fsl (eL rI p0)),(5,.fsl (eL rI p0)),(6,.int .i64 (ilen p0)),(7,.int .i64 s)]/\J=hp E0 [] M1) (fun e x a J=>match e with|.inl s=>x=.exit 0/\Rc G 21 N0 (fun a J=>∃M2:Nat,N0<=M2/\a=[(0,.fsl (eL rI p0))]/\J=hp E0 [] M2) (AAct.keep a [0]) J|.inr s=>x=.ret/\∃vs,resA T J a [.tmp 2]=some vs/\∃d,thawA (fun _=>true) J d (tupA vs)=.bool s) hse1 ?_ ?_ ?_
 .refine kp [0,5,6,7] ?_
  exact R1 (N0+4)
 .clear H hse1
  rintro s1 fl a J H ⟨M1,fM1_0,rfl,rfl⟩ K2 O2 hK2 hO2
  unfold jD at H;dsimp only at H
  refine qA [0,5,6,7,8] ?_
  refine Wsq [0,5,6,7] fun K3 hK3=>?_
  refine Ci H ?_ ?_<;>intro H
  .refine Js hK3 ?_
   refine Wsq [0,5,6,7] fun K4 hK4=>?_
   refine Wb ?_
   obtain⟨v2,hv2,H⟩:=bE H
   refine qB [0,4,5,6,7] (ix23 hv2) ?_
   obtain⟨g3,hg3,H⟩:=bE H
   refine qF tok [0,5,6,7,16] ([(0,.fsl (eL rI p0)),(5,.fsl (eL rI p0)),(6,.int .i64 (ilen p0)),(7,.int .i64 s1),(16,.bool g3)]) (hp E0 [] (M1+10)) (by
    intro K k
    refine m0 ?_
    cases hbg3:ilt v2 1
    .cases oj (ifF hbg3 hg3)
     exact m1 hbg3 k
    cases oj (ifT hbg3 hg3)
    refine m1 hbg3 ?_
    exact k) ?_
   refine Ci H ?_ ?_<;>intro H
   .refine qA [2] ?_
    cases oj H
    refine Kp [2] ?_
    refine Wr (hO2 _ _ _ _ rfl ⟨rfl,?_⟩)
    exact⟨[.bool false],by simp,4,by simp[eN]⟩
   refine Js hK4 ?_
   obtain rfl:=oi H
   refine qI hK2 ?_
   exact R1 (M1+12)
  cases oj H
  refine zJ (hO2 _ _ _ _ rfl ⟨rfl,?_⟩)
  refine kr ?_
  exact R1 (M1+1)
 intro x a J hx
 rcases e1 with⟨⟩|r0
 .obtain⟨rfl,b,U,hr,M2,fM2_0,rfl,rfl⟩:=hx
  (try dsimp only at H)
  show K1 _ _
  refine hK1 _ _ (zD hr ?_)
  refine Rc.mk ?_
  refine qA [2] ?_
  cases oj H;exact W4
 obtain⟨rfl,hx2⟩:=hx
 (try dsimp only at H)
 cases oj H;first|exact hx2|(simp only[List.set_set] at hx2 ⊢;exact hx2)

theorem c13 {p0:List Int}{p1:(List (List gQuad))}{r:gCrew×Bool}(H:xO p0 p1=some r):APure Tryz.prog G 13 [.fsl (eL rI p0),.fsl (eL zA p1)] (.tup [.agg [.fsl (eL zA r.1.Codes),.fsl (eL zB r.1.Threads),.fsl (eL rBox r.1.Boxes),.int .i64 r.1.Turn,.int .i64 r.1.Idle,.fsl (eL rI r.1.Out)],.bool r.2]):=by
 refine qK func13 ntmps13 results13 fun N0=>?_
 unfold xO at H
 refine qA [0,1,4] ?_
 refine gW Wre N0 0 0 ?_
 refine gW Wre N0 0 1 ?_
 refine gW Wre N0 0 2 ?_
 refine gW Wre N0 0 5 ?_
 obtain⟨r1,hr1,H⟩:=bE H
 obtain⟨r2,hr2,H⟩:=bE H
 refine Sx tok [4] [0,1,4,6] (by intro K k;(repeat first|simp -dsimp -implicitDefEqProofs|refine(c43 hr1).app ?_|refine(c44 hr2).app ?_);exact k) ?_
 refine Wsq [0,4,6] fun K1 hK1=>?_
 refine qA [0,4,6,13,14] ?_
 refine Wb ?_
 obtain⟨e1,hse1,H⟩:=bE H
 refine zP [0,4,6,13,14] (fun s a J=>∃M1 o1 o2:Nat,N0<=M1/\N0<=o1/\o1<M1/\N0<=o2/\o2<M1/\¬o1=o2/\a=[(0,.fsl (eL rI p0)),(4,.ptr o1 0 0),(6,.ptr o2 0 0),(13,.int .i64 (ilen p1)),(14,.int .i64 s.1)]/\J=hp E0 [(o1,some ⟨30,6,[[.fsl (eL zA s.2.1.Codes),.fsl (eL zB s.2.1.Threads),.fsl (eL rBox s.2.1.Boxes),.int .i64 s.2.1.Turn,.int .i64 s.2.1.Idle,.fsl (eL rI s.2.1.Out)]]⟩),(o2,some ⟨30,6,[[.fsl (eL zA s.2.2.Codes),.osl 42 2 (eL zB s.2.2.Threads),.fsl (eL rBox s.2.2.Boxes),.int .i64 s.2.2.Turn,.int .i64 s.2.2.Idle,.fsl (eL rI s.2.2.Out)]]⟩)] M1) (fun s x a J=>x=.exit 0/\Rc G 34 N0 (fun a J=>∃M2 o3 o4:Nat,N0<=M2/\N0<=o3/\o3<M2/\N0<=o4/\o4<M2/\¬o3=o4/\a=[(0,.fsl (eL rI p0)),(4,.ptr o3 0 0),(6,.ptr o4 0 0)]/\J=hp E0 [(o3,some ⟨30,6,[[.fsl (eL zA s.1.Codes),.fsl (eL zB s.1.Threads),.fsl (eL rBox s.1.Boxes),.int .i64 s.1.Turn,.int .i64 s.1.Idle,.fsl (eL rI s.1.Out)]]⟩),(o4,some ⟨30,6,[[.fsl (eL zA s.2.Codes),.osl 42 2 (eL zB s.2.Threads),.fsl (eL rBox s.2.Boxes),.int .i64 s.2.Turn,.int .i64 s.2.Idle,.fsl (eL rI s.2.Out)]]⟩)] M2) (AAct.keep a [0,4,6]) J) hse1 ?_ ?_ ?_
 .refine kp [0,4,6,13,14] ?_
  refine gP0 zD (N0+7) 0 1 42 2 (eL zB ([]:List gThread)) ?_
  refine gW zD (N0+7) 0 5 ?_
  exact R3 (N0+12) N0 (N0+7)
 .clear H hse1
  rintro⟨s3,s4,s5⟩ fl a J H ⟨M1,o1,o2,fM1_0,fM1_1,fM1_2,fM1_3,fM1_4,fM1_5,rfl,rfl⟩ K2 O2 hK2 hO2
  unfold vG at H;dsimp only at H
  have e0:=nQ o1 o2
  refine qB [0,4,6,13,14,15] e0 ?_
  refine Wsq [0,4,6,13,14] fun K3 hK3=>?_
  refine Ci H ?_ ?_<;>intro H
  .refine Js hK3 ?_
   refine Wsq [0,4,6,13,14] fun K4 hK4=>?_
   refine Wb ?_
   refine gU Wre o2 0 1 ?_
   obtain⟨l8,hl8,H⟩:=bE H
   obtain⟨l9,hl9,H⟩:=bE H
   have q0:∀J i,bsA T 27 true i 1 [(0,.agg [.fsl (eL rI l8),.int .i64 0])] J=some (.fsl (eL zB ([(⟨l8,0⟩:gThread)]:List gThread)),J):=fun _ _=>rfl
   refine vI tok tokM [2,4] [1,5,7] [0,2,3,4,1,5,6,7] [0,4,6,13,14] (fun a J=>a=[(0,.fsl (eL rI p0)),(4,.ptr o1 0 0),(6,.ptr o2 0 0),(13,.int .i64 (ilen p1)),(14,.int .i64 s3)]/\J=hp E0 [(o1,some ⟨30,6,[[.fsl (eL zA s4.Codes),.fsl (eL zB s4.Threads),.fsl (eL rBox s4.Boxes),.int .i64 s4.Turn,.int .i64 s4.Idle,.fsl (eL rI s4.Out)]]⟩),(o2,some ⟨30,6,[[.fsl (eL zA s5.Codes),.sl (M1+7) 0 l9.length,.fsl (eL rBox s5.Boxes),.int .i64 s5.Turn,.int .i64 s5.Idle,.fsl (eL rI s5.Out)]]⟩),(M1+7,some ⟨42,2,eL zB l9⟩)] (M1+10)) (by decide) (fun K hK=>?_) ?_
   .simp only[pickL,zF,zG]
    have e0:=nQ o1 o2
    have e1:=nQ o1 (M1+1)
    have e2:=nQ o1 (M1+7)
    have e3:=nQ o2 (M1+1)
    have e4:=nQ o2 (M1+7)
    refine m1 (j e0 (j e1 (j e2 (j e3 (j e4 (j (makf23 hl8) (j q0 (app27 hl9)))))))) ?_
    exact hK _ _ ⟨rfl,rfl⟩
   rintro a J ⟨ha,rfl⟩
   refine hK4 _ _ ?_;rw[ha]
   refine Rc.mk ?_
   have e0:=nQ o1 o2
   have e1:=nQ o1 (M1+7)
   have e2:=nQ o2 (M1+7)
   obtain rfl:=oi H
   refine qJ (j e0 (j e1 e2)) hK2 ?_
   refine gP zD o2 0 1 ?_
   exact R3 (M1+12) o1 o2
  cases oj H
  refine zJ (hO2 _ _ _ _ rfl ⟨rfl,?_⟩)
  refine kr ?_
  exact R3 (M1+1) o1 o2
 intro x a J hx
 obtain⟨y6,y7⟩:=e1
 obtain⟨rfl,b,U,hr,M2,o3,o4,fM2_0,fM2_1,fM2_2,fM2_3,fM2_4,fM2_5,rfl,rfl⟩:=hx
 (try dsimp only at H)
 show K1 _ _
 refine hK1 _ _ (zD hr ?_)
 refine Rc.mk ?_
 refine Wsq [4,6] fun K5 hK5=>?_
 refine gU Wre o4 0 1 ?_
 obtain⟨r11,hr11,H⟩:=bE H
 obtain⟨g13,hg13,H⟩:=bE H
 refine kT tok [] [4,6,31] (fun a J=>a=[(4,.ptr o3 0 0),(6,.ptr o4 0 0),(31,.bool g13)]/\J=hp E0 [(o3,some ⟨30,6,[[.fsl (eL zA y6.Codes),.fsl (eL zB y6.Threads),.fsl (eL rBox y6.Boxes),.int .i64 y6.Turn,.int .i64 y6.Idle,.fsl (eL rI y6.Out)]]⟩),(o4,some ⟨30,6,[[.fsl (eL zA y7.Codes),.sl M2 0 y7.Threads.length,.fsl (eL rBox y7.Boxes),.int .i64 y7.Turn,.int .i64 y7.Idle,.fsl (eL rI y7.Out)]]⟩),(M2,some ⟨42,2,eL zB y7.Threads⟩)] (M2+9)) (fun K hK=>?_) ?_
 .skip
  have e0:=nQ o3 o4
  have e1:=nQ o3 M2
  have e2:=nQ o4 M2
  refine m1 (j e0 (j e1 e2)) ?_
  refine(c45 hr11).app (m1 (j e0 (j e1 e2)) ?_)
  cases hbg13:bnot r11
  .replace hg13:=ifF hbg13 hg13
   obtain⟨r12,hr12,hg13⟩:=bE hg13
   cases oj hg13
   refine m1 (j e0 (j e1 (j e2 hbg13))) ?_
   refine(borrow 8 (c32 hr12) (by simp[e0,e1,e2,hbg13]) rfl).mono ?_;rintro _ _ ⟨rfl,rfl⟩;try simp -dsimp -implicitDefEqProofs [e0,e1,e2,hbg13]
   exact hK _ _ ⟨rfl,rfl⟩
  cases oj (ifT hbg13 hg13)
  refine m1 (j e0 (j e1 (j e2 hbg13))) ?_
  exact hK _ _ ⟨rfl,rfl⟩
 rintro a J ⟨rfl,rfl⟩
 refine Ci H ?_ ?_<;>intro H
 .have e0:=nQ o3 o4
  have e1:=nQ o3 M2
  have e2:=nQ o4 M2
  refine qB [4,5] (j e0 (j e1 e2)) ?_
  cases oj H
  refine Kp [4,5] ?_
  have z0:=nQ o3 o4
  have z1:=nQ o3 M2
  have z2:=nQ o4 M2
  refine Wr ?_
  exact⟨[.agg [.fsl [],.fsl [],.fsl [],.int .i64 0,.int .i64 0,.fsl []],.bool false],by simp[z0,z1,z2],4,by simp[eN,z0,z1,z2]⟩
 refine Js hK5 ?_
 have e0:=nQ o3 o4
 have e1:=nQ o3 M2
 have e2:=nQ o4 M2
 refine qB [4,5] (j e0 (j e1 e2)) ?_
 obtain rfl:=oi H
 refine Kp [4,5] ?_
 have z3:=nQ o3 o4
 have z4:=nQ o3 M2
 have z5:=nQ o4 M2
 refine Wr ?_
 exact⟨[.agg [.fsl (eL zA y7.Codes),.sl M2 0 y7.Threads.length,.fsl (eL rBox y7.Boxes),.int .i64 y7.Turn,.int .i64 y7.Idle,.fsl (eL rI y7.Out)],.bool true],by simp[z3,z4,z5],4,by simp[eN,z3,z4,z5]⟩

theorem c55 {p0:List Int}{r:List Int}(H:kN p0=some r):APure Tryz.prog G 55 [.fsl (eL rI p0)] (.fsl (eL rI r)):=by
 refine qK func55 ntmps55 results55 fun N0=>?_
 unfold kN at H
 refine qA [0] ?_
 refine Wsq [0] fun K1 hK1=>?_
 refine dI tok [4,0] ([(0,.fsl (eL rI p0))]) rfl rfl (by decide) (by decide) (by decide) (fun _=>rfl) (fun n0=>?_) ?_
 .replace n0:p0=[]:=mH n0
  replace H:(if true=true then   some ([]:List Int) else   (appx 8 ([]:List Int) p0).bind fun l2=>   some l2:Option ((List Int)))=some r:=by simpa [n0,appx] using H
  refine Ci H ?_ ?_<;>intro H
  .refine qA [2] ?_
   cases oj H;exact W4
  refine Js hK1 ?_
  obtain⟨l2,hl2,H⟩:=bE H
  have q2:∀J i,bsA T 23 true i 0 [] J=some (.esl,J):=fun _ _=>rfl
  refine Sz tok [0,2] [2] q2 (nO hl2) ?_
  cases oj H;exact W4
 .
  refine Ci H ?_ ?_<;>intro H
  .refine qA [2] ?_
   cases oj H;exact W4
  refine Js hK1 ?_
  obtain⟨l1,hl1,H⟩:=bE H
  have q1:∀J i,bsA T 23 true i 0 [] J=some (.esl,J):=fun _ _=>rfl
  refine Sz tok [0,2] [2] q1 (nO hl1) ?_
  cases oj H;exact W4

theorem c17 {p0:List Int}{p1:(List (List gQuad))}{p2:Int}{r:gCrew}(H:uJ p0 p1 p2=some r):APure Tryz.prog G 17 [.fsl (eL rI p0),.fsl (eL zA p1),.int .i64 p2] (.agg [.fsl (eL zA r.Codes),.fsl (eL zB r.Threads),.fsl (eL rBox r.Boxes),.int .i64 r.Turn,.int .i64 r.Idle,.fsl (eL rI r.Out)]):=by
 refine qK func17 ntmps17 results17 fun N0=>?_
 unfold uJ at H
 refine qA [0,1,2,6] ?_
 refine gW Wre N0 0 0 ?_
 refine gW Wre N0 0 1 ?_
 refine gW Wre N0 0 2 ?_
 refine gW Wre N0 0 5 ?_
 obtain⟨r1,hr1,H⟩:=bE H
 refine qD [2,6,7,8] (c13 hr1) ?_
 obtain⟨r2,hr2,H⟩:=bE H
 refine qD [6,8,9,10] (c20 hr2) ?_
 refine Wsq [6,9] fun K1 hK1=>?_
 obtain⟨g3,hg3,H⟩:=bE H
 refine qF tok [6,9,28] ([(6,.ptr N0 0 0),(9,.ptr (N0+16) 0 0),(28,.bool g3)]) (hp E0 [(N0,some ⟨30,6,[[.fsl [],.fsl [],.fsl [],.int .i64 0,.int .i64 0,.fsl []]]⟩),(N0+7,some ⟨30,6,[[.fsl (eL zA r1.1.Codes),.fsl (eL zB r1.1.Threads),.fsl (eL rBox r1.1.Boxes),.int .i64 r1.1.Turn,.int .i64 r1.1.Idle,.fsl (eL rI r1.1.Out)]]⟩),(N0+16,some ⟨30,6,[[.fsl (eL zA r2.1.Codes),.fsl (eL zB r2.1.Threads),.fsl (eL rBox r2.1.Boxes),.int .i64 r2.1.Turn,.int .i64 r2.1.Idle,.fsl (eL rI r2.1.Out)]]⟩)] (N0+25)) (by
  intro K k
  refine m0 ?_
  cases hbg3:bnot r1.2
  .cases oj (ifF hbg3 hg3)
   exact m1 hbg3 k
  cases oj (ifT hbg3 hg3)
  refine m1 hbg3 ?_
  exact k) ?_
 refine Ci H ?_ ?_<;>intro H
 .refine qA [6] ?_
  cases oj H
  refine Kp [6] ?_
  exact V0
 refine Js hK1 ?_
 refine qA [6] ?_
 obtain rfl:=oi H
 refine Kp [6] ?_
 exact V0

theorem c59_o {p0:List gQuad}{r:List gQuad}(H:zS p0=some r){J:AHeap}:ACalls Tryz.prog G 59 [.fsl (eL rQuad p0)] J (fun v J'=>∃M n0:Nat,J.next<=M/\J.next<=n0/\n0<M/\v=.sl n0 0 r.length/\J'=hp J.objs [(n0,some ⟨36,5,eL rQuad r⟩)] M):=by
 refine fr2 [] (by simp) (fun hlt=>?_) ⟨_,func59,rfl,rfl⟩
 generalize J.next=N0 at hlt ⊢
 refine fnK tok func59 ntmps59 results59 ?_
 simp only[argsA,Nat.reduceAdd,hpN]
 unfold zS at H
 refine qA [0] ?_
 refine Wsq [0] fun K1 hK1=>?_
 refine dI tok [4,0] ([(0,.fsl (eL rQuad p0))]) rfl rfl (by decide) (by decide) (by decide) (fun _=>rfl) (fun n0=>?_) ?_
 .replace n0:p0=[]:=mH n0
  replace H:(if true=true then   some ([]:List gQuad) else   (appx 40 ([]:List gQuad) p0).bind fun l2=>   some l2:Option ((List gQuad)))=some r:=by simpa [n0,appx] using H
  refine Ci H ?_ ?_<;>intro H
  .refine qA [2] ?_
   cases oj H
   refine Kp [2] ?_
   refine gNilS Wre 2 36 5 [(N0+2,some ⟨36,5,eL rQuad ([]:List gQuad)⟩)] [(2,.sl (N0+2) 0 ([]:List gQuad).length)] (by simp(disch:=omega)) (by simp(disch:=omega) [eN]) [2] rfl ?_
   exact V2 j0 (N0+3) (N0+2)
  refine Js hK1 ?_
  obtain⟨l2,hl2,H⟩:=bE H
  have q2:∀J i,bsA T 34 true i 0 [] J=some (.esl,J):=fun _ _=>rfl
  refine Sz tok [0] [2] q2 (appe34 hl2) ?_
  obtain rfl:=oi H
  refine Kp [2] ?_
  exact V2 j0 (N0+5) (N0+3)
 .
  refine Ci H ?_ ?_<;>intro H
  .refine qA [2] ?_
   cases oj H
   refine Kp [2] ?_
   refine gNilS Wre 2 36 5 [(N0+2,some ⟨36,5,eL rQuad ([]:List gQuad)⟩)] [(2,.sl (N0+2) 0 ([]:List gQuad).length)] (by simp(disch:=omega)) (by simp(disch:=omega) [eN]) [2] rfl ?_
   exact V2 j0 (N0+3) (N0+2)
  refine Js hK1 ?_
  obtain⟨l1,hl1,H⟩:=bE H
  have q1:∀J i,bsA T 34 true i 0 [] J=some (.esl,J):=fun _ _=>rfl
  refine Sz tok [0] [2] q1 (appe34 hl1) ?_
  obtain rfl:=oi H
  refine Kp [2] ?_
  exact V2 j0 (N0+5) (N0+3)

theorem c61 {p0:gQuad}{r:Bool}(H:gA p0=some r):APure Tryz.prog G 61 [.agg [.int .i64 p0.Op,.int .i64 p0.Dst,.int .i64 p0.A,.int .i64 p0.B,.int .i64 p0.N]] (.bool r):=by
 refine qK func61 ntmps61 results61 fun N0=>?_
 unfold gA at H
 refine S0 tok [0] [1] ?_
 obtain⟨g1,hg1,H⟩:=bE H
 refine qF tok [2] ([(2,.bool g1)]) (hp E0 [] (N0+11)) (by
  intro K k
  refine m0 ?_
  cases hbg1:ieq p0.Op 4
  .cases oj (ifF hbg1 hg1)
   exact m1 hbg1 k
  cases oj (ifT hbg1 hg1)
  refine m1 hbg1 ?_
  exact k) ?_
 cases oj H;exact W4

theorem c62 {p0:List gQuad}{p1:Int}{r:Int}(H:sH p0 p1=some r):APure Tryz.prog G 62 [.fsl (eL rQuad p0),.int .i64 p1] (.int .i64 r):=by
 refine qK func62 ntmps62 results62 fun N0=>?_
 unfold sH at H
 refine qA [0,1] ?_
 refine qA [0,1,5] ?_
 refine Wsq [1] fun K1 hK1=>?_
 refine qA [0,1,5,8,9] ?_
 refine Wb ?_
 obtain⟨e1,hse1,H⟩:=bE H
 refine zP [0,1,5,8,9] (fun s a J=>∃M1:Nat,N0<=M1/\a=[(0,.fsl (eL rQuad p0)),(1,.int .i64 p1),(5,.int .i64 s.1),(8,.int .i64 (ilen p0)),(9,.int .i64 s.2)]/\J=hp E0 [] M1) (fun e x a J=>match e with|.inl s=>x=.exit 0/\Rc G 25 N0 (fun a J=>∃M2:Nat,N0<=M2/\a=[(1,.int .i64 p1)]/\J=hp E0 [] M2) (AAct.keep a [1]) J|.inr s=>x=.ret/\∃vs,resA T J a [.tmp 4]=some vs/\∃d,thawA (fun _=>true) J d (tupA vs)=.int .i64 s) hse1 ?_ ?_ ?_
 .refine kp [0,1,5,8,9] ?_
  exact R1 (N0+6)
 .clear H hse1
  rintro⟨s1,s2⟩ fl a J H ⟨M1,fM1_0,rfl,rfl⟩ K2 O2 hK2 hO2
  unfold pW at H;dsimp only at H
  refine qA [0,1,5,8,9,10] ?_
  refine Wsq [0,1,5,8,9] fun K3 hK3=>?_
  refine Ci H ?_ ?_<;>intro H
  .refine Js hK3 ?_
   refine Wsq [0,1,5,8,9] fun K4 hK4=>?_
   refine Wb ?_
   refine Wsq [0,1,5,8,9] fun K5 hK5=>?_
   obtain⟨v3,hv3,H⟩:=bE H
   refine qB [0,1,5,8,9,16] (ix34 hv3) ?_
   refine Ci H ?_ ?_<;>intro H
   .refine qA [4] ?_
    cases oj H
    refine Kp [4] ?_
    refine Wr (hO2 _ _ _ _ rfl ⟨rfl,?_⟩)
    exact⟨[.int .i64 s1],by simp,4,by simp[eN]⟩
   refine Js hK5 ?_
   refine qH (ix34 hv3) hK4 ?_
   obtain rfl:=oi H
   refine qI hK2 ?_
   exact R1 (M1+15)
  cases oj H
  refine zJ (hO2 _ _ _ _ rfl ⟨rfl,?_⟩)
  refine kr ?_
  exact R1 (M1+1)
 intro x a J hx
 rcases e1 with⟨⟩|r0
 .obtain⟨rfl,b,U,hr,M2,fM2_0,rfl,rfl⟩:=hx
  (try dsimp only at H)
  show K1 _ _
  refine hK1 _ _ (zD hr ?_)
  refine Rc.mk ?_
  refine qA [4] ?_
  cases oj H;exact W4
 obtain⟨rfl,hx2⟩:=hx
 (try dsimp only at H)
 cases oj H;first|exact hx2|(simp only[List.set_set] at hx2 ⊢;exact hx2)

theorem c25 {p0:List gQuad}{r:(List gQuad)×Bool}(H:vE p0=some r):APure Tryz.prog G 25 [.fsl (eL rQuad p0)] (.tup [.fsl (eL rQuad r.1),.bool r.2]):=by
 refine qK func25 ntmps25 results25 fun N0=>?_
 unfold vE at H
 refine qA [0] ?_
 refine Wsq [0] fun K1 hK1=>?_
 obtain⟨r1,hr1,H⟩:=bE H
 refine qD [0,9] (c50 hr1) ?_
 refine Ci H ?_ ?_<;>intro H
 .refine qA [2,3] ?_
  cases oj H;exact W4
 refine Js hK1 ?_
 obtain⟨r2,hr2,H⟩:=bE H
 refine kT tok [] [0,4] (fun a J=>∃M1 o1:Nat,N0+8<=M1/\N0+8<=o1/\o1<M1/\a=[(0,.fsl (eL rQuad p0)),(4,.sl o1 0 r2.length)]/\J=hp E0 [(o1,some ⟨36,5,eL rQuad r2⟩)] M1) (fun K hK=>?_) ?_
 .skip
  refine m0 ?_
  refine mo (c59_o (H:=hr2)) fun M1 o1 fM1_0 fM1_1 fM1_2=>?_
  refine m2 @hoS @hoN ?_
  exact hK _ _ ⟨M1,o1,(by omega),(by omega),(by omega),rfl,rfl⟩
 rintro a J ⟨M1,o1,fM1_0,fM1_1,fM1_2,rfl,rfl⟩
 refine Wsq [4] fun K2 hK2=>?_
 refine qA [0,4,12,13,14] ?_
 refine Wb ?_
 obtain⟨e1,hse1,H⟩:=bE H
 refine zP [0,4,12,13,14] (fun s a J=>∃M2 o2:Nat,N0<=M2/\N0<=o2/\o2<M2/\a=[(0,.fsl (eL rQuad p0)),(4,.sl o2 0 s.2.length),(12,.fsl (eL rQuad p0)),(13,.int .i64 (ilen p0)),(14,.int .i64 s.1)]/\J=hp E0 [(o2,some ⟨36,5,eL rQuad s.2⟩)] M2) (fun s x a J=>x=.exit 0/\Rc G 31 N0 (fun a J=>∃M3 o3:Nat,N0<=M3/\N0<=o3/\o3<M3/\a=[(4,.sl o3 0 s.length)]/\J=hp E0 [(o3,some ⟨36,5,eL rQuad s⟩)] M3) (AAct.keep a [4]) J) hse1 ?_ ?_ ?_
 .refine kp [0,4,12,13,14] ?_
  exact R2 (M1+3) o1
 .clear H hse1
  rintro⟨s3,s4⟩ fl a J H ⟨M2,o2,fM2_0,fM2_1,fM2_2,rfl,rfl⟩ K3 O3 hK3 hO3
  unfold gC at H;dsimp only at H
  refine qA [0,4,12,13,14,15] ?_
  refine Wsq [0,4,12,13,14] fun K4 hK4=>?_
  refine Ci H ?_ ?_<;>intro H
  .refine Js hK4 ?_
   refine Wsq [0,4,12,13,14] fun K5 hK5=>?_
   refine Wb ?_
   obtain⟨v6,hv6,H⟩:=bE H
   have e0:=nQ o2 (M2+4)
   refine qC [0,4,5,6,12,13,14] e0 (ix34 hv6) ?_
   obtain⟨r7,hr7,H⟩:=bE H
   have e0:=nQ o2 (M2+4)
   refine qE [0,4,5,6,12,13,14,20] e0 (c61 hr7) ?_
   refine Ci H ?_ ?_<;>intro H
   .obtain⟨r8,hr8,H⟩:=bE H
    obtain⟨v9,hv9,H⟩:=bE H
    obtain⟨l10,hl10,H⟩:=bE H
    have e0:=nQ o2 (M2+4)
    refine Rt tok [] [0,4,12,13,14] (by intro K k;(repeat first|simp -dsimp -implicitDefEqProofs [e0,ixo34 hv9,(zL hv9).2.2,(setx_iff.1 hl10).2.symm]|refine(c62 hr8).app ?_);exact k) fun a ha=>?_
    (try rw[<- zK hl10] at ha);(try rw[<- zK hl10])
    refine hK5 _ _ ?_;rw[ha]
    refine Rc.mk ?_
    have e0:=nQ o2 (M2+4)
    obtain rfl:=oi H
    refine qJ e0 hK3 ?_
    exact Rc.fin (zI (AHeap.Sub.trans (AHeap.Sub.refl _) (zR rfl (by simp;try omega)))) ⟨M2+20,o2,(by omega),(by omega),(by omega),rfl,rfl⟩
   refine Js hK5 ?_
   have e0:=nQ o2 (M2+4)
   obtain rfl:=oi H
   refine qJ e0 hK3 ?_
   exact Rc.fin (zI (AHeap.Sub.trans (AHeap.Sub.refl _) (zR rfl (by simp;try omega)))) ⟨M2+11,o2,(by omega),(by omega),(by omega),rfl,rfl⟩
  cases oj H
  refine zJ (hO3 _ _ _ _ rfl ⟨rfl,?_⟩)
  refine kr ?_
  exact R2 (M2+1) o2
 intro x a J hx
 obtain⟨y5,rfl⟩:∃x,x=e1:=⟨_,rfl⟩
 obtain⟨rfl,b,U,hr,M3,o3,fM3_0,fM3_1,fM3_2,rfl,rfl⟩:=hx
 (try dsimp only at H)
 show K2 _ _
 refine hK2 _ _ (zD hr ?_)
 refine Rc.mk ?_
 refine qA [2,3] ?_
 cases oj H;exact W4

theorem c88_o {p0:List Int}{p1:List gBox}{p2:Bool}{r:gOutcome}(H:qP p0 p1 p2=some r){J:AHeap}:ACalls Tryz.prog G 88 [.fsl (eL rI p0),.fsl (eL rBox p1),.bool p2] J (fun v J'=>∃M n0:Nat,J.next<=M/\J.next<=n0/\n0<M/\v=.agg [.fsl (eL rI r.Out),.fsl (eL rL_I r.Items),.sl n0 0 r.Ended.length,.bool r.Rest]/\J'=hp J.objs [(n0,some ⟨4,1,eL rB r.Ended⟩)] M):=by
 refine fr2 [] (by simp) (fun hlt=>?_) ⟨_,func88,rfl,rfl⟩
 generalize J.next=N0 at hlt ⊢
 refine kQ 4 ?_
 refine fnK tok func88 ntmps88 results88 ?_
 simp only[argsA,Nat.reduceAdd,hpN]
 unfold qP at H
 refine qA [0,1,2,6] ?_
 refine gW Wre N0 0 0 ?_
 refine gP0 Wre N0 0 1 23 1 (eL rL_I ([]:List (List Int))) ?_
 refine gP0 Wre N0 0 2 4 1 (eL rB ([]:List Bool)) ?_
 obtain⟨r1,hr1,H⟩:=bE H
 refine Sc tok [3] [1,6,7] (c55 hr1) ?_
 refine Wsq [6,7] fun K1 hK1=>?_
 refine qA [6,7,14,15,16] ?_
 refine Wb ?_
 obtain⟨e1,hse1,H⟩:=bE H
 refine zP [6,7,14,15,16] (fun s a J=>∃M1 o1 o2:Nat,N0<=M1/\N0<=o1/\o1<M1/\N0<=o2/\o2<M1/\¬o1=o2/\a=[(6,.ptr o1 0 0),(7,.ptr o2 0 0),(14,.fsl (eL rBox p1)),(15,.int .i64 (ilen p1)),(16,.int .i64 s.1)]/\J=hp E0 [(o1,some ⟨88,4,[[.fsl (eL rI s.2.1.Out),.osl 23 1 (eL rL_I s.2.1.Items),.osl 4 1 (eL rB s.2.1.Ended),.bool s.2.1.Rest]]⟩),(o2,some ⟨88,4,[[.fsl (eL rI s.2.2.Out),.osl 23 1 (eL rL_I s.2.2.Items),.osl 4 1 (eL rB s.2.2.Ended),.bool s.2.2.Rest]]⟩)] M1) (fun s x a J=>x=.exit 0/\Rc G 30 N0 (fun a J=>∃M2 o3 o4:Nat,N0<=M2/\N0<=o3/\o3<M2/\N0<=o4/\o4<M2/\¬o3=o4/\a=[(6,.ptr o3 0 0),(7,.ptr o4 0 0)]/\J=hp E0 [(o3,some ⟨88,4,[[.fsl (eL rI s.1.Out),.osl 23 1 (eL rL_I s.1.Items),.osl 4 1 (eL rB s.1.Ended),.bool s.1.Rest]]⟩),(o4,some ⟨88,4,[[.fsl (eL rI s.2.Out),.osl 23 1 (eL rL_I s.2.Items),.osl 4 1 (eL rB s.2.Ended),.bool s.2.Rest]]⟩)] M2) (AAct.keep a [6,7]) J) hse1 ?_ ?_ ?_
 .refine kp [6,7,14,15,16] ?_
  refine gP0 zD (N0+5) 0 1 23 1 (eL rL_I ([]:List (List Int))) ?_
  refine gP0 zD (N0+5) 0 2 4 1 (eL rB ([]:List Bool)) ?_
  exact R3 (N0+10) N0 (N0+5)
 .clear H hse1
  rintro⟨s2,s3,s4⟩ fl a J H ⟨M1,o1,o2,fM1_0,fM1_1,fM1_2,fM1_3,fM1_4,fM1_5,rfl,rfl⟩ K2 O2 hK2 hO2
  unfold jR at H;dsimp only at H
  have e0:=nQ o1 o2
  refine qB [6,7,14,15,16,17] e0 ?_
  refine Wsq [6,7,14,15,16] fun K3 hK3=>?_
  refine Ci H ?_ ?_<;>intro H
  .refine Js hK3 ?_
   refine Wsq [6,7,14,15,16] fun K4 hK4=>?_
   refine Wb ?_
   obtain⟨v7,hv7,H⟩:=bE H
   have e0:=nQ o1 o2
   have e1:=nQ o1 (M1+3)
   have e2:=nQ o2 (M1+3)
   refine qB [6,7,9,14,15,16] (j e0 (j e1 (j e2 (ix28 hv7)))) ?_
   refine gU Wre o2 0 1 ?_
   obtain⟨r8,hr8,H⟩:=bE H
   obtain⟨l9,hl9,H⟩:=bE H
   have q0:∀J i,bsA T 86 true i 1 [(0,.fsl (eL rI r8))] J=some (.fsl (eL rL_I ([r8]:List (List Int))),J):=fun _ _=>rfl
   refine AWP_ry tok tokM [5] [1,3,4,5,6,8] [0,2,1,3,4,5,6,7,8] [(4,[1]),(5,[1])] [6,7,14,15,16] (fun a J=>a=[(6,.ptr o1 0 0),(7,.ptr o2 0 0),(14,.fsl (eL rBox p1)),(15,.int .i64 (ilen p1)),(16,.int .i64 s2)]/\J=hp E0 [(o1,some ⟨88,4,[[.fsl (eL rI s3.Out),.osl 23 1 (eL rL_I s3.Items),.osl 4 1 (eL rB s3.Ended),.bool s3.Rest]]⟩),(o2,some ⟨88,4,[[.fsl (eL rI s4.Out),.sl (M1+12) 0 l9.length,.osl 4 1 (eL rB s4.Ended),.bool s4.Rest]]⟩),(M1+3,some ⟨103,2,[[.int .i64 v7.Room,.fsl (eL rI v7.Items)]]⟩),(M1+12,some ⟨23,1,eL rL_I l9⟩)] (M1+15)) (by decide) (fun K hK=>?_) ?_
   .simp only[pickL,zF,zG]
    have e0:=nQ o1 o2
    have e1:=nQ o1 (M1+3)
    have e2:=nQ o1 (M1+5)
    have e3:=nQ o1 (M1+12)
    have e4:=nQ o2 (M1+3)
    have e5:=nQ o2 (M1+5)
    have e6:=nQ o2 (M1+12)
    refine m1 (j e0 (j e1 (j e2 (j e3 (j e4 (j e5 (j e6 (j q0 (app86 hl9))))))))) ?_
    refine(c55 hr8).app (m1 (j e0 (j e1 (j e2 (j e3 (j e4 (j e5 (j e6 (j q0 (app86 hl9))))))))) ?_)
    exact hK _ _ ⟨rfl,rfl⟩
   rintro a J ⟨ha,rfl⟩
   refine hK4 _ _ ?_;rw[ha]
   refine Rc.mk ?_
   have e0:=nQ o1 o2
   have e1:=nQ o1 (M1+3)
   have e2:=nQ o1 (M1+12)
   have e3:=nQ o2 (M1+3)
   have e4:=nQ o2 (M1+12)
   obtain rfl:=oi H
   refine qJ (j e0 (j e1 (j e2 (j e3 e4)))) hK2 ?_
   refine gP zD o2 0 1 ?_
   exact Rc.fin (zI (zI (AHeap.Sub.trans (AHeap.Sub.refl _) (zR rfl (by simp;try omega))))) ⟨M1+17,o1,o2,(by omega),(by omega),(by omega),(by omega),(by omega),(by omega),rfl,rfl⟩
  cases oj H
  refine zJ (hO2 _ _ _ _ rfl ⟨rfl,?_⟩)
  refine kr ?_
  exact R3 (M1+1) o1 o2
 intro x a J hx
 obtain⟨y5,y6⟩:=e1
 obtain⟨rfl,b,U,hr,M2,o3,o4,fM2_0,fM2_1,fM2_2,fM2_3,fM2_4,fM2_5,rfl,rfl⟩:=hx
 (try dsimp only at H)
 show K1 _ _
 refine hK1 _ _ (zD hr ?_)
 refine Rc.mk ?_
 refine gU Wre o4 0 1 ?_
 refine gU Wre o4 0 2 ?_
 have e0:=nQ o3 o4
 have e1:=nQ o3 M2
 have e2:=nQ o3 (M2+1)
 have e3:=nQ o4 M2
 have e4:=nQ o4 (M2+1)
 refine qB [6] (j e0 (j e1 (j e2 (j e3 e4)))) ?_
 obtain rfl:=oi H
 refine Kp [6] ?_
 refine gDrop Wre [(o3,some ⟨88,4,[[.fsl (eL rI y6.Out),.sl M2 0 y6.Items.length,.sl (M2+1) 0 y6.Ended.length,.bool y6.Rest]]⟩),(M2,some ⟨23,1,eL rL_I y6.Items⟩),(M2+1,some ⟨4,1,eL rB y6.Ended⟩)] (zI (AHeap.Sub.trans (zI (zI (AHeap.Sub.refl _))) (zR rfl (by simp;try omega)))) ?_
 refine gP Wre o3 0 1 ?_
 refine gP Wre o3 0 2 ?_
 refine gU Wre o3 0 1 ?_
 refine gU Wre o3 0 2 ?_
 have z0:=nQ o3 (M2+4)
 have z1:=nQ o3 (M2+5)
 refine Wr ?_
 refine⟨[.agg [.fsl (eL rI y6.Out),.sl (M2+4) 0 y6.Items.length,.sl (M2+5) 0 y6.Ended.length,.bool y6.Rest]],by simp[z0,z1],(fun o=>[o3,M2+4].contains o),M2+6,M2+5,by omega,by omega,by omega,?_,?_⟩
 .simp[eN,z0,z1]
 rw[cutD (L':=[(M2+5,some ⟨4,1,eL rB y6.Ended⟩)]) (by simp[z0,z1])]
 first|done|rfl|simp

theorem c63 {p0:gCrew}{r:gOutcome}(H:xZ p0=some r):APure Tryz.prog G 63 [.agg [.fsl (eL zA p0.Codes),.fsl (eL zB p0.Threads),.fsl (eL rBox p0.Boxes),.int .i64 p0.Turn,.int .i64 p0.Idle,.fsl (eL rI p0.Out)]] (.agg [.fsl (eL rI r.Out),.fsl (eL rL_I r.Items),.fsl (eL rB r.Ended),.bool r.Rest]):=by
 refine qK func63 ntmps63 results63 fun N0=>?_
 unfold xZ at H
 refine S0 tok [0] [1,2] ?_
 refine Wsq [1,2] fun K1 hK1=>?_
 refine gW Wre (N0+1) 0 0 ?_
 refine gW Wre (N0+1) 0 1 ?_
 refine gW Wre (N0+1) 0 2 ?_
 obtain⟨r1,hr1,H⟩:=bE H
 refine qD [1,2,8] (c32 hr1) ?_
 refine Ci H ?_ ?_<;>intro H
 .refine qA [2] ?_
  cases oj H
  refine Kp [2] ?_
  exact V0
 refine Js hK1 ?_
 obtain⟨r2,hr2,H⟩:=bE H
 refine kT tok [] [1,2,3] (fun a J=>∃M1 o1:Nat,N0+18<=M1/\N0+18<=o1/\o1<M1/\a=[(1,.fptr [.fsl (eL zA p0.Codes),.fsl (eL zB p0.Threads),.fsl (eL rBox p0.Boxes),.int .i64 p0.Turn,.int .i64 p0.Idle,.fsl (eL rI p0.Out)] 0),(2,.ptr (N0+1) 0 0),(3,.ptr (N0+16) 0 0)]/\J=hp E0 [(N0+1,some ⟨88,4,[[.fsl [],.fsl [],.fsl [],.bool false]]⟩),(o1,some ⟨4,1,eL rB r2.Ended⟩),(N0+16,some ⟨88,4,[[.fsl (eL rI r2.Out),.fsl (eL rL_I r2.Items),.sl o1 0 r2.Ended.length,.bool r2.Rest]]⟩)] M1) (fun K hK=>?_) ?_
 .skip
  refine m0 ?_
  refine mo (c88_o (H:=hr2)) fun M1 o1 fM1_0 fM1_1 fM1_2=>?_
  have eM1_0:=nQ o1 (N0+1)
  have eM1_1:=nQ o1 (N0+16)
  refine m1 (j eM1_0 (j eM1_1 (j @hoS @hoN))) ?_
  exact hK _ _ ⟨M1,o1,(by omega),(by omega),(by omega),rfl,rfl⟩
 rintro a J ⟨M1,o1,fM1_0,fM1_1,fM1_2,rfl,rfl⟩
 refine Wsq [2,3] fun K2 hK2=>?_
 have e0:=nQ (N0+1) o1
 have e1:=nQ o1 (N0+16)
 refine qC [1,2,3,22,23,24] e0 e1 ?_
 refine Wb ?_
 obtain⟨e1,hse1,H⟩:=bE H
 refine zP [1,2,3,22,23,24] (fun s a J=>∃M2 o2 o3:Nat,N0<=M2/\N0<=o2/\o2<M2/\N0<=o3/\o3<M2/\¬o2=o3/\a=[(1,.fptr [.fsl (eL zA p0.Codes),.fsl (eL zB p0.Threads),.fsl (eL rBox p0.Boxes),.int .i64 p0.Turn,.int .i64 p0.Idle,.fsl (eL rI p0.Out)] 0),(2,.ptr o2 0 0),(3,.ptr o3 0 0),(22,.fsl (eL zB p0.Threads)),(23,.int .i64 (ilen p0.Threads)),(24,.int .i64 s.1)]/\J=hp E0 [(o2,some ⟨88,4,[[.fsl (eL rI s.2.1.Out),.fsl (eL rL_I s.2.1.Items),.fsl (eL rB s.2.1.Ended),.bool s.2.1.Rest]]⟩),(o3,some ⟨88,4,[[.fsl (eL rI s.2.2.Out),.fsl (eL rL_I s.2.2.Items),.osl 4 1 (eL rB s.2.2.Ended),.bool s.2.2.Rest]]⟩)] M2) (fun s x a J=>x=.exit 0/\Rc G 47 N0 (fun a J=>∃M3 o4 o5:Nat,N0<=M3/\N0<=o4/\o4<M3/\N0<=o5/\o5<M3/\¬o4=o5/\a=[(2,.ptr o4 0 0),(3,.ptr o5 0 0)]/\J=hp E0 [(o4,some ⟨88,4,[[.fsl (eL rI s.1.Out),.fsl (eL rL_I s.1.Items),.fsl (eL rB s.1.Ended),.bool s.1.Rest]]⟩),(o5,some ⟨88,4,[[.fsl (eL rI s.2.Out),.fsl (eL rL_I s.2.Items),.osl 4 1 (eL rB s.2.Ended),.bool s.2.Rest]]⟩)] M3) (AAct.keep a [2,3]) J) hse1 ?_ ?_ ?_
 .refine kp [1,2,3,22,23,24] ?_
  refine gP zD (N0+16) 0 2 ?_
  exact R3 (M1+4) (N0+1) (N0+16)
 .clear H hse1
  rintro⟨s3,s4,s5⟩ fl a J H ⟨M2,o2,o3,fM2_0,fM2_1,fM2_2,fM2_3,fM2_4,fM2_5,rfl,rfl⟩ K3 O3 hK3 hO3
  unfold jS at H;dsimp only at H
  have e0:=nQ o2 o3
  refine qB [1,2,3,22,23,24,25] e0 ?_
  refine Wsq [1,2,3,22,23,24] fun K4 hK4=>?_
  refine Ci H ?_ ?_<;>intro H
  .refine Js hK4 ?_
   refine Wsq [1,2,3,22,23,24] fun K5 hK5=>?_
   refine Wb ?_
   obtain⟨v8,hv8,H⟩:=bE H
   have e0:=nQ o2 o3
   have e1:=nQ o2 (M2+4)
   have e2:=nQ o3 (M2+4)
   refine qB [1,2,3,4,5,22,23,24] (j e0 (j e1 (j e2 (ix27 hv8)))) ?_
   refine gU Wre o3 0 2 ?_
   obtain⟨v9,hv9,H⟩:=bE H
   obtain⟨v10,hv10,H⟩:=bE H
   obtain⟨l11,hl11,H⟩:=bE H
   have q0:∀J i,bsA T 39 true i 1 [(0,.bool (ieq v10.Op 10))] J=some (.fsl (eL rB ([ieq v10.Op 10]:List Bool)),J):=fun _ _=>rfl
   refine AWP_ry tok tokM [13] [1,8,9,10,11,12,13,14,16] [0,2,3,4,5,6,7,1,8,9,10,11,12,13,14,15,16] [(13,[1])] [1,2,3,22,23,24] (fun a J=>a=[(1,.fptr [.fsl (eL zA p0.Codes),.fsl (eL zB p0.Threads),.fsl (eL rBox p0.Boxes),.int .i64 p0.Turn,.int .i64 p0.Idle,.fsl (eL rI p0.Out)] 0),(2,.ptr o2 0 0),(3,.ptr o3 0 0),(22,.fsl (eL zB p0.Threads)),(23,.int .i64 (ilen p0.Threads)),(24,.int .i64 s3)]/\J=hp E0 [(o2,some ⟨88,4,[[.fsl (eL rI s4.Out),.fsl (eL rL_I s4.Items),.fsl (eL rB s4.Ended),.bool s4.Rest]]⟩),(o3,some ⟨88,4,[[.fsl (eL rI s5.Out),.fsl (eL rL_I s5.Items),.sl (M2+22) 0 l11.length,.bool s5.Rest]]⟩),(M2+4,some ⟨42,2,[[.fsl (eL rI v8.Regs),.int .i64 v8.Pc]]⟩),(M2+22,some ⟨4,1,eL rB l11⟩)] (M2+25)) (by decide) (fun K hK=>?_) ?_
   .simp only[pickL,zF,zG]
    have e0:=nQ o2 o3
    have e1:=nQ o2 (M2+4)
    have e2:=nQ o2 (M2+7)
    have e3:=nQ o2 (M2+22)
    have e4:=nQ o3 (M2+4)
    have e5:=nQ o3 (M2+7)
    have e6:=nQ o3 (M2+22)
    refine m1 (j e0 (j e1 (j e2 (j e3 (j e4 (j e5 (j e6 (j (ix24 hv9) (j (ix34 hv10) (j q0 (app39 hl11))))))))))) ?_
    exact hK _ _ ⟨rfl,rfl⟩
   rintro a J ⟨ha,rfl⟩
   refine hK5 _ _ ?_;rw[ha]
   refine Rc.mk ?_
   have e0:=nQ o2 o3
   have e1:=nQ o2 (M2+4)
   have e2:=nQ o2 (M2+22)
   have e3:=nQ o3 (M2+4)
   have e4:=nQ o3 (M2+22)
   obtain rfl:=oi H
   refine qJ (j e0 (j e1 (j e2 (j e3 e4)))) hK3 ?_
   refine gP zD o3 0 2 ?_
   exact Rc.fin (zI (zI (AHeap.Sub.trans (AHeap.Sub.refl _) (zR rfl (by simp;try omega))))) ⟨M2+27,o2,o3,(by omega),(by omega),(by omega),(by omega),(by omega),(by omega),rfl,rfl⟩
  cases oj H
  refine zJ (hO3 _ _ _ _ rfl ⟨rfl,?_⟩)
  refine kr ?_
  exact R3 (M2+1) o2 o3
 intro x a J hx
 obtain⟨y6,y7⟩:=e1
 obtain⟨rfl,b,U,hr,M3,o4,o5,fM3_0,fM3_1,fM3_2,fM3_3,fM3_4,fM3_5,rfl,rfl⟩:=hx
 (try dsimp only at H)
 show K2 _ _
 refine hK2 _ _ (zD hr ?_)
 refine Rc.mk ?_
 refine gU Wre o5 0 2 ?_
 have e0:=nQ o4 o5
 have e1:=nQ o4 M3
 have e2:=nQ o5 M3
 refine qB [2] (j e0 (j e1 e2)) ?_
 obtain rfl:=oi H
 refine Kp [2] ?_
 have z0:=nQ o4 o5
 have z1:=nQ o4 M3
 have z2:=nQ o5 M3
 refine Wr ?_
 exact⟨[.agg [.fsl (eL rI y7.Out),.fsl (eL rL_I y7.Items),.sl M3 0 y7.Ended.length,.bool y7.Rest]],by simp[z0,z1,z2],4,by simp[eN,z0,z1,z2]⟩

theorem c89 {p0:(List (List Int))}{p1:(List (List Int))}{r:Bool}(H:pO p0 p1=some r):APure Tryz.prog G 89 [.fsl (eL rL_I p0),.fsl (eL rL_I p1)] (.bool r):=by
 refine qK func89 ntmps89 results89 fun N0=>?_
 unfold pO at H
 refine qA [0,1] ?_
 refine Wsq [0,1] fun K1 hK1=>?_
 refine qA [0,1,10] ?_
 refine Ci H ?_ ?_<;>intro H
 .refine qA [4] ?_
  cases oj H;exact W4
 refine Js hK1 ?_
 refine Wsq [] fun K2 hK2=>?_
 refine qA [0,1,5] ?_
 refine Wb ?_
 obtain⟨e1,hse1,H⟩:=bE H
 refine zP [0,1,5] (fun s a J=>∃M1:Nat,N0<=M1/\a=[(0,.fsl (eL rL_I p0)),(1,.fsl (eL rL_I p1)),(5,.int .i64 s)]/\J=hp E0 [] M1) (fun e x a J=>match e with|.inl s=>x=.exit 0/\Rc G 27 N0 (fun a J=>∃M2:Nat,N0<=M2/\a=[]/\J=hp E0 [] M2) (AAct.keep a []) J|.inr s=>x=.ret/\∃vs,resA T J a [.tmp 4]=some vs/\∃d,thawA (fun _=>true) J d (tupA vs)=.bool s) hse1 ?_ ?_ ?_
 .refine kp [0,1,5] ?_
  exact R1 (N0+7)
 .clear H hse1
  rintro s1 fl a J H ⟨M1,fM1_0,rfl,rfl⟩ K3 O3 hK3 hO3
  unfold wJ at H;dsimp only at H
  refine Wsq [0,1,5] fun K4 hK4=>?_
  refine qA [0,1,5,14] ?_
  refine Ci H ?_ ?_<;>intro H
  .refine Js hK4 ?_
   refine Wsq [0,1,5] fun K5 hK5=>?_
   refine Wb ?_
   obtain⟨v2,hv2,H⟩:=bE H
   obtain⟨v3,hv3,H⟩:=bE H
   obtain⟨r4,hr4,H⟩:=bE H
   refine Sd tok tokM [] [] [0,1,2,3,4,5,6,7,8,9] [0,1,5,26] (by
    intro K k
    simp only[pickL,zF,zG]
    repeat first|simp -dsimp -implicitDefEqProofs [ix86 hv2,ix86 hv3]|refine Pc.mk (c39 hr4) ?_
    exact k) ?_
   refine Ci H ?_ ?_<;>intro H
   .refine qA [4] ?_
    cases oj H
    refine Kp [4] ?_
    refine Wr (hO3 _ _ _ _ rfl ⟨rfl,?_⟩)
    exact⟨[.bool false],by simp,4,by simp[eN]⟩
   refine Js hK5 ?_
   obtain rfl:=oi H
   refine qI hK3 ?_
   exact R1 (M1+17)
  cases oj H
  refine zJ (hO3 _ _ _ _ rfl ⟨rfl,?_⟩)
  refine kr ?_
  exact R1 (M1+4)
 intro x a J hx
 rcases e1 with⟨⟩|r0
 .obtain⟨rfl,b,U,hr,M2,fM2_0,rfl,rfl⟩:=hx
  (try dsimp only at H)
  show K2 _ _
  refine hK2 _ _ (zD hr ?_)
  refine Rc.mk ?_
  refine qA [4] ?_
  cases oj H;exact W4
 obtain⟨rfl,hx2⟩:=hx
 (try dsimp only at H)
 cases oj H;first|exact hx2|(simp only[List.set_set] at hx2 ⊢;exact hx2)

theorem c90 {p0:List Bool}{p1:List Bool}{r:Bool}(H:pP p0 p1=some r):APure Tryz.prog G 90 [.fsl (eL rB p0),.fsl (eL rB p1)] (.bool r):=by
 refine qK func90 ntmps90 results90 fun N0=>?_
 unfold pP at H
 refine qA [0,1] ?_
 refine Wsq [0,1] fun K1 hK1=>?_
 refine qA [0,1,10] ?_
 refine Ci H ?_ ?_<;>intro H
 .refine qA [4] ?_
  cases oj H;exact W4
 refine Js hK1 ?_
 refine Wsq [] fun K2 hK2=>?_
 refine qA [0,1,5] ?_
 refine Wb ?_
 obtain⟨e1,hse1,H⟩:=bE H
 refine zP [0,1,5] (fun s a J=>∃M1:Nat,N0<=M1/\a=[(0,.fsl (eL rB p0)),(1,.fsl (eL rB p1)),(5,.int .i64 s)]/\J=hp E0 [] M1) (fun e x a J=>match e with|.inl s=>x=.exit 0/\Rc G 26 N0 (fun a J=>∃M2:Nat,N0<=M2/\a=[]/\J=hp E0 [] M2) (AAct.keep a []) J|.inr s=>x=.ret/\∃vs,resA T J a [.tmp 4]=some vs/\∃d,thawA (fun _=>true) J d (tupA vs)=.bool s) hse1 ?_ ?_ ?_
 .refine kp [0,1,5] ?_
  exact R1 (N0+7)
 .clear H hse1
  rintro s1 fl a J H ⟨M1,fM1_0,rfl,rfl⟩ K3 O3 hK3 hO3
  unfold wK at H;dsimp only at H
  refine Wsq [0,1,5] fun K4 hK4=>?_
  refine qA [0,1,5,14] ?_
  refine Ci H ?_ ?_<;>intro H
  .refine Js hK4 ?_
   refine Wsq [0,1,5] fun K5 hK5=>?_
   refine Wb ?_
   obtain⟨v2,hv2,H⟩:=bE H
   obtain⟨v3,hv3,H⟩:=bE H
   refine Sd tok tokM [] [] [0,1,2,3,4,5,6,7,8] [0,1,5,25] (by
    intro K k
    simp only[pickL,zF,zG]
    refine m2 (ix39 hv2) (ix39 hv3) ?_
    exact k) ?_
   refine Ci H ?_ ?_<;>intro H
   .refine qA [4] ?_
    cases oj H
    refine Kp [4] ?_
    refine Wr (hO3 _ _ _ _ rfl ⟨rfl,?_⟩)
    exact⟨[.bool false],by simp,4,by simp[eN]⟩
   refine Js hK5 ?_
   obtain rfl:=oi H
   refine qI hK3 ?_
   exact R1 (M1+16)
  cases oj H
  refine zJ (hO3 _ _ _ _ rfl ⟨rfl,?_⟩)
  refine kr ?_
  exact R1 (M1+4)
 intro x a J hx
 rcases e1 with⟨⟩|r0
 .obtain⟨rfl,b,U,hr,M2,fM2_0,rfl,rfl⟩:=hx
  (try dsimp only at H)
  show K2 _ _
  refine hK2 _ _ (zD hr ?_)
  refine Rc.mk ?_
  refine qA [4] ?_
  cases oj H;exact W4
 obtain⟨rfl,hx2⟩:=hx
 (try dsimp only at H)
 cases oj H;first|exact hx2|(simp only[List.set_set] at hx2 ⊢;exact hx2)

theorem c64 {p0:gOutcome}{p1:gOutcome}{r:Bool}(H:uG p0 p1=some r):APure Tryz.prog G 64 [.agg [.fsl (eL rI p0.Out),.fsl (eL rL_I p0.Items),.fsl (eL rB p0.Ended),.bool p0.Rest],.agg [.fsl (eL rI p1.Out),.fsl (eL rL_I p1.Items),.fsl (eL rB p1.Ended),.bool p1.Rest]] (.bool r):=by
 refine qK func64 ntmps64 results64 fun N0=>?_
 unfold uG at H
 refine S0 tok [0,1] [2,3] ?_
 obtain⟨r1,hr1,H⟩:=bE H
 obtain⟨g3,hg3,H⟩:=bE H
 obtain⟨g5,hg5,H⟩:=bE H
 obtain⟨g6,hg6,H⟩:=bE H
 refine qF tok [4] ([(4,.bool g6)]) (hp E0 [] (N0+30)) (by
  intro K k
  refine m0 ?_
  refine(c39 hr1).app (m0 ?_)
  cases hbg3:r1
  .cases oj (ifF hbg3 hg3)
   cases oj (ifF rfl hg5)
   cases oj (ifF rfl hg6)
   exact m1 hbg3 k
  replace hg3:=ifT hbg3 hg3
  obtain⟨r2,hr2,hg3⟩:=bE hg3
  obtain rfl:=oi hg3
  refine m1 hbg3 ?_
  refine(c89 hr2).app (m1 hbg3 ?_)
  cases hbg5:r2
  .cases oj (ifF hbg5 hg5)
   cases oj (ifF rfl hg6)
   exact m2 hbg3 hbg5 k
  replace hg5:=ifT hbg5 hg5
  obtain⟨r4,hr4,hg5⟩:=bE hg5
  obtain rfl:=oi hg5
  refine m2 hbg3 hbg5 ?_
  refine(c90 hr4).app (m2 hbg3 hbg5 ?_)
  cases hbg6:r4
  .cases oj (ifF hbg6 hg6)
   exact m1 (j hbg3 (j hbg5 hbg6)) k
  cases oj (ifT hbg6 hg6)
  refine m1 (j hbg3 (j hbg5 hbg6)) ?_
  exact k) ?_
 cases oj H;exact W4

theorem c26 {p0:List Int}{p1:(List (List gQuad))}{p2:(List (List gQuad))}{p3:Int}{r:Bool}(H:fZ p0 p1 p2 p3=some r):APure Tryz.prog G 26 [.fsl (eL rI p0),.fsl (eL zA p1),.fsl (eL zA p2),.int .i64 p3] (.bool r):=by
 refine qK func26 ntmps26 results26 fun N0=>?_
 unfold fZ at H
 refine qA [0,1,2,3] ?_
 obtain⟨r1,hr1,H⟩:=bE H
 obtain⟨r2,hr2,H⟩:=bE H
 refine Sx tok [] [0,1,2,3,9] (by intro K k;(repeat first|simp -dsimp -implicitDefEqProofs|refine(c17 hr1).app ?_|refine(c63 hr2).app ?_);exact k) ?_
 refine Wsq [0,2,3,9] fun K1 hK1=>?_
 refine qA [0,1,2,3,9,17] ?_
 refine Ci H ?_ ?_<;>intro H
 .refine qA [8] ?_
  cases oj H;exact W4
 refine Js hK1 ?_
 obtain⟨r3,hr3,H⟩:=bE H
 obtain⟨r4,hr4,H⟩:=bE H
 obtain⟨r5,hr5,H⟩:=bE H
 refine Sd tok tokM [] [5] [0,1,2,3,4,5,6,7] [8] (by
  intro K k
  simp only[pickL,zF,zG]
  repeat first|simp -dsimp -implicitDefEqProofs|refine Pc.mk (c17 hr3) ?_|refine Pc.mk (c63 hr4) ?_|refine Pc.mk (c64 hr5) ?_
  exact k) ?_
 cases oj H;exact W4

theorem c7 {p0:List Int}{r:Bool}(H:hO p0=some r):APure Tryz.prog G 7 [.fsl (eL rU8 p0)] (.bool r):=by
 refine qK func7 ntmps7 results7 fun N0=>?_
 unfold hO at H
 refine qA [0] ?_
 refine Wsq [0] fun K1 hK1=>?_
 refine qA [0,15] ?_
 refine Ci H ?_ ?_<;>intro H
 .refine qA [2] ?_
  cases oj H;exact W4
 refine Js hK1 ?_
 obtain⟨r1,hr1,H⟩:=bE H
 refine qD [3,4] (c12 hr1) ?_
 obtain⟨r2,hr2,H⟩:=bE H
 refine qD [3,4,5,6] (c13 hr2) ?_
 obtain⟨r3,hr3,H⟩:=bE H
 refine qD [3,4,5,6,7,8] (c14 hr3) ?_
 refine Wsq [3,4] fun K2 hK2=>?_
 obtain⟨g5,hg5,H⟩:=bE H
 obtain⟨g6,hg6,H⟩:=bE H
 refine qF tok [3,4,5,6,7,8,45] ([(3,.fsl (eL rI r1.1)),(4,.fsl (eL zA r1.2)),(5,.ptr (N0+17) 0 0),(6,.bool r2.2),(7,.ptr (N0+26) 0 0),(8,.bool r3.2),(45,.bool g6)]) (hp E0 [(N0+17,some ⟨30,6,[[.fsl (eL zA r2.1.Codes),.fsl (eL zB r2.1.Threads),.fsl (eL rBox r2.1.Boxes),.int .i64 r2.1.Turn,.int .i64 r2.1.Idle,.fsl (eL rI r2.1.Out)]]⟩),(N0+26,some ⟨30,6,[[.fsl (eL zA r3.1.Codes),.fsl (eL zB r3.1.Threads),.fsl (eL rBox r3.1.Boxes),.int .i64 r3.1.Turn,.int .i64 r3.1.Idle,.fsl (eL rI r3.1.Out)]]⟩)] (N0+42)) (by
  intro K k
  refine m0 ?_
  cases hbg5:bneb r2.2 r3.2
  .replace hg5:=ifF hbg5 hg5
   obtain⟨r4,hr4,hg5⟩:=bE hg5
   obtain rfl:=oi hg5
   refine m1 hbg5 ?_
   refine(c15 hr4).app (m1 hbg5 ?_)
   cases hbg6:(bnot r4)
   .cases oj (ifF hbg6 hg6)
    exact m2 hbg5 hbg6 k
   cases oj (ifT hbg6 hg6)
   exact m2 hbg5 hbg6 k
  cases oj (ifT hbg5 hg5)
  cases oj (ifT rfl hg6)
  refine m1 hbg5 ?_
  exact k) ?_
 refine Ci H ?_ ?_<;>intro H
 .obtain⟨g8,hg8,H⟩:=bE H
  refine qF tok [2] ([(2,.bool g8)]) (hp E0 [(N0+17,some ⟨30,6,[[.fsl (eL zA r2.1.Codes),.fsl (eL zB r2.1.Threads),.fsl (eL rBox r2.1.Boxes),.int .i64 r2.1.Turn,.int .i64 r2.1.Idle,.fsl (eL rI r2.1.Out)]]⟩),(N0+26,some ⟨30,6,[[.fsl (eL zA r3.1.Codes),.fsl (eL zB r3.1.Threads),.fsl (eL rBox r3.1.Boxes),.int .i64 r3.1.Turn,.int .i64 r3.1.Idle,.fsl (eL rI r3.1.Out)]]⟩)] (N0+51)) (by
   intro K k
   refine m0 ?_
   cases hbg8:beqb r2.2 r3.2
   .cases oj (ifF hbg8 hg8)
    exact m1 hbg8 k
   replace hg8:=ifT hbg8 hg8
   obtain⟨r7,hr7,hg8⟩:=bE hg8
   cases oj hg8
   refine m1 hbg8 ?_
   refine(c15 hr7).app (m1 hbg8 ?_)
   exact k) ?_
  cases oj H;exact W4
 refine Js hK2 ?_
 have q0:∀J i,bsA T 24 true i 0 [] J=some (.esl,J):=fun _ _=>rfl
 refine Sy tok [0] [3,4,9] q0 ?_
 refine Wsq [3,4,9] fun K3 hK3=>?_
 refine qA [3,4,9,10] ?_
 refine Wb ?_
 obtain⟨e1,hse1,H⟩:=bE H
 refine zP [3,4,9,10] (fun s a J=>∃M1 o1:Nat,N0<=M1/\N0<=o1/\o1<M1/\a=[(3,.fsl (eL rI r1.1)),(4,.fsl (eL zA r1.2)),(9,.sl o1 0 s.2.length),(10,.int .i64 s.1)]/\J=hp E0 [(o1,some ⟨34,1,eL zA s.2⟩)] M1) (fun e x a J=>match e with|.inl s=>x=.exit 0/\Rc G 79 N0 (fun a J=>∃M2 o2:Nat,N0<=M2/\N0<=o2/\o2<M2/\a=[(3,.fsl (eL rI r1.1)),(4,.fsl (eL zA r1.2)),(9,.sl o2 0 s.length)]/\J=hp E0 [(o2,some ⟨34,1,eL zA s⟩)] M2) (AAct.keep a [3,4,9]) J|.inr s=>x=.ret/\∃vs,resA T J a [.tmp 2]=some vs/\∃d,thawA (fun _=>true) J d (tupA vs)=.bool s) hse1 ?_ ?_ ?_
 .refine kp [3,4,9,10] ?_
  refine gNilS zD 9 34 1 [(N0+17,some ⟨30,6,[[.fsl (eL zA r2.1.Codes),.fsl (eL zB r2.1.Threads),.fsl (eL rBox r2.1.Boxes),.int .i64 r2.1.Turn,.int .i64 r2.1.Idle,.fsl (eL rI r2.1.Out)]]⟩),(N0+26,some ⟨30,6,[[.fsl (eL zA r3.1.Codes),.fsl (eL zB r3.1.Threads),.fsl (eL rBox r3.1.Boxes),.int .i64 r3.1.Turn,.int .i64 r3.1.Idle,.fsl (eL rI r3.1.Out)]]⟩),(N0+45,some ⟨34,1,eL zA ([]:List (List gQuad))⟩)] [(3,.fsl (eL rI r1.1)),(4,.fsl (eL zA r1.2)),(9,.sl (N0+45) 0 ([]:List (List gQuad)).length),(10,.int .i64 0)] (by simp(disch:=omega)) (by simp(disch:=omega) [eN]) [3,4,9,10] rfl ?_
  exact Rc.fin (AHeap.Sub.trans (AHeap.Sub.trans (zI (AHeap.Sub.refl _)) (zR rfl (by simp;try omega))) (zR rfl (by simp;try omega))) ⟨N0+46,(N0+45),(by omega),(by omega),(by omega),rfl,rfl⟩
 .clear H hse1
  rintro⟨s9,s10⟩ fl a J H ⟨M1,o1,fM1_0,fM1_1,fM1_2,rfl,rfl⟩ K4 O4 hK4 hO4
  unfold cE at H;dsimp only at H
  refine Wsq [3,4,9,10] fun K5 hK5=>?_
  refine qA [3,4,9,10,58] ?_
  refine Ci H ?_ ?_<;>intro H
  .refine Js hK5 ?_
   refine Wsq [3,4,9,10] fun K6 hK6=>?_
   refine Wb ?_
   obtain⟨v12,hv12,H⟩:=bE H
   obtain⟨r13,hr13,H⟩:=bE H
   refine qE [3,4,9,10,11,12] (ix24 hv12) (c25 hr13) ?_
   refine Wsq [3,4,9,10,11] fun K7 hK7=>?_
   refine qA [3,4,9,10,11,70] ?_
   refine Ci H ?_ ?_<;>intro H
   .refine qA [2] ?_
    cases oj H
    refine Kp [2] ?_
    refine Wr (hO4 _ _ _ _ rfl ⟨rfl,?_⟩)
    exact⟨[.bool false],by simp,4,by simp[eN]⟩
   refine Js hK7 ?_
   obtain⟨l14,hl14,H⟩:=bE H
   have q1:∀J i,bsA T 24 true i 1 [(0,.fsl (eL rQuad r13.1))] J=some (.fsl (eL zA ([r13.1]:List (List gQuad))),J):=fun _ _=>rfl
   have e0:=nQ o1 (M1+19)
   refine Rb tok [2] (j e0 (j q1 (app24 hl14))) hK6 ?_
   obtain rfl:=oi H
   refine qI hK4 ?_
   exact R2 (M1+24) (M1+19)
  obtain rfl:=oi H
  refine zJ (hO4 _ _ _ _ rfl ⟨rfl,?_⟩)
  refine kr ?_
  exact R2 (M1+4) o1
 intro x a J hx
 rcases e1 with y11|r0
 .obtain⟨rfl,b,U,hr,M2,o2,fM2_0,fM2_1,fM2_2,rfl,rfl⟩:=hx
  (try dsimp only at H)
  show K3 _ _
  refine hK3 _ _ (zD hr ?_)
  refine Rc.mk ?_
  obtain⟨r15,hr15,H⟩:=bE H
  refine kT tok [] [2] (fun a J=>a=[(2,.bool r15)]/\J=hp E0 [(o2,some ⟨34,1,eL zA y11⟩)] (M2+5)) (fun K hK=>?_) ?_
  .skip
   refine m0 ?_
   refine(borrow 8 (c26 hr15) (by simp) rfl).mono ?_;rintro _ _ ⟨rfl,rfl⟩;try simp -dsimp -implicitDefEqProofs
   exact hK _ _ ⟨rfl,rfl⟩
  rintro a J ⟨rfl,rfl⟩
  cases oj H;exact W4
 obtain⟨rfl,hx2⟩:=hx
 (try dsimp only at H)
 cases oj H;first|exact hx2|(simp only[List.set_set] at hx2 ⊢;exact hx2)
end Go.Proofs.YtolmjhgondilhaaGreat
