/- The contracts of functions of the program (CXDeadRun): each computes what its mirror computes. No conditions. -/
import Derived.Test.YtolmjhgondilhaaGreatNCNDeadRun
import Derived.Test.YtolmjhgondilhaaGreatNCT3
set_option linter.unusedSimpArgs false
set_option linter.unusedVariables false
set_option maxRecDepth 20000
set_option maxHeartbeats 4000000
namespace Go.Proofs.YtolmjhgondilhaaGreat
open Go Go.Abs Go.RowKit Tryz

theorem c42_o {p0:gL6Rd}{r:(List (List gQuad))×gL6Rd}(H:xE p0=some r){J:AHeap}{w0:Nat}{W0:List (List AV)}{r0_:Nat}(q0:J.objs w0=some ⟨105,2,W0⟩)(g0:W0[r0_]? =some [.fsl (eL rU8 p0.b),.int .i64 p0.p]):ACalls Tryz.prog G 42 [.ptr w0 r0_ 0] J (fun v J'=>∃M n0:Nat,J.next<=M/\J.next<=n0/\n0<M/\v=.sl n0 0 r.1.length/\J'=hp J.objs [(w0,some ⟨105,2,W0.set r0_ [.fsl (eL rU8 r.2.b),.int .i64 r.2.p]⟩),(n0,some ⟨34,1,eL zA r.1⟩)] M):=by
 refine fr2 ([(w0,some ⟨105,2,W0⟩)]) (by simp[q0]) (fun hlt=>?_) ⟨_,func42,rfl,rfl⟩
 generalize J.next=N0 at hlt ⊢
 have lw0:w0<N0:=hlt _ (.head _) rfl
 have gs_W0:∀x,(W0.set r0_ x)[r0_]? =some x:=gsetW g0
 rw[<- zY g0]
 refine fnK tok func42 ntmps42 results42 ?_
 simp only[argsA,Nat.reduceAdd,hpN]
 unfold xE at H
 refine qB [0] gs_W0 ?_
 have q0:∀J i,bsA T 24 true i 0 [] J=some (.esl,J):=fun _ _=>rfl
 refine Sz tok [0] [0,3] gs_W0 q0 ?_
 obtain⟨r1,hr1,H⟩:=bE H
 refine Sm tok [] [0,3,4] (N0+7) (by
  intro K k
  refine m1 gs_W0 ?_
  refine mc gs_W0 (c41 (r0_:=r0_) (H:=hr1)) fun M1 fM1_0=>?_
  refine m1 (j gs_W0 (j @hoS @hoN)) ?_
  exact k M1 (by omega)) fun M1 fM1_0=>?_
 refine Wsq [3] fun K1 hK1=>?_
 refine qB [0,3,4,5] gs_W0 ?_
 refine Wb ?_
 obtain⟨e1,hse1,H⟩:=bE H
 refine zP [0,3,4,5] (fun s a J=>∃M2 o1:Nat,N0<=M2/\N0<=o1/\o1<M2/\a=[(0,.ptr w0 r0_ 0),(3,.sl o1 0 s.2.2.length),(4,.int .i64 (iadd .i64 1 r1.1)),(5,.int .i64 s.1)]/\J=hp E0 [(w0,some ⟨105,2,W0.set r0_ [.fsl (eL rU8 s.2.1.b),.int .i64 s.2.1.p]⟩),(o1,some ⟨34,1,eL zA s.2.2⟩)] M2) (fun s x a J=>x=.exit 0/\Rc G 21 N0 (fun a J=>∃M3 o2:Nat,N0<=M3/\N0<=o2/\o2<M3/\a=[(3,.sl o2 0 s.2.length)]/\J=hp E0 [(w0,some ⟨105,2,W0.set r0_ [.fsl (eL rU8 s.1.b),.int .i64 s.1.p]⟩),(o2,some ⟨34,1,eL zA s.2⟩)] M3) (AAct.keep a [3]) J) hse1 ?_ ?_ ?_
 .refine kp [0,3,4,5] ?_
  refine gNilS zD 3 34 1 [(w0,some ⟨105,2,W0.set r0_ [.fsl (eL rU8 r1.2.b),.int .i64 r1.2.p]⟩),(M1+1,some ⟨34,1,eL zA ([]:List (List gQuad))⟩)] [(0,.ptr w0 r0_ 0),(3,.sl (M1+1) 0 ([]:List (List gQuad)).length),(4,.int .i64 (iadd .i64 1 r1.1)),(5,.int .i64 0)] (by simp(disch:=omega)) (by simp(disch:=omega) [eN]) [0,3,4,5] rfl ?_
  exact R2 (M1+2) (M1+1)
 .clear H hse1
  rintro⟨s2,s3,s4⟩ fl a J H ⟨M2,o1,fM2_0,fM2_1,fM2_2,rfl,rfl⟩ K2 O2 hK2 hO2
  unfold vL at H;dsimp only at H
  refine Wsq [0,3,4,5] fun K3 hK3=>?_
  have e0:=nQ w0 o1
  refine qC [0,3,4,5,12] e0 gs_W0 ?_
  refine Ci H ?_ ?_<;>intro H
  .refine Js hK3 ?_
   refine Wsq [0,3,4,5] fun K4 hK4=>?_
   refine Wb ?_
   obtain⟨r7,hr7,H⟩:=bE H
   obtain⟨l8,hl8,H⟩:=bE H
   have q1:∀J i,bsA T 24 true i 1 [(0,.fsl (eL rQuad r7.1))] J=some (.fsl (eL zA ([r7.1]:List (List gQuad))),J):=fun _ _=>rfl
   refine uT tok [3] [0,3,4,5] (fun a J=>∃M4:Nat,M2+9<=M4/\a=[(0,.ptr w0 r0_ 0),(3,.sl (M2+7) 0 l8.length),(4,.int .i64 (iadd .i64 1 r1.1)),(5,.int .i64 s2)]/\J=hp E0 [(w0,some ⟨105,2,W0.set r0_ [.fsl (eL rU8 r7.2.b),.int .i64 r7.2.p]⟩),(M2+7,some ⟨34,1,eL zA l8⟩)] M4) (fun K hK=>?_) ?_
   .skip
    have e0:=nQ w0 o1
    have e1:=nQ w0 (M2+7)
    have e2:=nQ o1 (M2+7)
    refine m1 (j e0 (j e1 (j e2 (j gs_W0 (j q1 (app24 hl8)))))) ?_
    refine mc (j e0 (j e1 (j e2 (j gs_W0 (j q1 (app24 hl8)))))) (c75 (r0_:=r0_) (H:=hr7)) fun M4 fM4_0=>?_
    refine m1 (j e0 (j e1 (j e2 (j gs_W0 (j q1 (j (app24 hl8) (j @hoS @hoN))))))) ?_
    exact hK _ _ ⟨M4,(by omega),rfl,rfl⟩
   rintro a J ⟨M4,fM4_0,ha,rfl⟩
   refine hK4 _ _ ?_;rw[ha]
   refine Rc.mk ?_
   have e0:=nQ w0 (M2+7)
   obtain rfl:=oi H
   refine qJ (j e0 gs_W0) hK2 ?_
   exact R2 (M4+3) (M2+7)
  cases oj H
  refine zJ (hO2 _ _ _ _ rfl ⟨rfl,?_⟩)
  refine kr ?_
  exact R2 (M2+3) o1
 intro x a J hx
 obtain⟨y5,y6⟩:=e1
 obtain⟨rfl,b,U,hr,M3,o2,fM3_0,fM3_1,fM3_2,rfl,rfl⟩:=hx
 (try dsimp only at H)
 show K1 _ _
 refine hK1 _ _ (zD hr ?_)
 refine Rc.mk ?_
 have e0:=nQ w0 o2
 refine qC [2] e0 gs_W0 ?_
 obtain rfl:=oi H
 refine Kp [2] ?_
 have z0:=nQ w0 o2
 exact V2 (j z0 gs_W0) (M3+2) o2

theorem c12 {p0:List Int}{r:(List Int)×(List (List gQuad))}(H:yE p0=some r):APure Tryz.prog G 12 [.fsl (eL rU8 p0)] (.tup [.fsl (eL rI r.1),.fsl (eL zA r.2)]):=by
 refine qK func12 ntmps12 results12 fun N0=>?_
 unfold yE at H
 refine qA [0] ?_
 obtain⟨r1,hr1,H⟩:=bE H
 refine kT tok [] [4] (fun a J=>∃M1 o1:Nat,N0+5<=M1/\N0+5<=o1/\o1<M1/\a=[(4,.ptr o1 0 0)]/\J=hp E0 [(o1,some ⟨105,2,[[.fsl (eL rU8 r1.b),.int .i64 r1.p]]⟩)] M1) (fun K hK=>?_) ?_
 .skip
  refine m0 ?_
  refine mo (c40_o (H:=hr1)) fun M1 o1 fM1_0 fM1_1 fM1_2=>?_
  refine m2 @hoS @hoN ?_
  exact hK _ _ ⟨M1,o1,(by omega),(by omega),(by omega),rfl,rfl⟩
 rintro a J ⟨M1,o1,fM1_0,fM1_1,fM1_2,rfl,rfl⟩
 obtain⟨r2,hr2,H⟩:=bE H
 obtain⟨r3,hr3,H⟩:=bE H
 obtain⟨l4,hl4,H⟩:=bE H
 have q0:∀J i,bsA T 23 false i 2 [(0,.int .i64 (iadd .i64 1 r2.1)),(1,.int .i64 (iadd .i64 1 r3.1))] J=some (.sl i 0 (List.length l4),J.put i ⟨3,1,eL rI l4⟩):=by rw[<- Option.some.inj hl4];exact fun _ _=>rfl
 refine Sm tok [] [4,5] (M1+8) (by
  intro K k
  have e0:=nQ o1 (M1+6)
  refine m2 e0 q0 ?_
  refine mc (j e0 q0) (c41 (r0_:=0) (H:=hr2)) fun M2 fM2_0=>?_
  refine m1 (j e0 (j q0 (j @hoS @hoN))) ?_
  refine mc (j e0 (j q0 (j @hoS @hoN))) (c41 (r0_:=0) (H:=hr3)) fun M3 fM3_0=>?_
  refine m1 (j e0 (j q0 (j @hoS @hoN))) ?_
  exact k M3 (by omega)) fun M3 fM3_0=>?_
 obtain⟨r5,hr5,H⟩:=bE H
 refine kT tok [] [4,5,6] (fun a J=>∃M4 o2:Nat,M3+3<=M4/\M3+3<=o2/\o2<M4/\a=[(4,.ptr o1 0 0),(5,.sl (M1+6) 0 l4.length),(6,.sl o2 0 r5.1.length)]/\J=hp E0 [(o1,some ⟨105,2,[[.fsl (eL rU8 r5.2.b),.int .i64 r5.2.p]]⟩),(M1+6,some ⟨3,1,eL rI l4⟩),(o2,some ⟨34,1,eL zA r5.1⟩)] M4) (fun K hK=>?_) ?_
 .skip
  have e0:=nQ o1 (M1+6)
  refine m1 e0 ?_
  refine(c42_o (W0:=[[.fsl (eL rU8 r3.2.b),.int .i64 r3.2.p]]) (r0_:=0) (H:=hr5) (by simp[e0]) (by simp[e0])).mono ?_;rintro _ _ ⟨M4,o2,fM4_0,fM4_1,fM4_2,rfl,rfl⟩;simp only[hpN] at fM4_0 fM4_1 fM4_2
  have eM4_0:=nQ o2 o1
  have eM4_1:=nQ o2 (M1+6)
  refine m1 (j e0 (j eM4_0 (j eM4_1 (j @hoS @hoN)))) ?_
  exact hK _ _ ⟨M4,o2,(by omega),(by omega),(by omega),rfl,rfl⟩
 rintro a J ⟨M4,o2,fM4_0,fM4_1,fM4_2,rfl,rfl⟩
 refine Wsq [5,6] fun K1 hK1=>?_
 obtain⟨r6,hr6,H⟩:=bE H
 refine Sm tok [] [5,6,19] (M4+2) (by
  intro K k
  have e0:=nQ o1 (M1+6)
  have e1:=nQ o1 o2
  have e2:=nQ (M1+6) o2
  refine m1 (j e0 (j e1 e2)) ?_
  refine mc (j e0 (j e1 e2)) (c41 (r0_:=0) (H:=hr6)) fun M5 fM5_0=>?_
  refine m1 (j e0 (j e1 (j e2 (j @hoS @hoN)))) ?_
  exact k M5 (by omega)) fun M5 fM5_0=>?_
 refine Wb ?_
 have e0:=nQ o1 (M1+6)
 have e1:=nQ o1 o2
 have e2:=nQ (M1+6) o2
 refine qB [5,6,19,20] (j e0 (j e1 e2)) ?_
 refine Ci H ?_ ?_<;>intro H
 .have q1:∀J i,bsA T 23 true i 0 [] J=some (.esl,J):=fun _ _=>rfl
  have e0:=nQ o1 (M1+6)
  have e1:=nQ o1 o2
  have e2:=nQ (M1+6) o2
  refine Rb tok [0] (j e0 (j e1 (j e2 q1))) hK1 ?_
  have e0:=nQ o1 (M1+6)
  have e1:=nQ o1 o2
  have e2:=nQ (M1+6) o2
  refine qB [2,3] (j e0 (j e1 e2)) ?_
  obtain rfl:=oi H
  refine Kp [2,3] ?_
  have z0:=nQ o1 (M1+6)
  have z1:=nQ o1 o2
  have z2:=nQ (M1+6) o2
  refine Wr ?_
  exact⟨[.esl,.sl o2 0 r5.1.length],by simp[z0,z1,z2],4,by simp[eN,z0,z1,z2]⟩
 have e0:=nQ o1 (M1+6)
 have e1:=nQ o1 o2
 have e2:=nQ (M1+6) o2
 refine qB [5,6,19,23] (j e0 (j e1 e2)) ?_
 refine Ci H ?_ ?_<;>intro H
 .obtain⟨v7,hv7,H⟩:=bE H
  obtain⟨l8,hl8,H⟩:=bE H
  have e0:=nQ o1 (M1+6)
  have e1:=nQ o1 o2
  have e2:=nQ (M1+6) o2
  refine Rt tok [] [5,6] (by intro K k;simp -dsimp -implicitDefEqProofs [e0,e1,e2,ixo23 hv7,(show _[0]? =some v7 from(zL hv7).2.2),(show List.set _ 0 _=l8 from(setx_iff.1 hl8).2.symm)];exact k) fun a ha=>?_
  (try rw[<- zK hl8] at ha);(try rw[<- zK hl8])
  refine hK1 _ _ ?_;rw[ha]
  refine Rc.mk ?_
  have e0:=nQ o1 (M1+6)
  have e1:=nQ o1 o2
  have e2:=nQ (M1+6) o2
  refine qB [2,3] (j e0 (j e1 e2)) ?_
  obtain rfl:=oi H
  refine Kp [2,3] ?_
  have z3:=nQ o1 (M1+6)
  have z4:=nQ o1 o2
  have z5:=nQ (M1+6) o2
  refine Wr ?_
  exact⟨[.sl (M1+6) 0 l8.length,.sl o2 0 r5.1.length],by simp[z3,z4,z5],4,by simp[eN,z3,z4,z5]⟩
 have e0:=nQ o1 (M1+6)
 have e1:=nQ o1 o2
 have e2:=nQ (M1+6) o2
 refine qB [5,6,27] (j e0 (j e1 e2)) ?_
 refine Ci H ?_ ?_<;>intro H
 .obtain⟨l9,hl9,H⟩:=bE H
  have q2:∀J i,bsA T 34 true i 0 [] J=some (.esl,J):=fun _ _=>rfl
  have q3:∀  J i,bsA T 24 true i 1 [(0,.esl)] J=some (.fsl [[.esl]],J):=fun  _ _=>rfl
  have e0:=nQ o1 (M1+6)
  have e1:=nQ o1 o2
  have e2:=nQ o1 (M5+9)
  have e3:=nQ (M1+6) o2
  have e4:=nQ (M1+6) (M5+9)
  have e5:=nQ M1 (M5+3)
  have e6:=nQ o2 (M5+9)
  refine Rb tok [1,2] (j e0 (j e1 (j e2 (j e3 (j e4 (j e5 (j e6 (j q2 (j q3 (apr24 zA hl9)))))))))) hK1 ?_
  refine gWkC Wre (o:=(M5+9)) (ob:=⟨34,1,eL zA r5.1++[[.esl]]⟩) (row:=[.esl]) (r:=r5.1.length) (i:=0) [(o1,some ⟨105,2,[[.fsl (eL rU8 r6.2.b),.int .i64 r6.2.p]]⟩),(M1+6,some ⟨3,1,eL rI l4⟩),(M5+9,some ⟨34,1,eL zA r5.1++[[.fsl []]]⟩)] (by simp(disch:=omega)) (app_get _ _ _) rfl (by simp(disch:=omega)) (by simp(disch:=omega) [eN,gH]) ?_
  rw[show hp E0 [(o1,some ⟨105,2,[[.fsl (eL rU8 r6.2.b),.int .i64 r6.2.p]]⟩),(M1+6,some ⟨3,1,eL rI l4⟩),(M5+9,some ⟨34,1,eL zA r5.1++[[.fsl []]]⟩)] (M5+11)=hp E0 [(o1,some ⟨105,2,[[.fsl (eL rU8 r6.2.b),.int .i64 r6.2.p]]⟩),(M1+6,some ⟨3,1,eL rI l4⟩),(M5+9,some ⟨34,1,eL zA l9⟩)] (M5+11) from by rw[<- app_enc (f:=zA) (c:=[.fsl []]) hl9 rfl]]
  have e0:=nQ o1 (M1+6)
  have e1:=nQ o1 (M5+9)
  have e2:=nQ (M1+6) (M5+9)
  have e3:=nQ M1 (M5+3)
  refine qB [2,3] (j e0 (j e1 (j e2 e3))) ?_
  obtain rfl:=oi H
  refine Kp [2,3] ?_
  have z6:=nQ o1 (M1+6)
  have z7:=nQ o1 (M5+9)
  have z8:=nQ (M1+6) (M5+9)
  have z9:=nQ M1 (M5+3)
  refine Wr ?_
  exact⟨[.sl (M1+6) 0 l4.length,.sl (M5+9) 0 l9.length],by simp[z6,z7,z8,z9],4,by simp[eN,z6,z7,z8,z9]⟩
 refine Js hK1 ?_
 have e0:=nQ o1 (M1+6)
 have e1:=nQ o1 o2
 have e2:=nQ (M1+6) o2
 refine qB [2,3] (j e0 (j e1 e2)) ?_
 obtain rfl:=oi H
 refine Kp [2,3] ?_
 have z10:=nQ o1 (M1+6)
 have z11:=nQ o1 o2
 have z12:=nQ (M1+6) o2
 refine Wr ?_
 exact⟨[.sl (M1+6) 0 l4.length,.sl o2 0 r5.1.length],by simp[z10,z11,z12],4,by simp[eN,z10,z11,z12]⟩

theorem c44 {p0:List Int}{r:List gBox}(H:tE p0=some r):APure Tryz.prog G 44 [.fsl (eL rI p0)] (.fsl (eL rBox r)):=by
 refine qK func44 ntmps44 results44 fun N0=>?_
 unfold tE at H
 refine qA [0] ?_
 refine qA [0,3] ?_
 refine Wsq [3] fun K1 hK1=>?_
 refine qA [3,6,7,8] ?_
 refine Wb ?_
 obtain⟨e1,hse1,H⟩:=bE H
 refine zP [3,6,7,8] (fun s a J=>∃M1 o1:Nat,N0<=M1/\N0<=o1/\o1<M1/\a=[(3,.sl o1 0 s.2.length),(6,.fsl (eL rI p0)),(7,.int .i64 (ilen p0)),(8,.int .i64 s.1)]/\J=hp E0 [(o1,some ⟨103,2,eL rBox s.2⟩)] M1) (fun s x a J=>x=.exit 0/\Rc G 19 N0 (fun a J=>∃M2 o2:Nat,N0<=M2/\N0<=o2/\o2<M2/\a=[(3,.sl o2 0 s.length)]/\J=hp E0 [(o2,some ⟨103,2,eL rBox s⟩)] M2) (AAct.keep a [3]) J) hse1 ?_ ?_ ?_
 .refine kp [3,6,7,8] ?_
  refine gNilS zD 3 103 2 [(N0+5,some ⟨103,2,eL rBox ([]:List gBox)⟩)] [(3,.sl (N0+5) 0 ([]:List gBox).length),(6,.fsl (eL rI p0)),(7,.int .i64 (ilen p0)),(8,.int .i64 0)] (by simp(disch:=omega)) (by simp(disch:=omega) [eN]) [3,6,7,8] rfl ?_
  exact R2 (N0+6) (N0+5)
 .clear H hse1
  rintro⟨s1,s2⟩ fl a J H ⟨M1,o1,fM1_0,fM1_1,fM1_2,rfl,rfl⟩ K2 O2 hK2 hO2
  unfold xX at H;dsimp only at H
  refine qA [3,6,7,8,9] ?_
  refine Wsq [3,6,7,8] fun K3 hK3=>?_
  refine Ci H ?_ ?_<;>intro H
  .refine Js hK3 ?_
   refine Wsq [3,6,7,8] fun K4 hK4=>?_
   refine Wb ?_
   obtain⟨v4,hv4,H⟩:=bE H
   refine qB [3,5,6,7,8] (ix23 hv4) ?_
   obtain⟨l5,hl5,H⟩:=bE H
   have q0:∀J i,bsA T 28 true i 1 [(0,.agg [.int .i64 v4,.fsl []])] J=some (.fsl (eL rBox ([(⟨v4,([]:List Int)⟩:gBox)]:List gBox)),J):=fun _ _=>rfl
   have e0:=nQ o1 (M1+8)
   refine Rb tok [3] (j e0 (j q0 (app28 hl5))) hK4 ?_
   obtain rfl:=oi H
   refine qI hK2 ?_
   exact R2 (M1+12) (M1+8)
  cases oj H
  refine zJ (hO2 _ _ _ _ rfl ⟨rfl,?_⟩)
  refine kr ?_
  exact R2 (M1+1) o1
 intro x a J hx
 obtain⟨y3,rfl⟩:∃x,x=e1:=⟨_,rfl⟩
 obtain⟨rfl,b,U,hr,M2,o2,fM2_0,fM2_1,fM2_2,rfl,rfl⟩:=hx
 (try dsimp only at H)
 show K1 _ _
 refine hK1 _ _ (zD hr ?_)
 refine Rc.mk ?_
 refine qA [2] ?_
 cases oj H;exact W4

theorem c45 {p0:List Int}{r:Bool}(H:xK p0=some r):APure Tryz.prog G 45 [.fsl (eL rI p0)] (.bool r):=by
 refine qK func45 ntmps45 results45 fun N0=>?_
 unfold xK at H
 refine qA [0] ?_
 refine Wsq [0] fun K1 hK1=>?_
 refine qA [0,5,6,7] ?_
 refine Wb ?_
 obtain⟨e1,hse1,H⟩:=bE H
 refine zP [0,5,6,7] (fun s a J=>∃M1:Nat,N0<=M1/\a=[(0,.fsl (eL rI p0)),(5,.fsl (eL rI p0)),(6,.int .i64 (ilen p0)),(7,.int .i64 s)]/\J=hp E0 [] M1) (fun e x a J=>match e with|.inl s=>x=.exit 0/\Rc G 21 N0 (fun a J=>∃M2:Nat,N0<=M2/\a=[(0,.fsl (eL rI p0))]/\J=hp E0 [] M2) (AAct.keep a [0]) J|.inr s=>x=.ret/\∃vs,resA T J a [.tmp 2]=some vs/\∃d,thawA (fun _=>true) J d (tupA vs)=.bool s) hse1 ?_ ?_ ?_
 .refine kp [0,5,6,7] ?_
  exact R1 (N0+4)
 .clear H hse1
  rintro s1 fl a J H ⟨M1,fM1_0,rfl,rfl⟩ K2 O2 hK2 hO2
  unfold jD at H;dsimp only at H
  refine qA [0,5,6,7,8] ?_
  refine Wsq [0,5,6,7] fun K3 hK3=>?_
  refine Ci H ?_ ?_<;>intro H
  .refine Js hK3 ?_
   refine Wsq [0,5,6,7] fun K4 hK4=>?_
   refine Wb ?_
   obtain⟨v2,hv2,H⟩:=bE H
   refine qB [0,4,5,6,7] (ix23 hv2) ?_
   obtain⟨g3,hg3,H⟩:=bE H
   refine qF tok [0,5,6,7,16] ([(0,.fsl (eL rI p0)),(5,.fsl (eL rI p0)),(6,.int .i64 (ilen p0)),(7,.int .i64 s1),(16,.bool g3)]) (hp E0 [] (M1+10)) (by
    intro K k
    refine m0 ?_
    cases hbg3:ilt v2 1
    .cases oj (ifF hbg3 hg3)
     exact m1 hbg3 k
    cases oj (ifT hbg3 hg3)
    refine m1 hbg3 ?_
    exact k) ?_
   refine Ci H ?_ ?_<;>intro H
   .refine qA [2] ?_
    cases oj H
    refine Kp [2] ?_
    refine Wr (hO2 _ _ _ _ rfl ⟨rfl,?_⟩)
    exact⟨[.bool false],by simp,4,by simp[eN]⟩
   refine Js hK4 ?_
   obtain rfl:=oi H
   refine qI hK2 ?_
   exact R1 (M1+12)
  cases oj H
  refine zJ (hO2 _ _ _ _ rfl ⟨rfl,?_⟩)
  refine kr ?_
  exact R1 (M1+1)
 intro x a J hx
 rcases e1 with⟨⟩|r0
 .obtain⟨rfl,b,U,hr,M2,fM2_0,rfl,rfl⟩:=hx
  (try dsimp only at H)
  show K1 _ _
  refine hK1 _ _ (zD hr ?_)
  refine Rc.mk ?_
  refine qA [2] ?_
  cases oj H;exact W4
 obtain⟨rfl,hx2⟩:=hx
 (try dsimp only at H)
 cases oj H;first|exact hx2|(simp only[List.set_set] at hx2 ⊢;exact hx2)

theorem c13 {p0:List Int}{p1:(List (List gQuad))}{r:gCrew×Bool}(H:xO p0 p1=some r):APure Tryz.prog G 13 [.fsl (eL rI p0),.fsl (eL zA p1)] (.tup [.agg [.fsl (eL zA r.1.Codes),.fsl (eL zB r.1.Threads),.fsl (eL rBox r.1.Boxes),.int .i64 r.1.Turn,.int .i64 r.1.Idle,.fsl (eL rI r.1.Out)],.bool r.2]):=by
 refine qK func13 ntmps13 results13 fun N0=>?_
 unfold xO at H
 refine qA [0,1,4] ?_
 refine gW Wre N0 0 0 ?_
 refine gW Wre N0 0 1 ?_
 refine gW Wre N0 0 2 ?_
 refine gW Wre N0 0 5 ?_
 obtain⟨r1,hr1,H⟩:=bE H
 obtain⟨r2,hr2,H⟩:=bE H
 refine Sx tok [4] [0,1,4,6] (by intro K k;(repeat first|simp -dsimp -implicitDefEqProofs|refine(c43 hr1).app ?_|refine(c44 hr2).app ?_);exact k) ?_
 refine Wsq [0,4,6] fun K1 hK1=>?_
 refine qA [0,4,6,13,14] ?_
 refine Wb ?_
 obtain⟨e1,hse1,H⟩:=bE H
 refine zP [0,4,6,13,14] (fun s a J=>∃M1 o1 o2:Nat,N0<=M1/\N0<=o1/\o1<M1/\N0<=o2/\o2<M1/\¬o1=o2/\a=[(0,.fsl (eL rI p0)),(4,.ptr o1 0 0),(6,.ptr o2 0 0),(13,.int .i64 (ilen p1)),(14,.int .i64 s.1)]/\J=hp E0 [(o1,some ⟨30,6,[[.fsl (eL zA s.2.1.Codes),.fsl (eL zB s.2.1.Threads),.fsl (eL rBox s.2.1.Boxes),.int .i64 s.2.1.Turn,.int .i64 s.2.1.Idle,.fsl (eL rI s.2.1.Out)]]⟩),(o2,some ⟨30,6,[[.fsl (eL zA s.2.2.Codes),.osl 42 2 (eL zB s.2.2.Threads),.fsl (eL rBox s.2.2.Boxes),.int .i64 s.2.2.Turn,.int .i64 s.2.2.Idle,.fsl (eL rI s.2.2.Out)]]⟩)] M1) (fun s x a J=>x=.exit 0/\Rc G 34 N0 (fun a J=>∃M2 o3 o4:Nat,N0<=M2/\N0<=o3/\o3<M2/\N0<=o4/\o4<M2/\¬o3=o4/\a=[(0,.fsl (eL rI p0)),(4,.ptr o3 0 0),(6,.ptr o4 0 0)]/\J=hp E0 [(o3,some ⟨30,6,[[.fsl (eL zA s.1.Codes),.fsl (eL zB s.1.Threads),.fsl (eL rBox s.1.Boxes),.int .i64 s.1.Turn,.int .i64 s.1.Idle,.fsl (eL rI s.1.Out)]]⟩),(o4,some ⟨30,6,[[.fsl (eL zA s.2.Codes),.osl 42 2 (eL zB s.2.Threads),.fsl (eL rBox s.2.Boxes),.int .i64 s.2.Turn,.int .i64 s.2.Idle,.fsl (eL rI s.2.Out)]]⟩)] M2) (AAct.keep a [0,4,6]) J) hse1 ?_ ?_ ?_
 .refine kp [0,4,6,13,14] ?_
  refine gP0 zD (N0+7) 0 1 42 2 (eL zB ([]:List gThread)) ?_
  refine gW zD (N0+7) 0 5 ?_
  exact R3 (N0+12) N0 (N0+7)
 .clear H hse1
  rintro⟨s3,s4,s5⟩ fl a J H ⟨M1,o1,o2,fM1_0,fM1_1,fM1_2,fM1_3,fM1_4,fM1_5,rfl,rfl⟩ K2 O2 hK2 hO2
  unfold vG at H;dsimp only at H
  have e0:=nQ o1 o2
  refine qB [0,4,6,13,14,15] e0 ?_
  refine Wsq [0,4,6,13,14] fun K3 hK3=>?_
  refine Ci H ?_ ?_<;>intro H
  .refine Js hK3 ?_
   refine Wsq [0,4,6,13,14] fun K4 hK4=>?_
   refine Wb ?_
   refine gU Wre o2 0 1 ?_
   obtain⟨l8,hl8,H⟩:=bE H
   obtain⟨l9,hl9,H⟩:=bE H
   have q0:∀J i,bsA T 27 true i 1 [(0,.agg [.fsl (eL rI l8),.int .i64 0])] J=some (.fsl (eL zB ([(⟨l8,0⟩:gThread)]:List gThread)),J):=fun _ _=>rfl
   refine vI tok tokM [2,4] [1,5,7] [0,2,3,4,1,5,6,7] [0,4,6,13,14] (fun a J=>a=[(0,.fsl (eL rI p0)),(4,.ptr o1 0 0),(6,.ptr o2 0 0),(13,.int .i64 (ilen p1)),(14,.int .i64 s3)]/\J=hp E0 [(o1,some ⟨30,6,[[.fsl (eL zA s4.Codes),.fsl (eL zB s4.Threads),.fsl (eL rBox s4.Boxes),.int .i64 s4.Turn,.int .i64 s4.Idle,.fsl (eL rI s4.Out)]]⟩),(o2,some ⟨30,6,[[.fsl (eL zA s5.Codes),.sl (M1+7) 0 l9.length,.fsl (eL rBox s5.Boxes),.int .i64 s5.Turn,.int .i64 s5.Idle,.fsl (eL rI s5.Out)]]⟩),(M1+7,some ⟨42,2,eL zB l9⟩)] (M1+10)) (by decide) (fun K hK=>?_) ?_
   .simp only[pickL,zF,zG]
    have e0:=nQ o1 o2
    have e1:=nQ o1 (M1+1)
    have e2:=nQ o1 (M1+7)
    have e3:=nQ o2 (M1+1)
    have e4:=nQ o2 (M1+7)
    refine m1 (j e0 (j e1 (j e2 (j e3 (j e4 (j (makf23 hl8) (j q0 (app27 hl9)))))))) ?_
    exact hK _ _ ⟨rfl,rfl⟩
   rintro a J ⟨ha,rfl⟩
   refine hK4 _ _ ?_;rw[ha]
   refine Rc.mk ?_
   have e0:=nQ o1 o2
   have e1:=nQ o1 (M1+7)
   have e2:=nQ o2 (M1+7)
   obtain rfl:=oi H
   refine qJ (j e0 (j e1 e2)) hK2 ?_
   refine gP zD o2 0 1 ?_
   exact R3 (M1+12) o1 o2
  cases oj H
  refine zJ (hO2 _ _ _ _ rfl ⟨rfl,?_⟩)
  refine kr ?_
  exact R3 (M1+1) o1 o2
 intro x a J hx
 obtain⟨y6,y7⟩:=e1
 obtain⟨rfl,b,U,hr,M2,o3,o4,fM2_0,fM2_1,fM2_2,fM2_3,fM2_4,fM2_5,rfl,rfl⟩:=hx
 (try dsimp only at H)
 show K1 _ _
 refine hK1 _ _ (zD hr ?_)
 refine Rc.mk ?_
 refine Wsq [4,6] fun K5 hK5=>?_
 refine gU Wre o4 0 1 ?_
 obtain⟨r11,hr11,H⟩:=bE H
 obtain⟨g13,hg13,H⟩:=bE H
 refine kT tok [] [4,6,31] (fun a J=>a=[(4,.ptr o3 0 0),(6,.ptr o4 0 0),(31,.bool g13)]/\J=hp E0 [(o3,some ⟨30,6,[[.fsl (eL zA y6.Codes),.fsl (eL zB y6.Threads),.fsl (eL rBox y6.Boxes),.int .i64 y6.Turn,.int .i64 y6.Idle,.fsl (eL rI y6.Out)]]⟩),(o4,some ⟨30,6,[[.fsl (eL zA y7.Codes),.sl M2 0 y7.Threads.length,.fsl (eL rBox y7.Boxes),.int .i64 y7.Turn,.int .i64 y7.Idle,.fsl (eL rI y7.Out)]]⟩),(M2,some ⟨42,2,eL zB y7.Threads⟩)] (M2+9)) (fun K hK=>?_) ?_
 .skip
  have e0:=nQ o3 o4
  have e1:=nQ o3 M2
  have e2:=nQ o4 M2
  refine m1 (j e0 (j e1 e2)) ?_
  refine(c45 hr11).app (m1 (j e0 (j e1 e2)) ?_)
  cases hbg13:bnot r11
  .replace hg13:=ifF hbg13 hg13
   obtain⟨r12,hr12,hg13⟩:=bE hg13
   cases oj hg13
   refine m1 (j e0 (j e1 (j e2 hbg13))) ?_
   refine(borrow 8 (c32 hr12) (by simp[e0,e1,e2,hbg13]) rfl).mono ?_;rintro _ _ ⟨rfl,rfl⟩;try simp -dsimp -implicitDefEqProofs [e0,e1,e2,hbg13]
   exact hK _ _ ⟨rfl,rfl⟩
  cases oj (ifT hbg13 hg13)
  refine m1 (j e0 (j e1 (j e2 hbg13))) ?_
  exact hK _ _ ⟨rfl,rfl⟩
 rintro a J ⟨rfl,rfl⟩
 refine Ci H ?_ ?_<;>intro H
 .have e0:=nQ o3 o4
  have e1:=nQ o3 M2
  have e2:=nQ o4 M2
  refine qB [4,5] (j e0 (j e1 e2)) ?_
  cases oj H
  refine Kp [4,5] ?_
  have z0:=nQ o3 o4
  have z1:=nQ o3 M2
  have z2:=nQ o4 M2
  refine Wr ?_
  exact⟨[.agg [.fsl [],.fsl [],.fsl [],.int .i64 0,.int .i64 0,.fsl []],.bool false],by simp[z0,z1,z2],4,by simp[eN,z0,z1,z2]⟩
 refine Js hK5 ?_
 have e0:=nQ o3 o4
 have e1:=nQ o3 M2
 have e2:=nQ o4 M2
 refine qB [4,5] (j e0 (j e1 e2)) ?_
 obtain rfl:=oi H
 refine Kp [4,5] ?_
 have z3:=nQ o3 o4
 have z4:=nQ o3 M2
 have z5:=nQ o4 M2
 refine Wr ?_
 exact⟨[.agg [.fsl (eL zA y7.Codes),.sl M2 0 y7.Threads.length,.fsl (eL rBox y7.Boxes),.int .i64 y7.Turn,.int .i64 y7.Idle,.fsl (eL rI y7.Out)],.bool true],by simp[z3,z4,z5],4,by simp[eN,z3,z4,z5]⟩

theorem c17 {p0:List Int}{p1:(List (List gQuad))}{p2:Int}{r:gCrew}(H:uJ p0 p1 p2=some r):APure Tryz.prog G 17 [.fsl (eL rI p0),.fsl (eL zA p1),.int .i64 p2] (.agg [.fsl (eL zA r.Codes),.fsl (eL zB r.Threads),.fsl (eL rBox r.Boxes),.int .i64 r.Turn,.int .i64 r.Idle,.fsl (eL rI r.Out)]):=by
 refine qK func17 ntmps17 results17 fun N0=>?_
 unfold uJ at H
 refine qA [0,1,2,6] ?_
 refine gW Wre N0 0 0 ?_
 refine gW Wre N0 0 1 ?_
 refine gW Wre N0 0 2 ?_
 refine gW Wre N0 0 5 ?_
 obtain⟨r1,hr1,H⟩:=bE H
 refine qD [2,6,7,8] (c13 hr1) ?_
 obtain⟨r2,hr2,H⟩:=bE H
 refine qD [6,8,9,10] (c20 hr2) ?_
 refine Wsq [6,9] fun K1 hK1=>?_
 obtain⟨g3,hg3,H⟩:=bE H
 refine qF tok [6,9,28] ([(6,.ptr N0 0 0),(9,.ptr (N0+16) 0 0),(28,.bool g3)]) (hp E0 [(N0,some ⟨30,6,[[.fsl [],.fsl [],.fsl [],.int .i64 0,.int .i64 0,.fsl []]]⟩),(N0+7,some ⟨30,6,[[.fsl (eL zA r1.1.Codes),.fsl (eL zB r1.1.Threads),.fsl (eL rBox r1.1.Boxes),.int .i64 r1.1.Turn,.int .i64 r1.1.Idle,.fsl (eL rI r1.1.Out)]]⟩),(N0+16,some ⟨30,6,[[.fsl (eL zA r2.1.Codes),.fsl (eL zB r2.1.Threads),.fsl (eL rBox r2.1.Boxes),.int .i64 r2.1.Turn,.int .i64 r2.1.Idle,.fsl (eL rI r2.1.Out)]]⟩)] (N0+25)) (by
  intro K k
  refine m0 ?_
  cases hbg3:bnot r1.2
  .cases oj (ifF hbg3 hg3)
   exact m1 hbg3 k
  cases oj (ifT hbg3 hg3)
  refine m1 hbg3 ?_
  exact k) ?_
 refine Ci H ?_ ?_<;>intro H
 .refine qA [6] ?_
  cases oj H
  refine Kp [6] ?_
  exact V0
 refine Js hK1 ?_
 refine qA [6] ?_
 obtain rfl:=oi H
 refine Kp [6] ?_
 exact V0

theorem c51 {p0:gQuad}{p1:Int}{r:List Int}(H:i_nextOf p0 p1=some r):APure Tryz.prog G 51 [.agg [.int .i64 p0.Op,.int .i64 p0.Dst,.int .i64 p0.A,.int .i64 p0.B,.int .i64 p0.N],.int .i64 p1] (.fsl (eL rI r)):=by
 refine qK func51 ntmps51 results51 fun N0=>?_
 unfold i_nextOf at H
 refine S0 tok [0] [1,2] ?_
 refine Wsq [1] fun K1 hK1=>?_
 refine Wb ?_
 refine qA [1,2,5] ?_
 refine Ci H ?_ ?_<;>intro H
 .refine qA [4] ?_
  cases oj H;exact W4
 refine qA [1,2,9] ?_
 refine Ci H ?_ ?_<;>intro H
 .have q0:∀J i,bsA T 23 true i 1 [(0,.int .i64 p0.N)] J=some (.fsl (eL rI ([p0.N]:List Int)),J):=fun _ _=>rfl
  refine Sy tok [2] [4] q0 ?_
  cases oj H;exact W4
 obtain⟨g1,hg1,H⟩:=bE H
 refine qF tok [1,2,16] ([(1,.int .i64 p1),(2,.fptr [.int .i64 p0.Op,.int .i64 p0.Dst,.int .i64 p0.A,.int .i64 p0.B,.int .i64 p0.N] 0),(16,.bool g1)]) (hp E0 [] (N0+21)) (by
  intro K k
  refine m0 ?_
  cases hbg1:ieq p0.Op 5
  .cases oj (ifF hbg1 hg1)
   exact m1 hbg1 k
  cases oj (ifT hbg1 hg1)
  refine m1 hbg1 ?_
  exact k) ?_
 refine Ci H ?_ ?_<;>intro H
 .have q1:∀J i,bsA T 23 true i 2 [(0,.int .i64 p0.N),(1,.int .i64 (iadd .i64 p1 1))] J=some (.fsl (eL rI ([p0.N,iadd .i64 p1 1]:List Int)),J):=fun _ _=>rfl
  refine Sy tok [4] [4] q1 ?_
  cases oj H;exact W4
 obtain⟨g2,hg2,H⟩:=bE H
 refine qF tok [1,2,32] ([(1,.int .i64 p1),(2,.fptr [.int .i64 p0.Op,.int .i64 p0.Dst,.int .i64 p0.A,.int .i64 p0.B,.int .i64 p0.N] 0),(32,.bool g2)]) (hp E0 [] (N0+32)) (by
  intro K k
  refine m0 ?_
  cases hbg2:ieq p0.Op 5
  .cases oj (ifF hbg2 hg2)
   exact m1 hbg2 k
  cases oj (ifT hbg2 hg2)
  refine m1 hbg2 ?_
  exact k) ?_
 refine Ci H ?_ ?_<;>intro H
 .have q2:∀J i,bsA T 23 true i 2 [(0,.int .i64 (iadd .i64 p1 1)),(1,.int .i64 p0.N)] J=some (.fsl (eL rI ([iadd .i64 p1 1,p0.N]:List Int)),J):=fun _ _=>rfl
  refine Sy tok [4] [4] q2 ?_
  cases oj H;exact W4
 refine Js hK1 ?_
 have q3:∀J i,bsA T 23 true i 1 [(0,.int .i64 (iadd .i64 p1 1))] J=some (.fsl (eL rI ([iadd .i64 p1 1]:List Int)),J):=fun _ _=>rfl
 refine Sy tok [2] [4] q3 ?_
 cases oj H;exact W4

theorem c81 {p0:List gQuad}{p1:List Int}{p2:Int}{r:Int}(H:vD p0 p1 p2=some r):APure Tryz.prog G 81 [.fsl (eL rQuad p0),.fsl (eL yD p1),.int .i64 p2] (.int .u16 r):=by
 refine qK func81 ntmps81 results81 fun N0=>?_
 unfold vD at H
 refine qA [0,1,2] ?_
 refine qA [0,1,2,7] ?_
 refine Wsq [7] fun K1 hK1=>?_
 obtain⟨v1,hv1,H⟩:=bE H
 obtain⟨r2,hr2,H⟩:=bE H
 refine qE [1,7,15,16,17] (ix34 hv1) (c51 hr2) ?_
 refine Wb ?_
 obtain⟨e1,hse1,H⟩:=bE H
 refine zP [1,7,15,16,17] (fun s a J=>∃M1:Nat,N0<=M1/\a=[(1,.fsl (eL yD p1)),(7,.int .u16 s.1),(15,.fsl (eL rI r2)),(16,.int .i64 (ilen r2)),(17,.int .i64 s.2)]/\J=hp E0 [] M1) (fun s x a J=>x=.exit 0/\Rc G 29 N0 (fun a J=>∃M2:Nat,N0<=M2/\a=[(7,.int .u16 s)]/\J=hp E0 [] M2) (AAct.keep a [7]) J) hse1 ?_ ?_ ?_
 .refine kp [1,7,15,16,17] ?_
  exact R1 (N0+10)
 .clear H hse1
  rintro⟨s3,s4⟩ fl a J H ⟨M1,fM1_0,rfl,rfl⟩ K2 O2 hK2 hO2
  unfold uM at H;dsimp only at H
  refine qA [1,7,15,16,17,18] ?_
  refine Wsq [1,7,15,16,17] fun K3 hK3=>?_
  refine Ci H ?_ ?_<;>intro H
  .refine Js hK3 ?_
   refine Wsq [1,7,15,16,17] fun K4 hK4=>?_
   refine Wb ?_
   obtain⟨v6,hv6,H⟩:=bE H
   refine qB [1,7,9,15,16,17] (ix23 hv6) ?_
   obtain⟨v7,hv7,H⟩:=bE H
   refine qH (ix72 hv7) hK4 ?_
   obtain rfl:=oi H
   refine qI hK2 ?_
   exact R1 (M1+13)
  cases oj H
  refine zJ (hO2 _ _ _ _ rfl ⟨rfl,?_⟩)
  refine kr ?_
  exact R1 (M1+1)
 intro x a J hx
 obtain⟨y5,rfl⟩:∃x,x=e1:=⟨_,rfl⟩
 obtain⟨rfl,b,U,hr,M2,fM2_0,rfl,rfl⟩:=hx
 (try dsimp only at H)
 show K1 _ _
 refine hK1 _ _ (zD hr ?_)
 refine Rc.mk ?_
 refine qA [6] ?_
 cases oj H;exact W4

theorem c82 {p0:gQuad}{r:Int}(H:dT p0=some r):APure Tryz.prog G 82 [.agg [.int .i64 p0.Op,.int .i64 p0.Dst,.int .i64 p0.A,.int .i64 p0.B,.int .i64 p0.N]] (.int .i64 r):=by
 refine qK func82 ntmps82 results82 fun N0=>?_
 unfold dT at H
 refine S0 tok [0] [1] ?_
 refine Wsq [] fun K1 hK1=>?_
 refine qA [1,4] ?_
 refine Wb ?_
 obtain⟨j1,hj1,H⟩:=bE H
 refine kO (kH fun K2 hK2=>?_)
 have hJ1:∀a J,Rc G 12 N0 (fun a J=>∃M1:Nat,N0<=M1/\a=[(1,.fptr [.int .i64 p0.Op,.int .i64 p0.Dst,.int .i64 p0.A,.int .i64 p0.B,.int .i64 p0.N] 0),(5,.bool j1)]/\J=hp E0 [] M1) (a.keep [1,5]) J->K2 a J:=by
  rintro a J ⟨b,U,hr,M1,fM1_0,rfl,rfl⟩
  refine hK2 _ _ (kA [1,5] (Wre hr ?_))
  refine Ci H ?_ ?_<;>intro H
  .refine qA [2] ?_
   cases oj H;exact W4
  refine Js hK1 ?_
  refine qA [2] ?_
  cases oj H;exact W4
 replace H:=hj1
 refine qA [1,4,5] ?_
 refine Ci H ?_ ?_<;>intro H
 .refine Wsk ?_
  show K2 _ _
  refine kE [1,5] fun a' ha=>?_
  cases oj H
  refine hJ1 _ _ ?_;rw[ha]
  exact R1 (N0+6)
 refine qA [1,4,5] ?_
 refine Ci H ?_ ?_<;>intro H
 .refine Wsk ?_
  show K2 _ _
  refine kE [1,5] fun a' ha=>?_
  cases oj H
  refine hJ1 _ _ ?_;rw[ha]
  exact R1 (N0+8)
 refine qA [1,4,5] ?_
 refine Ci H ?_ ?_<;>intro H
 .refine Wsk ?_
  show K2 _ _
  refine kE [1,5] fun a' ha=>?_
  cases oj H
  refine hJ1 _ _ ?_;rw[ha]
  exact R1 (N0+10)
 refine Rt0 tok [] [1,5] fun a ha=>?_
 cases oj H
 refine hJ1 _ _ ?_;rw[ha]
 exact R1 (N0+12)

theorem c83 {p0:gQuad}{r:Int}(H:i_usesOf p0=some r):APure Tryz.prog G 83 [.agg [.int .i64 p0.Op,.int .i64 p0.Dst,.int .i64 p0.A,.int .i64 p0.B,.int .i64 p0.N]] (.int .u16 r):=by
 refine qK func83 ntmps83 results83 fun N0=>?_
 unfold i_usesOf at H
 refine S0 tok [0] [1] ?_
 refine Wsq [] fun K1 hK1=>?_
 refine qA [1,4] ?_
 refine Wb ?_
 obtain⟨j1,hj1,H⟩:=bE H
 refine kO (kH fun K2 hK2=>?_)
 have hJ1:∀a J,Rc G 22 N0 (fun a J=>∃M1:Nat,N0<=M1/\a=[(1,.fptr [.int .i64 p0.Op,.int .i64 p0.Dst,.int .i64 p0.A,.int .i64 p0.B,.int .i64 p0.N] 0),(4,.int .i64 p0.Op),(5,.bool j1)]/\J=hp E0 [] M1) (a.keep [1,4,5]) J->K2 a J:=by
  rintro a J ⟨b,U,hr,M1,fM1_0,rfl,rfl⟩
  refine hK2 _ _ (kA [1,4,5] (Wre hr ?_))
  refine Ci H ?_ ?_<;>intro H
  .obtain⟨v2,hv2,H⟩:=bE H
   refine qB [2] hv2 ?_
   cases oj H;exact W4
  refine qA [1,13] ?_
  refine Ci H ?_ ?_<;>intro H
  .obtain⟨v3,hv3,H⟩:=bE H
   obtain⟨v4,hv4,H⟩:=bE H
   refine Sd tok tokM [] [] [0,1,2,3,4,5,6,7] [2] (by
    intro K k
    simp only[pickL,zF,zG]
    refine m2 hv3 hv4 ?_
    exact k) ?_
   cases oj H;exact W4
  refine Js hK1 ?_
  refine qA [2] ?_
  cases oj H;exact W4
 replace H:=hj1
 refine qA [1,4,5] ?_
 refine Ci H ?_ ?_<;>intro H
 .refine Wsk ?_
  show K2 _ _
  refine kE [1,4,5] fun a' ha=>?_
  cases oj H
  refine hJ1 _ _ ?_;rw[ha]
  exact R1 (N0+6)
 refine qA [1,4,5] ?_
 refine Ci H ?_ ?_<;>intro H
 .refine Wsk ?_
  show K2 _ _
  refine kE [1,4,5] fun a' ha=>?_
  cases oj H
  refine hJ1 _ _ ?_;rw[ha]
  exact R1 (N0+8)
 refine qA [1,4,5] ?_
 refine Ci H ?_ ?_<;>intro H
 .refine Wsk ?_
  show K2 _ _
  refine kE [1,4,5] fun a' ha=>?_
  cases oj H
  refine hJ1 _ _ ?_;rw[ha]
  exact R1 (N0+10)
 refine Rt0 tok [] [1,4,5] fun a ha=>?_
 cases oj H
 refine hJ1 _ _ ?_;rw[ha]
 exact R1 (N0+12)

theorem c52 {p0:List gQuad}{r:List Int}(H:jG p0=some r):APure Tryz.prog G 52 [.fsl (eL rQuad p0)] (.fsl (eL yD r)):=by
 refine qK func52 ntmps52 results52 fun N0=>?_
 unfold jG at H
 refine qA [0] ?_
 obtain⟨l1,hl1,H⟩:=bE H
 refine qB [0,3] (mak72 hl1) ?_
 refine Wsq [3] fun K1 hK1=>?_
 refine qA [0,3,4] ?_
 refine Wb ?_
 obtain⟨e3,hse3,H⟩:=bE H
 refine zP [0,3,4] (fun s a J=>∃M1 o1:Nat,N0<=M1/\N0<=o1/\o1<M1/\a=[(0,.fsl (eL rQuad p0)),(3,.sl o1 0 s.2.length),(4,.bool s.1)]/\J=hp E0 [(o1,some ⟨75,1,eL yD s.2⟩)] M1) (fun s x a J=>x=.exit 0/\Rc G 52 N0 (fun a J=>∃M2 o2:Nat,N0<=M2/\N0<=o2/\o2<M2/\a=[(3,.sl o2 0 s.length)]/\J=hp E0 [(o2,some ⟨75,1,eL yD s⟩)] M2) (AAct.keep a [3]) J) hse3 ?_ ?_ ?_
 .refine kp [0,3,4] ?_
  exact R2 (N0+6) (N0+3)
 .clear H hse3
  rintro⟨s2,s3⟩ fl a J H ⟨M1,o1,fM1_0,fM1_1,fM1_2,rfl,rfl⟩ K2 O2 hK2 hO2
  unfold pV at H;dsimp only at H
  refine Wsq [0,3] fun K3 hK3=>?_
  refine qA [0,3,11] ?_
  refine Ci H ?_ ?_<;>intro H
  .refine Js hK3 ?_
   refine Wb ?_
   refine qA [0,3,4] ?_
   refine qA [0,3,4,5] ?_
   refine Wb ?_
   obtain⟨e2,hse2,H⟩:=bE H
   refine zP [0,3,4,5] (fun s a J=>∃M3 o3:Nat,N0<=M3/\N0<=o3/\o3<M3/\a=[(0,.fsl (eL rQuad p0)),(3,.sl o3 0 s.2.2.length),(4,.bool s.1),(5,.int .i64 s.2.1)]/\J=hp E0 [(o3,some ⟨75,1,eL yD s.2.2⟩)] M3) (fun s x a J=>x=.exit 2/\Rc G 52 N0 (fun a J=>∃M4 o4:Nat,N0<=M4/\N0<=o4/\o4<M4/\a=[(0,.fsl (eL rQuad p0)),(3,.sl o4 0 s.2.length),(4,.bool s.1)]/\J=hp E0 [(o4,some ⟨75,1,eL yD s.2⟩)] M4) (AAct.keep a [0,3,4]) J) hse2 ?_ ?_ ?_
   .refine kp [0,3,4,5] ?_
    exact R2 (M1+6) o1
   .clear H hse2
    rintro⟨s5,s6,s7⟩ fl a J H ⟨M3,o3,fM3_0,fM3_1,fM3_2,rfl,rfl⟩ K4 O4 hK4 hO4
    unfold uN at H;dsimp only at H
    refine Wsq [0,3,4,5] fun K5 hK5=>?_
    refine qA [0,3,4,5,16] ?_
    refine Ci H ?_ ?_<;>intro H
    .refine Js hK5 ?_
     refine Wsq [0,3,4,5] fun K6 hK6=>?_
     refine Wb ?_
     obtain⟨r10,hr10,H⟩:=bE H
     refine kT tok [] [0,3,4,5,6] (fun a J=>a=[(0,.fsl (eL rQuad p0)),(3,.sl o3 0 s7.length),(4,.bool s5),(5,.int .i64 s6),(6,.int .u16 r10)]/\J=hp E0 [(o3,some ⟨75,1,eL yD s7⟩)] (M3+7)) (fun K hK=>?_) ?_
     .skip
      refine m0 ?_
      refine(borrow 8 (c81 hr10) (by simp) rfl).mono ?_;rintro _ _ ⟨rfl,rfl⟩;try simp -dsimp -implicitDefEqProofs
      exact hK _ _ ⟨rfl,rfl⟩
     rintro a J ⟨rfl,rfl⟩
     obtain⟨j1,hj1,H⟩:=bE H
     refine kO (kH fun K7 hK7=>?_)
     have hJ1:∀a J,Rc G 52 N0 (fun a J=>∃M5:Nat,N0<=M5/\o3<M5/\a=[(0,.fsl (eL rQuad p0)),(3,.sl o3 0 s7.length),(4,.bool s5),(5,.int .i64 s6),(6,.int .u16 j1)]/\J=hp E0 [(o3,some ⟨75,1,eL yD s7⟩)] M5) (a.keep [0,3,4,5,6]) J->K7 a J:=by
      rintro a J ⟨b,U,hr,M5,fM5_0,fM5_1,rfl,rfl⟩
      refine hK7 _ _ (kA [0,3,4,5,6] (Wre hr ?_))
      obtain⟨v12,hv12,H⟩:=bE H
      obtain⟨r13,hr13,H⟩:=bE H
      refine qE [0,3,4,5,6] (ix34 hv12) (c83 hr13) ?_
      obtain⟨v14,hv14,H⟩:=bE H
      refine qC [0,3,4,5,6,46] (ixo72 hv14) ((zL hv14).2.2) ?_
      refine Ci H ?_ ?_<;>intro H
      .obtain⟨l15,hl15,H⟩:=bE H
       refine qB [0,3,5] (j (ixo72 hv14) (j ((zL hv14).2.2) ((setx_iff.1 hl15).2.symm))) ?_
       try rw[<- zK hl15]
       refine qG hK6 ?_
       obtain rfl:=oi H
       refine qI hK4 ?_
       exact R2 (M5+23) o3
      refine Js hK6 ?_
      obtain rfl:=oi H
      refine qI hK4 ?_
      exact R2 (M5+17) o3
     replace H:=hj1
     obtain⟨v16,hv16,H⟩:=bE H
     obtain⟨r17,hr17,H⟩:=bE H
     refine qE [0,3,4,5,6,7] (ix34 hv16) (c82 hr17) ?_
     refine qA [0,3,4,5,6,7,29] ?_
     refine Ci H ?_ ?_<;>intro H
     .obtain⟨v18,hv18,H⟩:=bE H
      refine Rt tok [] [0,3,4,5,6] (by intro K k;simp -dsimp -implicitDefEqProofs [hv18];exact k) fun a ha=>?_
      cases oj H
      refine hJ1 _ _ ?_;rw[ha]
      exact R1 (M3+20)
     refine Wsk ?_
     show K7 _ _
     refine kE [0,3,4,5,6] fun a' ha=>?_
     cases oj H
     refine hJ1 _ _ ?_;rw[ha]
     exact R1 (M3+15)
    cases oj H
    refine zJ (hO4 _ _ _ _ rfl ⟨rfl,?_⟩)
    refine kr ?_
    exact R2 (M3+2) o3
   intro x a J hx
   obtain⟨y8,y9⟩:=e2
   obtain⟨rfl,b,U,hr,M4,o4,fM4_0,fM4_1,fM4_2,rfl,rfl⟩:=hx
   (try dsimp only at H)
   show K2 _ _
   cases oj H
   refine hK2 _ _ _ rfl (zD hr ?_)
   exact R2 M4 o4
  cases oj H
  refine zJ (hO2 _ _ _ _ rfl ⟨rfl,?_⟩)
  refine kr ?_
  exact R2 (M1+1) o1
 intro x a J hx
 obtain⟨y4,rfl⟩:∃x,x=e3:=⟨_,rfl⟩
 obtain⟨rfl,b,U,hr,M2,o2,fM2_0,fM2_1,fM2_2,rfl,rfl⟩:=hx
 (try dsimp only at H)
 show K1 _ _
 refine hK1 _ _ (zD hr ?_)
 refine Rc.mk ?_
 refine qA [2] ?_
 cases oj H;exact W4

theorem c84 {p0:Int}{p1:Int}{r:Bool}(H:vC p0 p1=some r):APure Tryz.prog G 84 [.int .u16 p0,.int .i64 p1] (.bool r):=by
 refine qK func84 ntmps84 results84 fun N0=>?_
 unfold vC at H
 refine qA [0,1] ?_
 obtain⟨v1,hv1,H⟩:=bE H
 refine qB [4] hv1 ?_
 cases oj H;exact W4

theorem c60 {p0:List gQuad}{r:List Int}(H:pX p0=some r):APure Tryz.prog G 60 [.fsl (eL rQuad p0)] (.fsl (eL rI r)):=by
 refine qK func60 ntmps60 results60 fun N0=>?_
 unfold pX at H
 refine qA [0] ?_
 refine qA [0,3] ?_
 obtain⟨r1,hr1,H⟩:=bE H
 refine qD [0,3,4] (c52 hr1) ?_
 refine Wsq [3] fun K1 hK1=>?_
 refine qA [0,3,4,10,11,12] ?_
 refine Wb ?_
 obtain⟨e1,hse1,H⟩:=bE H
 refine zP [0,3,4,10,11,12] (fun s a J=>∃M1 o1:Nat,N0<=M1/\N0<=o1/\o1<M1/\a=[(0,.fsl (eL rQuad p0)),(3,.sl o1 0 s.2.length),(4,.fsl (eL yD r1)),(10,.fsl (eL rQuad p0)),(11,.int .i64 (ilen p0)),(12,.int .i64 s.1)]/\J=hp E0 [(o1,some ⟨3,1,eL rI s.2⟩)] M1) (fun s x a J=>x=.exit 0/\Rc G 41 N0 (fun a J=>∃M2 o2:Nat,N0<=M2/\N0<=o2/\o2<M2/\a=[(3,.sl o2 0 s.length)]/\J=hp E0 [(o2,some ⟨3,1,eL rI s⟩)] M2) (AAct.keep a [3]) J) hse1 ?_ ?_ ?_
 .refine kp [0,3,4,10,11,12] ?_
  refine gNilS zD 3 3 1 [(N0+8,some ⟨3,1,eL rI ([]:List Int)⟩)] [(0,.fsl (eL rQuad p0)),(3,.sl (N0+8) 0 ([]:List Int).length),(4,.fsl (eL yD r1)),(10,.fsl (eL rQuad p0)),(11,.int .i64 (ilen p0)),(12,.int .i64 0)] (by simp(disch:=omega)) (by simp(disch:=omega) [eN]) [0,3,4,10,11,12] rfl ?_
  exact R2 (N0+9) (N0+8)
 .clear H hse1
  rintro⟨s2,s3⟩ fl a J H ⟨M1,o1,fM1_0,fM1_1,fM1_2,rfl,rfl⟩ K2 O2 hK2 hO2
  unfold wN at H;dsimp only at H
  refine qA [0,3,4,10,11,12,13] ?_
  refine Wsq [0,3,4,10,11,12] fun K3 hK3=>?_
  refine Ci H ?_ ?_<;>intro H
  .refine Js hK3 ?_
   refine Wsq [0,3,4,10,11,12] fun K4 hK4=>?_
   refine Wb ?_
   obtain⟨v5,hv5,H⟩:=bE H
   have e0:=nQ o1 (M1+4)
   refine qC [0,3,4,5,6,10,11,12] e0 (ix34 hv5) ?_
   obtain⟨r6,hr6,H⟩:=bE H
   have e0:=nQ o1 (M1+4)
   refine qE [0,3,4,5,6,7,10,11,12] e0 (c82 hr6) ?_
   obtain⟨g7,hg7,H⟩:=bE H
   obtain⟨g10,hg10,H⟩:=bE H
   refine qF tok [0,3,4,5,10,11,12,34] ([(0,.fsl (eL rQuad p0)),(3,.sl o1 0 s3.length),(4,.fsl (eL yD r1)),(5,.int .i64 s2),(10,.fsl (eL rQuad p0)),(11,.int .i64 (ilen p0)),(12,.int .i64 s2),(34,.bool g10)]) (hp E0 [(o1,some ⟨3,1,eL rI s3⟩),(M1+4,some ⟨36,5,[[.int .i64 v5.Op,.int .i64 v5.Dst,.int .i64 v5.A,.int .i64 v5.B,.int .i64 v5.N]]⟩)] (M1+26)) (by
    intro K k
    have e0:=nQ o1 (M1+4)
    refine m1 e0 ?_
    cases hbg7:ige r6 0
    .cases oj (ifF hbg7 hg7)
     cases oj (ifF rfl hg10)
     exact m2 e0 hbg7 k
    cases oj (ifT hbg7 hg7)
    refine m2 e0 hbg7 ?_
    cases hbg10:(ine v5.Op 7)
    .cases oj (ifF hbg10 hg10)
     exact m1 (j e0 (j hbg7 hbg10)) k
    replace hg10:=ifT hbg10 hg10
    obtain⟨r8,hr8,hg10⟩:=bE hg10
    obtain⟨r9,hr9,hg10⟩:=bE hg10
    cases oj hg10
    refine m1 (j e0 (j hbg7 hbg10)) ?_
    refine(c81 hr8).app (m1 (j e0 (j hbg7 hbg10)) ?_)
    refine(c84 hr9).app (m1 (j e0 (j hbg7 hbg10)) ?_)
    exact k) ?_
   refine Ci H ?_ ?_<;>intro H
   .obtain⟨l11,hl11,H⟩:=bE H
    have q0:∀J i,bsA T 23 true i 1 [(0,.int .i64 s2)] J=some (.fsl (eL rI ([s2]:List Int)),J):=fun _ _=>rfl
    have e0:=nQ o1 (M1+4)
    have e1:=nQ o1 (M1+29)
    refine Rb tok [2] (j e0 (j e1 (j q0 (app23 hl11)))) hK4 ?_
    obtain rfl:=oi H
    refine qI hK2 ?_
    exact Rc.fin (AHeap.Sub.trans (zI (AHeap.Sub.refl _)) (zR rfl (by simp;try omega))) ⟨M1+33,(M1+29),(by omega),(by omega),(by omega),rfl,rfl⟩
   refine Js hK4 ?_
   have e0:=nQ o1 (M1+4)
   obtain rfl:=oi H
   refine qJ e0 hK2 ?_
   exact Rc.fin (zI (AHeap.Sub.trans (AHeap.Sub.refl _) (zR rfl (by simp;try omega)))) ⟨M1+28,o1,(by omega),(by omega),(by omega),rfl,rfl⟩
  cases oj H
  refine zJ (hO2 _ _ _ _ rfl ⟨rfl,?_⟩)
  refine kr ?_
  exact R2 (M1+1) o1
 intro x a J hx
 obtain⟨y4,rfl⟩:∃x,x=e1:=⟨_,rfl⟩
 obtain⟨rfl,b,U,hr,M2,o2,fM2_0,fM2_1,fM2_2,rfl,rfl⟩:=hx
 (try dsimp only at H)
 show K1 _ _
 refine hK1 _ _ (zD hr ?_)
 refine Rc.mk ?_
 refine qA [2] ?_
 cases oj H;exact W4

theorem c59_o {p0:List gQuad}{r:List gQuad}(H:zS p0=some r){J:AHeap}:ACalls Tryz.prog G 59 [.fsl (eL rQuad p0)] J (fun v J'=>∃M n0:Nat,J.next<=M/\J.next<=n0/\n0<M/\v=.sl n0 0 r.length/\J'=hp J.objs [(n0,some ⟨36,5,eL rQuad r⟩)] M):=by
 refine fr2 [] (by simp) (fun hlt=>?_) ⟨_,func59,rfl,rfl⟩
 generalize J.next=N0 at hlt ⊢
 refine fnK tok func59 ntmps59 results59 ?_
 simp only[argsA,Nat.reduceAdd,hpN]
 unfold zS at H
 refine qA [0] ?_
 refine Wsq [0] fun K1 hK1=>?_
 refine dI tok [4,0] ([(0,.fsl (eL rQuad p0))]) rfl rfl (by decide) (by decide) (by decide) (fun _=>rfl) (fun n0=>?_) ?_
 .replace n0:p0=[]:=mH n0
  replace H:(if true=true then   some ([]:List gQuad) else   (appx 40 ([]:List gQuad) p0).bind fun l2=>   some l2:Option ((List gQuad)))=some r:=by simpa [n0,appx] using H
  refine Ci H ?_ ?_<;>intro H
  .refine qA [2] ?_
   cases oj H
   refine Kp [2] ?_
   refine gNilS Wre 2 36 5 [(N0+2,some ⟨36,5,eL rQuad ([]:List gQuad)⟩)] [(2,.sl (N0+2) 0 ([]:List gQuad).length)] (by simp(disch:=omega)) (by simp(disch:=omega) [eN]) [2] rfl ?_
   exact V2 j0 (N0+3) (N0+2)
  refine Js hK1 ?_
  obtain⟨l2,hl2,H⟩:=bE H
  have q2:∀J i,bsA T 34 true i 0 [] J=some (.esl,J):=fun _ _=>rfl
  refine Sz tok [0] [2] q2 (appe34 hl2) ?_
  obtain rfl:=oi H
  refine Kp [2] ?_
  exact V2 j0 (N0+5) (N0+3)
 .
  refine Ci H ?_ ?_<;>intro H
  .refine qA [2] ?_
   cases oj H
   refine Kp [2] ?_
   refine gNilS Wre 2 36 5 [(N0+2,some ⟨36,5,eL rQuad ([]:List gQuad)⟩)] [(2,.sl (N0+2) 0 ([]:List gQuad).length)] (by simp(disch:=omega)) (by simp(disch:=omega) [eN]) [2] rfl ?_
   exact V2 j0 (N0+3) (N0+2)
  refine Js hK1 ?_
  obtain⟨l1,hl1,H⟩:=bE H
  have q1:∀J i,bsA T 34 true i 0 [] J=some (.esl,J):=fun _ _=>rfl
  refine Sz tok [0] [2] q1 (appe34 hl1) ?_
  obtain rfl:=oi H
  refine Kp [2] ?_
  exact V2 j0 (N0+5) (N0+3)

theorem c23 {p0:List gQuad}{r:(List gQuad)×Bool}(H:vF p0=some r):APure Tryz.prog G 23 [.fsl (eL rQuad p0)] (.tup [.fsl (eL rQuad r.1),.bool r.2]):=by
 refine qK func23 ntmps23 results23 fun N0=>?_
 unfold vF at H
 refine qA [0] ?_
 refine Wsq [0] fun K1 hK1=>?_
 obtain⟨r1,hr1,H⟩:=bE H
 refine qD [0,9] (c50 hr1) ?_
 refine Ci H ?_ ?_<;>intro H
 .refine qA [2,3] ?_
  cases oj H;exact W4
 refine Js hK1 ?_
 obtain⟨r2,hr2,H⟩:=bE H
 refine kT tok [] [0,4] (fun a J=>∃M1 o1:Nat,N0+8<=M1/\N0+8<=o1/\o1<M1/\a=[(0,.fsl (eL rQuad p0)),(4,.sl o1 0 r2.length)]/\J=hp E0 [(o1,some ⟨36,5,eL rQuad r2⟩)] M1) (fun K hK=>?_) ?_
 .skip
  refine m0 ?_
  refine mo (c59_o (H:=hr2)) fun M1 o1 fM1_0 fM1_1 fM1_2=>?_
  refine m2 @hoS @hoN ?_
  exact hK _ _ ⟨M1,o1,(by omega),(by omega),(by omega),rfl,rfl⟩
 rintro a J ⟨M1,o1,fM1_0,fM1_1,fM1_2,rfl,rfl⟩
 refine Wsq [4] fun K2 hK2=>?_
 obtain⟨r3,hr3,H⟩:=bE H
 refine qD [4,13,14,15] (c60 hr3) ?_
 refine Wb ?_
 obtain⟨e1,hse1,H⟩:=bE H
 refine zP [4,13,14,15] (fun s a J=>∃M2 o2:Nat,N0<=M2/\N0<=o2/\o2<M2/\a=[(4,.sl o2 0 s.2.length),(13,.fsl (eL rI r3)),(14,.int .i64 (ilen r3)),(15,.int .i64 s.1)]/\J=hp E0 [(o2,some ⟨36,5,eL rQuad s.2⟩)] M2) (fun s x a J=>x=.exit 0/\Rc G 27 N0 (fun a J=>∃M3 o3:Nat,N0<=M3/\N0<=o3/\o3<M3/\a=[(4,.sl o3 0 s.length)]/\J=hp E0 [(o3,some ⟨36,5,eL rQuad s⟩)] M3) (AAct.keep a [4]) J) hse1 ?_ ?_ ?_
 .refine kp [4,13,14,15] ?_
  exact R2 (M1+4) o1
 .clear H hse1
  rintro⟨s4,s5⟩ fl a J H ⟨M2,o2,fM2_0,fM2_1,fM2_2,rfl,rfl⟩ K3 O3 hK3 hO3
  unfold qQ at H;dsimp only at H
  refine qA [4,13,14,15,16] ?_
  refine Wsq [4,13,14,15] fun K4 hK4=>?_
  refine Ci H ?_ ?_<;>intro H
  .refine Js hK4 ?_
   refine Wsq [4,13,14,15] fun K5 hK5=>?_
   refine Wb ?_
   obtain⟨v7,hv7,H⟩:=bE H
   refine qB [4,6,13,14,15] (ix23 hv7) ?_
   obtain⟨v8,hv8,H⟩:=bE H
   obtain⟨l9,hl9,H⟩:=bE H
   refine Rt tok [] [4,13,14,15] (by intro K k;simp -dsimp -implicitDefEqProofs [ixo34 hv8,(zL hv8).2.2,(setx_iff.1 hl9).2.symm];exact k) fun a ha=>?_
   (try rw[<- zK hl9] at ha);(try rw[<- zK hl9])
   refine hK5 _ _ ?_;rw[ha]
   refine Rc.mk ?_
   obtain rfl:=oi H
   refine qI hK3 ?_
   exact R2 (M2+13) o2
  cases oj H
  refine zJ (hO3 _ _ _ _ rfl ⟨rfl,?_⟩)
  refine kr ?_
  exact R2 (M2+1) o2
 intro x a J hx
 obtain⟨y6,rfl⟩:∃x,x=e1:=⟨_,rfl⟩
 obtain⟨rfl,b,U,hr,M3,o3,fM3_0,fM3_1,fM3_2,rfl,rfl⟩:=hx
 (try dsimp only at H)
 show K2 _ _
 refine hK2 _ _ (zD hr ?_)
 refine Rc.mk ?_
 refine qA [2,3] ?_
 cases oj H;exact W4

theorem c24 {p0:List Int}{p1:(List (List gQuad))}{p2:(List (List gQuad))}{p3:Int}{r:Bool}(H:pR p0 p1 p2 p3=some r):APure Tryz.prog G 24 [.fsl (eL rI p0),.fsl (eL zA p1),.fsl (eL zA p2),.int .i64 p3] (.bool r):=by
 refine qK func24 ntmps24 results24 fun N0=>?_
 unfold pR at H
 refine qA [0,1,2,3] ?_
 obtain⟨r1,hr1,H⟩:=bE H
 refine qD [0,1,2,3,9] (c17 hr1) ?_
 obtain⟨g4,hg4,H⟩:=bE H
 refine cK tok tokM [] [1,7] [0,3,4,1,2,5,6,8,9,10,11,7,12,13,14] [8] (fun a J=>a=[(8,.bool g4)]/\J=hp E0 [(N0+5,some ⟨30,6,[[.fsl (eL zA r1.Codes),.fsl (eL zB r1.Threads),.fsl (eL rBox r1.Boxes),.int .i64 r1.Turn,.int .i64 r1.Idle,.fsl (eL rI r1.Out)]]⟩)] (N0+22)) (by decide) (fun K hK=>?_) ?_
 .simp only[pickL,zF,zG]
  refine m0 ?_
  cases hbg4:ieq (ilen r1.Threads) (ilen p1)
  .cases oj (ifF hbg4 hg4)
   refine m1 hbg4 ?_
   exact hK _ _ ⟨rfl,rfl⟩
  replace hg4:=ifT hbg4 hg4
  obtain⟨r2,hr2,hg4⟩:=bE hg4
  obtain⟨r3,hr3,hg4⟩:=bE hg4
  cases oj hg4
  refine m1 hbg4 ?_
  refine Pc.mk (c17 hr2) (m1 hbg4 ?_)
  refine Pc.mk (c22 hr3) (m1 hbg4 ?_)
  exact hK _ _ ⟨rfl,rfl⟩
 rintro a J ⟨rfl,rfl⟩
 cases oj H;exact W4

theorem c6 {p0:List Int}{p1:List Int}{r:Bool}(H:hU p0 p1=some r):APure Tryz.prog G 6 [.fsl (eL rU8 p0),.fsl (eL rU8 p1)] (.bool r):=by
 refine qK func6 ntmps6 results6 fun N0=>?_
 unfold hU at H
 refine qA [0,1] ?_
 refine Wsq [0,1] fun K1 hK1=>?_
 obtain⟨g1,hg1,H⟩:=bE H
 refine qF tok [0,1,22] ([(0,.fsl (eL rU8 p0)),(1,.fsl (eL rU8 p1)),(22,.bool g1)]) (hp E0 [] (N0+9)) (by
  intro K k
  refine m0 ?_
  cases hbg1:igt (ilen p0) 1048576
  .cases oj (ifF hbg1 hg1)
   exact m1 hbg1 k
  cases oj (ifT hbg1 hg1)
  refine m1 hbg1 ?_
  exact k) ?_
 refine Ci H ?_ ?_<;>intro H
 .refine qA [4] ?_
  cases oj H;exact W4
 refine Js hK1 ?_
 obtain⟨r2,hr2,H⟩:=bE H
 refine qD [1,5,6] (c12 hr2) ?_
 obtain⟨r3,hr3,H⟩:=bE H
 refine qD [1,5,6,7,8] (c13 hr3) ?_
 obtain⟨r4,hr4,H⟩:=bE H
 refine qD [1,5,6,7,8,9,10] (c14 hr4) ?_
 refine Wsq [1,5,6] fun K2 hK2=>?_
 obtain⟨g6,hg6,H⟩:=bE H
 obtain⟨g7,hg7,H⟩:=bE H
 refine qF tok [1,5,6,7,8,9,10,52] ([(1,.fsl (eL rU8 p1)),(5,.fsl (eL rI r2.1)),(6,.fsl (eL zA r2.2)),(7,.ptr (N0+22) 0 0),(8,.bool r3.2),(9,.ptr (N0+31) 0 0),(10,.bool r4.2),(52,.bool g7)]) (hp E0 [(N0+22,some ⟨30,6,[[.fsl (eL zA r3.1.Codes),.fsl (eL zB r3.1.Threads),.fsl (eL rBox r3.1.Boxes),.int .i64 r3.1.Turn,.int .i64 r3.1.Idle,.fsl (eL rI r3.1.Out)]]⟩),(N0+31,some ⟨30,6,[[.fsl (eL zA r4.1.Codes),.fsl (eL zB r4.1.Threads),.fsl (eL rBox r4.1.Boxes),.int .i64 r4.1.Turn,.int .i64 r4.1.Idle,.fsl (eL rI r4.1.Out)]]⟩)] (N0+47)) (by
  intro K k
  refine m0 ?_
  cases hbg6:bneb r3.2 r4.2
  .replace hg6:=ifF hbg6 hg6
   obtain⟨r5,hr5,hg6⟩:=bE hg6
   obtain rfl:=oi hg6
   refine m1 hbg6 ?_
   refine(c15 hr5).app (m1 hbg6 ?_)
   cases hbg7:(bnot r5)
   .cases oj (ifF hbg7 hg7)
    exact m2 hbg6 hbg7 k
   cases oj (ifT hbg7 hg7)
   exact m2 hbg6 hbg7 k
  cases oj (ifT hbg6 hg6)
  cases oj (ifT rfl hg7)
  refine m1 hbg6 ?_
  exact k) ?_
 refine Ci H ?_ ?_<;>intro H
 .obtain⟨g9,hg9,H⟩:=bE H
  refine qF tok [4] ([(4,.bool g9)]) (hp E0 [(N0+22,some ⟨30,6,[[.fsl (eL zA r3.1.Codes),.fsl (eL zB r3.1.Threads),.fsl (eL rBox r3.1.Boxes),.int .i64 r3.1.Turn,.int .i64 r3.1.Idle,.fsl (eL rI r3.1.Out)]]⟩),(N0+31,some ⟨30,6,[[.fsl (eL zA r4.1.Codes),.fsl (eL zB r4.1.Threads),.fsl (eL rBox r4.1.Boxes),.int .i64 r4.1.Turn,.int .i64 r4.1.Idle,.fsl (eL rI r4.1.Out)]]⟩)] (N0+56)) (by
   intro K k
   refine m0 ?_
   cases hbg9:beqb r3.2 r4.2
   .cases oj (ifF hbg9 hg9)
    exact m1 hbg9 k
   replace hg9:=ifT hbg9 hg9
   obtain⟨r8,hr8,hg9⟩:=bE hg9
   cases oj hg9
   refine m1 hbg9 ?_
   refine(c15 hr8).app (m1 hbg9 ?_)
   exact k) ?_
  cases oj H;exact W4
 refine Js hK2 ?_
 have q0:∀J i,bsA T 24 true i 0 [] J=some (.esl,J):=fun _ _=>rfl
 refine Sy tok [0] [1,5,6,11] q0 ?_
 refine Wsq [1,5,6,11] fun K3 hK3=>?_
 refine qA [1,5,6,11,12] ?_
 refine Wb ?_
 obtain⟨e1,hse1,H⟩:=bE H
 refine zP [1,5,6,11,12] (fun s a J=>∃M1 o1:Nat,N0<=M1/\N0<=o1/\o1<M1/\a=[(1,.fsl (eL rU8 p1)),(5,.fsl (eL rI r2.1)),(6,.fsl (eL zA r2.2)),(11,.sl o1 0 s.2.length),(12,.int .i64 s.1)]/\J=hp E0 [(o1,some ⟨34,1,eL zA s.2⟩)] M1) (fun e x a J=>match e with|.inl s=>x=.exit 0/\Rc G 89 N0 (fun a J=>∃M2 o2:Nat,N0<=M2/\N0<=o2/\o2<M2/\a=[(1,.fsl (eL rU8 p1)),(5,.fsl (eL rI r2.1)),(6,.fsl (eL zA r2.2)),(11,.sl o2 0 s.length)]/\J=hp E0 [(o2,some ⟨34,1,eL zA s⟩)] M2) (AAct.keep a [1,5,6,11]) J|.inr s=>x=.ret/\∃vs,resA T J a [.tmp 4]=some vs/\∃d,thawA (fun _=>true) J d (tupA vs)=.bool s) hse1 ?_ ?_ ?_
 .refine kp [1,5,6,11,12] ?_
  refine gNilS zD 11 34 1 [(N0+22,some ⟨30,6,[[.fsl (eL zA r3.1.Codes),.fsl (eL zB r3.1.Threads),.fsl (eL rBox r3.1.Boxes),.int .i64 r3.1.Turn,.int .i64 r3.1.Idle,.fsl (eL rI r3.1.Out)]]⟩),(N0+31,some ⟨30,6,[[.fsl (eL zA r4.1.Codes),.fsl (eL zB r4.1.Threads),.fsl (eL rBox r4.1.Boxes),.int .i64 r4.1.Turn,.int .i64 r4.1.Idle,.fsl (eL rI r4.1.Out)]]⟩),(N0+50,some ⟨34,1,eL zA ([]:List (List gQuad))⟩)] [(1,.fsl (eL rU8 p1)),(5,.fsl (eL rI r2.1)),(6,.fsl (eL zA r2.2)),(11,.sl (N0+50) 0 ([]:List (List gQuad)).length),(12,.int .i64 0)] (by simp(disch:=omega)) (by simp(disch:=omega) [eN]) [1,5,6,11,12] rfl ?_
  exact Rc.fin (AHeap.Sub.trans (AHeap.Sub.trans (zI (AHeap.Sub.refl _)) (zR rfl (by simp;try omega))) (zR rfl (by simp;try omega))) ⟨N0+51,(N0+50),(by omega),(by omega),(by omega),rfl,rfl⟩
 .clear H hse1
  rintro⟨s10,s11⟩ fl a J H ⟨M1,o1,fM1_0,fM1_1,fM1_2,rfl,rfl⟩ K4 O4 hK4 hO4
  unfold cF at H;dsimp only at H
  refine Wsq [1,5,6,11,12] fun K5 hK5=>?_
  refine qA [1,5,6,11,12,65] ?_
  refine Ci H ?_ ?_<;>intro H
  .refine Js hK5 ?_
   refine Wsq [1,5,6,11,12] fun K6 hK6=>?_
   refine Wb ?_
   obtain⟨v13,hv13,H⟩:=bE H
   obtain⟨r14,hr14,H⟩:=bE H
   refine qE [1,5,6,11,12,13,14] (ix24 hv13) (c23 hr14) ?_
   refine Wsq [1,5,6,11,12,13] fun K7 hK7=>?_
   refine qA [1,5,6,11,12,13,77] ?_
   refine Ci H ?_ ?_<;>intro H
   .refine qA [4] ?_
    cases oj H
    refine Kp [4] ?_
    refine Wr (hO4 _ _ _ _ rfl ⟨rfl,?_⟩)
    exact⟨[.bool false],by simp,4,by simp[eN]⟩
   refine Js hK7 ?_
   obtain⟨l15,hl15,H⟩:=bE H
   have q1:∀J i,bsA T 24 true i 1 [(0,.fsl (eL rQuad r14.1))] J=some (.fsl (eL zA ([r14.1]:List (List gQuad))),J):=fun _ _=>rfl
   have e0:=nQ o1 (M1+19)
   refine Rb tok [2] (j e0 (j q1 (app24 hl15))) hK6 ?_
   obtain rfl:=oi H
   refine qI hK4 ?_
   exact R2 (M1+24) (M1+19)
  obtain rfl:=oi H
  refine zJ (hO4 _ _ _ _ rfl ⟨rfl,?_⟩)
  refine kr ?_
  exact R2 (M1+4) o1
 intro x a J hx
 rcases e1 with y12|r0
 .obtain⟨rfl,b,U,hr,M2,o2,fM2_0,fM2_1,fM2_2,rfl,rfl⟩:=hx
  (try dsimp only at H)
  show K3 _ _
  refine hK3 _ _ (zD hr ?_)
  refine Rc.mk ?_
  obtain⟨v16,hv16,H⟩:=bE H
  obtain⟨r17,hr17,H⟩:=bE H
  refine kT tok [] [4] (fun a J=>a=[(4,.bool r17)]/\J=hp E0 [(o2,some ⟨34,1,eL zA y12⟩)] (M2+8)) (fun K hK=>?_) ?_
  .skip
   refine m1 hv16 ?_
   refine(borrow 8 (c24 hr17) (by simp[hv16]) rfl).mono ?_;rintro _ _ ⟨rfl,rfl⟩;try simp -dsimp -implicitDefEqProofs [hv16]
   exact hK _ _ ⟨rfl,rfl⟩
  rintro a J ⟨rfl,rfl⟩
  cases oj H;exact W4
 obtain⟨rfl,hx2⟩:=hx
 (try dsimp only at H)
 cases oj H;first|exact hx2|(simp only[List.set_set] at hx2 ⊢;exact hx2)
end Go.Proofs.YtolmjhgondilhaaGreat
