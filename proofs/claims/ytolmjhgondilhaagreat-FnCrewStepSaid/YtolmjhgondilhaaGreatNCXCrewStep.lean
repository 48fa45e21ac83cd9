/- The contracts of functions of the program (CXCrewStep): each computes what its mirror computes. No conditions. -/
import Derived.Test.YtolmjhgondilhaaGreatNCNCrewStep
import Derived.Test.YtolmjhgondilhaaGreatNCT3
set_option linter.unusedSimpArgs false
set_option linter.unusedVariables false
set_option maxRecDepth 20000
set_option maxHeartbeats 4000000
namespace Go.Proofs.YtolmjhgondilhaaGreat
open Go Go.Abs Go.RowKit Tryz

theorem c42 {p0:gL6Rd}{r:(List (List gQuad))×gL6Rd}(H:vA p0=some r){J:AHeap}{w0:Nat}{W0:List (List AV)}{r0_:Nat}(q0:J.objs w0=some ⟨105,2,W0⟩)(g0:W0[r0_]? =some [.fsl (eL rU8 p0.b),.int .i64 p0.p]):ACalls Tryz.prog G 42 [.ptr w0 r0_ 0] J (fun v J'=>∃M:Nat,J.next<=M/\v=.fsl (eL zA r.1)/\J'=hp J.objs [(w0,some ⟨105,2,W0.set r0_ [.fsl (eL rU8 r.2.b),.int .i64 r.2.p]⟩)] M):=by
 refine fr1 ([(w0,some ⟨105,2,W0⟩)]) (by simp[q0]) (fun hlt=>?_) ⟨_,func42,rfl,rfl⟩
 generalize J.next=N0 at hlt ⊢
 have lw0:w0<N0:=hlt _ (.head _) rfl
 have gs_W0:∀x,(W0.set r0_ x)[r0_]? =some x:=gsetW g0
 rw[<- zY g0]
 refine fnK tok func42 ntmps42 results42 ?_
 simp only[argsA,Nat.reduceAdd,hpN]
 unfold vA at H
 refine qB [0] gs_W0 ?_
 have q0:∀J i,bsA T 24 true i 0 [] J=some (.esl,J):=fun _ _=>rfl
 refine Sz tok [0] [0,3] gs_W0 q0 ?_
 obtain⟨r1,hr1,H⟩:=bE H
 refine Sm tok [] [0,3,4] (N0+7) (by
  intro K k
  refine m1 gs_W0 ?_
  refine mc gs_W0 (c41 (r0_:=r0_) (H:=hr1)) fun M1 fM1_0=>?_
  refine m1 (j gs_W0 (j @hoS @hoN)) ?_
  exact k M1 (by omega)) fun M1 fM1_0=>?_
 refine Wsq [3] fun K1 hK1=>?_
 refine qB [0,3,4,5] gs_W0 ?_
 refine Wb ?_
 obtain⟨e1,hse1,H⟩:=bE H
 refine zP [0,3,4,5] (fun s a J=>∃M2 o1:Nat,N0<=M2/\N0<=o1/\o1<M2/\a=[(0,.ptr w0 r0_ 0),(3,.sl o1 0 s.2.2.length),(4,.int .i64 (iadd .i64 1 r1.1)),(5,.int .i64 s.1)]/\J=hp E0 [(w0,some ⟨105,2,W0.set r0_ [.fsl (eL rU8 s.2.1.b),.int .i64 s.2.1.p]⟩),(o1,some ⟨34,1,eL zA s.2.2⟩)] M2) (fun s x a J=>x=.exit 0/\Rc G 21 N0 (fun a J=>∃M3 o2:Nat,N0<=M3/\N0<=o2/\o2<M3/\a=[(3,.sl o2 0 s.2.length)]/\J=hp E0 [(w0,some ⟨105,2,W0.set r0_ [.fsl (eL rU8 s.1.b),.int .i64 s.1.p]⟩),(o2,some ⟨34,1,eL zA s.2⟩)] M3) (AAct.keep a [3]) J) hse1 ?_ ?_ ?_
 .refine kp [0,3,4,5] ?_
  refine gNilS zD 3 34 1 [(w0,some ⟨105,2,W0.set r0_ [.fsl (eL rU8 r1.2.b),.int .i64 r1.2.p]⟩),(M1+1,some ⟨34,1,eL zA ([]:List (List gQuad))⟩)] [(0,.ptr w0 r0_ 0),(3,.sl (M1+1) 0 ([]:List (List gQuad)).length),(4,.int .i64 (iadd .i64 1 r1.1)),(5,.int .i64 0)] (by simp(disch:=omega)) (by simp(disch:=omega) [eN]) [0,3,4,5] rfl ?_
  exact R2 (M1+2) (M1+1)
 .clear H hse1
  rintro⟨s2,s3,s4⟩ fl a J H ⟨M2,o1,fM2_0,fM2_1,fM2_2,rfl,rfl⟩ K2 O2 hK2 hO2
  unfold sT at H;dsimp only at H
  refine Wsq [0,3,4,5] fun K3 hK3=>?_
  have e0:=nQ w0 o1
  refine qC [0,3,4,5,12] e0 gs_W0 ?_
  refine Ci H ?_ ?_<;>intro H
  .refine Js hK3 ?_
   refine Wsq [0,3,4,5] fun K4 hK4=>?_
   refine Wb ?_
   obtain⟨r7,hr7,H⟩:=bE H
   obtain⟨l8,hl8,H⟩:=bE H
   have q1:∀J i,bsA T 24 true i 1 [(0,.fsl (eL rQuad r7.1))] J=some (.fsl (eL zA ([r7.1]:List (List gQuad))),J):=fun _ _=>rfl
   refine uT tok [3] [0,3,4,5] (fun a J=>∃M4:Nat,M2+9<=M4/\a=[(0,.ptr w0 r0_ 0),(3,.sl (M2+7) 0 l8.length),(4,.int .i64 (iadd .i64 1 r1.1)),(5,.int .i64 s2)]/\J=hp E0 [(w0,some ⟨105,2,W0.set r0_ [.fsl (eL rU8 r7.2.b),.int .i64 r7.2.p]⟩),(M2+7,some ⟨34,1,eL zA l8⟩)] M4) (fun K hK=>?_) ?_
   .skip
    have e0:=nQ w0 o1
    have e1:=nQ w0 (M2+7)
    have e2:=nQ o1 (M2+7)
    refine m1 (j e0 (j e1 (j e2 (j gs_W0 (j q1 (app24 hl8)))))) ?_
    refine mc (j e0 (j e1 (j e2 (j gs_W0 (j q1 (app24 hl8)))))) (c75 (r0_:=r0_) (H:=hr7)) fun M4 fM4_0=>?_
    refine m1 (j e0 (j e1 (j e2 (j gs_W0 (j q1 (j (app24 hl8) (j @hoS @hoN))))))) ?_
    exact hK _ _ ⟨M4,(by omega),rfl,rfl⟩
   rintro a J ⟨M4,fM4_0,ha,rfl⟩
   refine hK4 _ _ ?_;rw[ha]
   refine Rc.mk ?_
   have e0:=nQ w0 (M2+7)
   obtain rfl:=oi H
   refine qJ (j e0 gs_W0) hK2 ?_
   exact R2 (M4+3) (M2+7)
  cases oj H
  refine zJ (hO2 _ _ _ _ rfl ⟨rfl,?_⟩)
  refine kr ?_
  exact R2 (M2+3) o1
 intro x a J hx
 obtain⟨y5,y6⟩:=e1
 obtain⟨rfl,b,U,hr,M3,o2,fM3_0,fM3_1,fM3_2,rfl,rfl⟩:=hx
 (try dsimp only at H)
 show K1 _ _
 refine hK1 _ _ (zD hr ?_)
 refine Rc.mk ?_
 have e0:=nQ w0 o2
 refine qC [2] e0 gs_W0 ?_
 obtain rfl:=oi H
 refine Kp [2] ?_
 have z0:=nQ w0 o2
 refine gFrz Wre 4 [o2] [(w0,some ⟨105,2,W0.set r0_ [.fsl (eL rU8 y5.b),.int .i64 y5.p]⟩)] [(2,.fsl (eL zA y6))] (by simp[z0]) (cutD (by simp[z0])) ?_
 exact V1 gs_W0 (M3+2)

theorem c91 {p0:List gBox}{r:List gBox}(H:kD p0=some r):APure Tryz.prog G 91 [.fsl (eL rBox p0)] (.fsl (eL rBox r)):=by
 refine qK func91 ntmps91 results91 fun N0=>?_
 unfold kD at H
 refine qA [0] ?_
 have q0:∀J i,bsA T 28 true i 0 [] J=some (.esl,J):=fun _ _=>rfl
 refine Sy tok [0] [0,3] q0 ?_
 refine Wsq [3] fun K1 hK1=>?_
 refine qA [0,3,4] ?_
 refine Wb ?_
 obtain⟨e1,hse1,H⟩:=bE H
 refine zP [0,3,4] (fun s a J=>∃M1 o1:Nat,N0<=M1/\N0<=o1/\o1<M1/\a=[(0,.fsl (eL rBox p0)),(3,.sl o1 0 s.2.length),(4,.int .i64 s.1)]/\J=hp E0 [(o1,some ⟨103,2,eL rBox s.2⟩)] M1) (fun s x a J=>x=.exit 0/\Rc G 29 N0 (fun a J=>∃M2 o2:Nat,N0<=M2/\N0<=o2/\o2<M2/\a=[(3,.sl o2 0 s.length)]/\J=hp E0 [(o2,some ⟨103,2,eL rBox s⟩)] M2) (AAct.keep a [3]) J) hse1 ?_ ?_ ?_
 .refine kp [0,3,4] ?_
  refine gNilS zD 3 103 2 [(N0+4,some ⟨103,2,eL rBox ([]:List gBox)⟩)] [(0,.fsl (eL rBox p0)),(3,.sl (N0+4) 0 ([]:List gBox).length),(4,.int .i64 0)] (by simp(disch:=omega)) (by simp(disch:=omega) [eN]) [0,3,4] rfl ?_
  exact R2 (N0+5) (N0+4)
 .clear H hse1
  rintro⟨s1,s2⟩ fl a J H ⟨M1,o1,fM1_0,fM1_1,fM1_2,rfl,rfl⟩ K2 O2 hK2 hO2
  unfold yC at H;dsimp only at H
  refine Wsq [0,3,4] fun K3 hK3=>?_
  refine qA [0,3,4,9] ?_
  refine Ci H ?_ ?_<;>intro H
  .refine Js hK3 ?_
   refine Wsq [0,3,4] fun K4 hK4=>?_
   refine Wb ?_
   obtain⟨v4,hv4,H⟩:=bE H
   obtain⟨l5,hl5,H⟩:=bE H
   obtain⟨l6,hl6,H⟩:=bE H
   have q1:∀J i,bsA T 23 true i 0 [] J=some (.esl,J):=fun _ _=>rfl
   have q2:∀J i,bsA T 28 true i 1 [(0,.agg [.int .i64 v4.Room,.fsl (eL rI l5)])] J=some (.fsl (eL rBox ([(⟨v4.Room,l5⟩:gBox)]:List gBox)),J):=fun _ _=>rfl
   refine vI tok tokM [6,12,14] [15] [0,1,2,3,4,5,6,7,8,9,10,11,12,13,14,15,16] [0,3,4] (fun a J=>a=[(0,.fsl (eL rBox p0)),(3,.sl (M1+19) 0 l6.length),(4,.int .i64 s1)]/\J=hp E0 [(M1+19,some ⟨103,2,eL rBox l6⟩)] (M1+21)) (by decide) (fun K hK=>?_) ?_
   .simp only[pickL,zF,zG]
    have e0:=nQ o1 (M1+19)
    refine m1 (j e0 (j (ix28 hv4) (j q1 (j (nO hl5) (j q2 (app28 hl6)))))) ?_
    exact hK _ _ ⟨rfl,rfl⟩
   rintro a J ⟨ha,rfl⟩
   refine hK4 _ _ ?_;rw[ha]
   refine Rc.mk ?_
   obtain rfl:=oi H
   refine qI hK2 ?_
   exact R2 (M1+24) (M1+19)
  cases oj H
  refine zJ (hO2 _ _ _ _ rfl ⟨rfl,?_⟩)
  refine kr ?_
  exact R2 (M1+4) o1
 intro x a J hx
 obtain⟨y3,rfl⟩:∃x,x=e1:=⟨_,rfl⟩
 obtain⟨rfl,b,U,hr,M2,o2,fM2_0,fM2_1,fM2_2,rfl,rfl⟩:=hx
 (try dsimp only at H)
 show K1 _ _
 refine hK1 _ _ (zD hr ?_)
 refine Rc.mk ?_
 refine qA [2] ?_
 cases oj H;exact W4

theorem c92 {p0:gThread}{p1:Int}{r:gThread}(H:jJ p0 p1=some r):APure Tryz.prog G 92 [.agg [.fsl (eL rI p0.Regs),.int .i64 p0.Pc],.int .i64 p1] (.agg [.fsl (eL rI r.Regs),.int .i64 r.Pc]):=by
 refine qK func92 ntmps92 results92 fun N0=>?_
 unfold jJ at H
 refine S0 tok [0] [1,2,4] ?_
 obtain⟨l1,hl1,H⟩:=bE H
 have q0:∀J i,bsA T 23 true i 0 [] J=some (.esl,J):=fun _ _=>rfl
 refine Sz tok [0,3] [4] q0 (nO hl1) ?_
 obtain rfl:=oi H
 refine Kp [4] ?_
 exact V0

theorem c120 {p0:gBox}{p1:Int}{r:gBox×Bool}(H:qM p0 p1=some r):APure Tryz.prog G 120 [.agg [.int .i64 p0.Room,.fsl (eL rI p0.Items)],.int .i64 p1] (.tup [.agg [.int .i64 r.1.Room,.fsl (eL rI r.1.Items)],.bool r.2]):=by
 refine qK func120 ntmps120 results120 fun N0=>?_
 unfold qM at H
 refine S0 tok [0] [1,2,4] ?_
 refine Wsq [1,2,4] fun K1 hK1=>?_
 refine gW Wre (N0+1) 0 1 ?_
 obtain⟨r1,hr1,H⟩:=bE H
 obtain⟨g3,hg3,H⟩:=bE H
 obtain⟨g4,hg4,H⟩:=bE H
 refine qF tok [1,2,4,21] ([(1,.int .i64 p1),(2,.fptr [.int .i64 p0.Room,.fsl (eL rI p0.Items)] 0),(4,.ptr (N0+1) 0 0),(21,.bool g4)]) (hp E0 [(N0+1,some ⟨103,2,[[.int .i64 0,.fsl []]]⟩)] (N0+19)) (by
  intro K k
  refine m0 ?_
  refine(c102 hr1).app (m0 ?_)
  cases hbg3:bnot r1
  .replace hg3:=ifF hbg3 hg3
   obtain⟨r2,hr2,hg3⟩:=bE hg3
   obtain rfl:=oi hg3
   refine m1 hbg3 ?_
   refine(c106 hr2).app (m1 hbg3 ?_)
   cases hbg4:(bnot r2)
   .cases oj (ifF hbg4 hg4)
    exact m2 hbg3 hbg4 k
   cases oj (ifT hbg4 hg4)
   exact m2 hbg3 hbg4 k
  cases oj (ifT hbg3 hg3)
  cases oj (ifT rfl hg4)
  refine m1 hbg3 ?_
  exact k) ?_
 refine Ci H ?_ ?_<;>intro H
 .refine qA [4,5] ?_
  cases oj H
  refine Kp [4,5] ?_
  exact V0
 refine Js hK1 ?_
 obtain⟨l5,hl5,H⟩:=bE H
 obtain⟨l6,hl6,H⟩:=bE H
 have q0:∀J i,bsA T 23 true i 0 [] J=some (.esl,J):=fun _ _=>rfl
 have q1:∀J i,bsA T 23 true i 1 [(0,.int .i64 p1)] J=some (.fsl (eL rI ([p1]:List Int)),J):=fun _ _=>rfl
 refine Sd tok tokM [2,7] [5,8,10] [0,1,2,3,4,6,7,5,8,9,10,11] [4,5] (by
  intro K k
  simp only[pickL,zF,zG]
  refine m1 (j q0 (j q1 (j (mI hl5) (app23 hl6)))) ?_
  exact k) ?_
 obtain rfl:=oi H
 refine Kp [4,5] ?_
 exact V0

theorem c91_o {p0:List gBox}{r:List gBox}(H:kY p0=some r){J:AHeap}:ACalls Tryz.prog G 91 [.fsl (eL rBox p0)] J (fun v J'=>∃M n0:Nat,J.next<=M/\J.next<=n0/\n0<M/\v=.sl n0 0 r.length/\J'=hp J.objs [(n0,some ⟨103,2,eL rBox r⟩)] M):=by
 refine fr2 [] (by simp) (fun hlt=>?_) ⟨_,func91,rfl,rfl⟩
 generalize J.next=N0 at hlt ⊢
 refine fnK tok func91 ntmps91 results91 ?_
 simp only[argsA,Nat.reduceAdd,hpN]
 unfold kY at H
 refine qA [0] ?_
 have q0:∀J i,bsA T 28 true i 0 [] J=some (.esl,J):=fun _ _=>rfl
 refine Sy tok [0] [0,3] q0 ?_
 refine Wsq [3] fun K1 hK1=>?_
 refine qA [0,3,4] ?_
 refine Wb ?_
 obtain⟨e1,hse1,H⟩:=bE H
 refine zP [0,3,4] (fun s a J=>∃M1 o1:Nat,N0<=M1/\N0<=o1/\o1<M1/\a=[(0,.fsl (eL rBox p0)),(3,.sl o1 0 s.2.length),(4,.int .i64 s.1)]/\J=hp E0 [(o1,some ⟨103,2,eL rBox s.2⟩)] M1) (fun s x a J=>x=.exit 0/\Rc G 29 N0 (fun a J=>∃M2 o2:Nat,N0<=M2/\N0<=o2/\o2<M2/\a=[(3,.sl o2 0 s.length)]/\J=hp E0 [(o2,some ⟨103,2,eL rBox s⟩)] M2) (AAct.keep a [3]) J) hse1 ?_ ?_ ?_
 .refine kp [0,3,4] ?_
  refine gNilS zD 3 103 2 [(N0+4,some ⟨103,2,eL rBox ([]:List gBox)⟩)] [(0,.fsl (eL rBox p0)),(3,.sl (N0+4) 0 ([]:List gBox).length),(4,.int .i64 0)] (by simp(disch:=omega)) (by simp(disch:=omega) [eN]) [0,3,4] rfl ?_
  exact R2 (N0+5) (N0+4)
 .clear H hse1
  rintro⟨s1,s2⟩ fl a J H ⟨M1,o1,fM1_0,fM1_1,fM1_2,rfl,rfl⟩ K2 O2 hK2 hO2
  unfold jK at H;dsimp only at H
  refine Wsq [0,3,4] fun K3 hK3=>?_
  refine qA [0,3,4,9] ?_
  refine Ci H ?_ ?_<;>intro H
  .refine Js hK3 ?_
   refine Wsq [0,3,4] fun K4 hK4=>?_
   refine Wb ?_
   obtain⟨v4,hv4,H⟩:=bE H
   obtain⟨l5,hl5,H⟩:=bE H
   obtain⟨l6,hl6,H⟩:=bE H
   have q1:∀J i,bsA T 23 true i 0 [] J=some (.esl,J):=fun _ _=>rfl
   have q2:∀J i,bsA T 28 true i 1 [(0,.agg [.int .i64 v4.Room,.fsl (eL rI l5)])] J=some (.fsl (eL rBox ([(⟨v4.Room,l5⟩:gBox)]:List gBox)),J):=fun _ _=>rfl
   refine vI tok tokM [6,12,14] [15] [0,1,2,3,4,5,6,7,8,9,10,11,12,13,14,15,16] [0,3,4] (fun a J=>a=[(0,.fsl (eL rBox p0)),(3,.sl (M1+19) 0 l6.length),(4,.int .i64 s1)]/\J=hp E0 [(M1+19,some ⟨103,2,eL rBox l6⟩)] (M1+21)) (by decide) (fun K hK=>?_) ?_
   .simp only[pickL,zF,zG]
    have e0:=nQ o1 (M1+19)
    refine m1 (j e0 (j (ix28 hv4) (j q1 (j (nO hl5) (j q2 (app28 hl6)))))) ?_
    exact hK _ _ ⟨rfl,rfl⟩
   rintro a J ⟨ha,rfl⟩
   refine hK4 _ _ ?_;rw[ha]
   refine Rc.mk ?_
   obtain rfl:=oi H
   refine qI hK2 ?_
   exact R2 (M1+24) (M1+19)
  cases oj H
  refine zJ (hO2 _ _ _ _ rfl ⟨rfl,?_⟩)
  refine kr ?_
  exact R2 (M1+4) o1
 intro x a J hx
 obtain⟨y3,rfl⟩:∃x,x=e1:=⟨_,rfl⟩
 obtain⟨rfl,b,U,hr,M2,o2,fM2_0,fM2_1,fM2_2,rfl,rfl⟩:=hx
 (try dsimp only at H)
 show K1 _ _
 refine hK1 _ _ (zD hr ?_)
 refine Rc.mk ?_
 refine qA [2] ?_
 obtain rfl:=oi H
 refine Kp [2] ?_
 exact V2 j0 (M2+2) o2

theorem c121 {p0:gBox}{r:gBox×Int×Bool}(H:uE p0=some r):APure Tryz.prog G 121 [.agg [.int .i64 p0.Room,.fsl (eL rI p0.Items)]] (.tup [.agg [.int .i64 r.1.Room,.fsl (eL rI r.1.Items)],.int .i64 r.2.1,.bool r.2.2]):=by
 refine qK func121 ntmps121 results121 fun N0=>?_
 unfold uE at H
 refine S0 tok [0] [1,2] ?_
 refine Wsq [1,2] fun K1 hK1=>?_
 refine gW Wre (N0+1) 0 1 ?_
 obtain⟨r1,hr1,H⟩:=bE H
 obtain⟨g2,hg2,H⟩:=bE H
 refine qF tok [1,2,13] ([(1,.fptr [.int .i64 p0.Room,.fsl (eL rI p0.Items)] 0),(2,.ptr (N0+1) 0 0),(13,.bool g2)]) (hp E0 [(N0+1,some ⟨103,2,[[.int .i64 0,.fsl []]]⟩)] (N0+13)) (by
  intro K k
  refine m0 ?_
  refine(c102 hr1).app (m0 ?_)
  cases hbg2:bnot r1
  .cases oj (ifF hbg2 hg2)
   exact m1 hbg2 k
  cases oj (ifT hbg2 hg2)
  refine m1 hbg2 ?_
  exact k) ?_
 refine Ci H ?_ ?_<;>intro H
 .refine qA [2,3,4] ?_
  cases oj H
  refine Kp [2,3,4] ?_
  exact V0
 refine Js hK1 ?_
 obtain⟨l3,hl3,H⟩:=bE H
 obtain⟨l4,hl4,H⟩:=bE H
 obtain⟨v5,hv5,H⟩:=bE H
 have q0:∀J i,bsA T 23 true i 0 [] J=some (.esl,J):=fun _ _=>rfl
 refine Sd tok tokM [2,6] [12] [0,1,2,3,4,5,6,7,8,9,10,11,12,13,14] [2,3,4] (by
  intro K k
  simp only[pickL,zF,zG]
  refine m1 (j q0 (j (cutl_23 hl3) (j (nO hl4) (ix23 hv5)))) ?_
  exact k) ?_
 obtain rfl:=oi H
 refine Kp [2,3,4] ?_
 exact V0

theorem c122 {p0:gThread}{p1:Int}{p2:Int}{p3:Int}{r:gThread}(H:wS p0 p1 p2 p3=some r):APure Tryz.prog G 122 [.agg [.fsl (eL rI p0.Regs),.int .i64 p0.Pc],.int .i64 p1,.int .i64 p2,.int .i64 p3] (.agg [.fsl (eL rI r.Regs),.int .i64 r.Pc]):=by
 refine qK func122 ntmps122 results122 fun N0=>?_
 unfold wS at H
 refine S0 tok [0] [1,2,3,4,8] ?_
 obtain⟨l1,hl1,H⟩:=bE H
 have q0:∀J i,bsA T 23 true i 0 [] J=some (.esl,J):=fun _ _=>rfl
 refine Sz tok [0] [1,2,8,9] q0 (mI hl1) ?_
 obtain⟨v2,hv2,H⟩:=bE H
 obtain⟨l3,hl3,H⟩:=bE H
 refine qB [8,9] (j (ixo23 hv2) (j ((zL hv2).2.2) ((setx_iff.1 hl3).2.symm))) ?_
 try rw[<- zK hl3]
 refine qA [8] ?_
 obtain rfl:=oi H
 refine Kp [8] ?_
 exact V0

theorem c111 {p0:gQuad}{p1:gThread}{p2:List gBox}{r:gThread×(List gBox)×Int}(H:tW p0 p1 p2=some r):APure Tryz.prog G 111 [.agg [.int .i64 p0.Op,.int .i64 p0.Dst,.int .i64 p0.A,.int .i64 p0.B,.int .i64 p0.N],.agg [.fsl (eL rI p1.Regs),.int .i64 p1.Pc],.fsl (eL rBox p2)] (.tup [.agg [.fsl (eL rI r.1.Regs),.int .i64 r.1.Pc],.fsl (eL rBox r.2.1),.int .i64 r.2.2]):=by
 refine qK func111 ntmps111 results111 fun N0=>?_
 unfold tW at H
 refine S0 tok [0,1] [2,3,4,6] ?_
 refine gW Wre (N0+2) 0 0 ?_
 obtain⟨r1,hr1,H⟩:=bE H
 refine kT tok [] [2,3,4,6,9] (fun a J=>∃M1 o1:Nat,N0+8<=M1/\N0+8<=o1/\o1<M1/\a=[(2,.fsl (eL rBox p2)),(3,.fptr [.int .i64 p0.Op,.int .i64 p0.Dst,.int .i64 p0.A,.int .i64 p0.B,.int .i64 p0.N] 0),(4,.fptr [.fsl (eL rI p1.Regs),.int .i64 p1.Pc] 0),(6,.ptr (N0+2) 0 0),(9,.sl o1 0 r1.length)]/\J=hp E0 [(N0+2,some ⟨42,2,[[.fsl [],.int .i64 0]]⟩),(o1,some ⟨103,2,eL rBox r1⟩)] M1) (fun K hK=>?_) ?_
 .skip
  refine m0 ?_
  refine mo (c91_o (H:=hr1)) fun M1 o1 fM1_0 fM1_1 fM1_2=>?_
  have eM1_0:=nQ o1 (N0+2)
  refine m1 (j eM1_0 (j @hoS @hoN)) ?_
  exact hK _ _ ⟨M1,o1,(by omega),(by omega),(by omega),rfl,rfl⟩
 rintro a J ⟨M1,o1,fM1_0,fM1_1,fM1_2,rfl,rfl⟩
 refine Wsq [2,3,4,6,9] fun K1 hK1=>?_
 have e0:=nQ (N0+2) o1
 refine qB [2,3,4,6,9,19] e0 ?_
 refine Ci H ?_ ?_<;>intro H
 .obtain⟨v2,hv2,H⟩:=bE H
  obtain⟨v3,hv3,H⟩:=bE H
  obtain⟨r4,hr4,H⟩:=bE H
  refine Sd tok tokM [] [15,16] [0,1,2,3,4,5,6,7,8,9,10,11,12,13,14,15,16,17] [3,4,6,9,10,11] (by
   intro K k
   have e0:=nQ (N0+2) o1
   have e1:=nQ (N0+2) (M1+18)
   have e2:=nQ N0 (M1+16)
   have e3:=nQ o1 (M1+18)
   simp only[pickL,zF,zG]
   repeat first|simp -dsimp -implicitDefEqProofs [e0,e1,e2,e3,ix28 hv2,ix23 hv3]|refine Pc.mk (c120 hr4) ?_
   exact k) ?_
  refine Wsq [3,4,6,9,10] fun K2 hK2=>?_
  have e0:=nQ (N0+2) o1
  have e1:=nQ (N0+2) (M1+18)
  have e2:=nQ N0 (M1+16)
  have e3:=nQ o1 (M1+18)
  refine qB [3,4,6,9,10,36] (j e0 (j e1 (j e2 e3))) ?_
  refine Ci H ?_ ?_<;>intro H
  .obtain⟨r5,hr5,H⟩:=bE H
   have e0:=nQ (N0+2) o1
   have e1:=nQ (N0+2) (M1+18)
   have e2:=nQ N0 (M1+16)
   have e3:=nQ o1 (M1+18)
   refine qE [6,7,8] (j e0 (j e1 (j e2 e3))) (c92 hr5) ?_
   obtain rfl:=oi H
   refine Kp [6,7,8] ?_
   have z0:=nQ (N0+2) o1
   have z1:=nQ (N0+2) (M1+18)
   have z2:=nQ N0 (M1+16)
   have z3:=nQ o1 (M1+18)
   refine Wr ?_
   exact⟨[.agg [.fsl (eL rI r5.Regs),.int .i64 r5.Pc],.sl o1 0 r1.length,.int .i64 3],by simp[z0,z1,z2,z3],4,by simp[eN,z0,z1,z2,z3]⟩
  refine Js hK2 ?_
  obtain⟨v6,hv6,H⟩:=bE H
  obtain⟨l7,hl7,H⟩:=bE H
  have e0:=nQ (N0+2) o1
  have e1:=nQ (N0+2) (M1+18)
  have e2:=nQ N0 (M1+16)
  have e3:=nQ o1 (M1+18)
  refine qB [4,6,9] (j e0 (j e1 (j e2 (j e3 (j (ixo28 hv6) (j ((zL hv6).2.2) ((setx_iff.1 hl7).2.symm))))))) ?_
  try rw[<- zK hl7]
  obtain⟨r8,hr8,H⟩:=bE H
  have e0:=nQ (N0+2) o1
  have e1:=nQ (N0+2) (M1+18)
  have e2:=nQ N0 (M1+16)
  have e3:=nQ o1 (M1+18)
  refine qE [6,7,8] (j e0 (j e1 (j e2 e3))) (c92 hr8) ?_
  obtain rfl:=oi H
  refine Kp [6,7,8] ?_
  have z4:=nQ (N0+2) o1
  have z5:=nQ (N0+2) (M1+18)
  have z6:=nQ N0 (M1+16)
  have z7:=nQ o1 (M1+18)
  refine Wr ?_
  exact⟨[.agg [.fsl (eL rI r8.Regs),.int .i64 r8.Pc],.sl o1 0 l7.length,.int .i64 1],by simp[z4,z5,z6,z7],4,by simp[eN,z4,z5,z6,z7]⟩
 refine Js hK1 ?_
 obtain⟨v9,hv9,H⟩:=bE H
 obtain⟨r10,hr10,H⟩:=bE H
 have e0:=nQ (N0+2) o1
 have e1:=nQ (N0+2) (M1+13)
 have e2:=nQ N0 (M1+11)
 have e3:=nQ o1 (M1+13)
 refine qE [3,4,6,9,12,13,14] (j e0 (j e1 (j e2 (j e3 (ix28 hv9))))) (c121 hr10) ?_
 refine Wsq [3,4,6,9,12,13] fun K3 hK3=>?_
 have e0:=nQ (N0+2) o1
 have e1:=nQ (N0+2) (M1+13)
 have e2:=nQ N0 (M1+11)
 have e3:=nQ o1 (M1+13)
 refine qB [3,4,6,9,12,13,64] (j e0 (j e1 (j e2 e3))) ?_
 refine Ci H ?_ ?_<;>intro H
 .obtain⟨r11,hr11,H⟩:=bE H
  have e0:=nQ (N0+2) o1
  have e1:=nQ (N0+2) (M1+13)
  have e2:=nQ N0 (M1+11)
  have e3:=nQ o1 (M1+13)
  refine qE [6,7,8] (j e0 (j e1 (j e2 e3))) (c92 hr11) ?_
  obtain rfl:=oi H
  refine Kp [6,7,8] ?_
  have z8:=nQ (N0+2) o1
  have z9:=nQ (N0+2) (M1+13)
  have z10:=nQ N0 (M1+11)
  have z11:=nQ o1 (M1+13)
  refine Wr ?_
  exact⟨[.agg [.fsl (eL rI r11.Regs),.int .i64 r11.Pc],.sl o1 0 r1.length,.int .i64 3],by simp[z8,z9,z10,z11],4,by simp[eN,z8,z9,z10,z11]⟩
 refine Js hK3 ?_
 obtain⟨v12,hv12,H⟩:=bE H
 obtain⟨l13,hl13,H⟩:=bE H
 have e0:=nQ (N0+2) o1
 have e1:=nQ (N0+2) (M1+13)
 have e2:=nQ N0 (M1+11)
 have e3:=nQ o1 (M1+13)
 refine qB [3,4,6,9,13] (j e0 (j e1 (j e2 (j e3 (j (ixo28 hv12) (j ((zL hv12).2.2) ((setx_iff.1 hl13).2.symm))))))) ?_
 try rw[<- zK hl13]
 obtain⟨r14,hr14,H⟩:=bE H
 have e0:=nQ (N0+2) o1
 have e1:=nQ (N0+2) (M1+13)
 have e2:=nQ N0 (M1+11)
 have e3:=nQ o1 (M1+13)
 refine qE [6,7,8] (j e0 (j e1 (j e2 e3))) (c122 hr14) ?_
 obtain rfl:=oi H
 refine Kp [6,7,8] ?_
 have z12:=nQ (N0+2) o1
 have z13:=nQ (N0+2) (M1+13)
 have z14:=nQ N0 (M1+11)
 have z15:=nQ o1 (M1+13)
 refine Wr ?_
 exact⟨[.agg [.fsl (eL rI r14.Regs),.int .i64 r14.Pc],.sl o1 0 l13.length,.int .i64 1],by simp[z12,z13,z14,z15],4,by simp[eN,z12,z13,z14,z15]⟩

theorem c112 {p0:gQuad}{p1:gThread}{r:gThread}(H:tX p0 p1=some r):APure Tryz.prog G 112 [.agg [.int .i64 p0.Op,.int .i64 p0.Dst,.int .i64 p0.A,.int .i64 p0.B,.int .i64 p0.N],.agg [.fsl (eL rI p1.Regs),.int .i64 p1.Pc]] (.agg [.fsl (eL rI r.Regs),.int .i64 r.Pc]):=by
 refine qK func112 ntmps112 results112 fun N0=>?_
 unfold tX at H
 refine S0 tok [0,1] [2,3,4] ?_
 refine Wsq [2,3,4] fun K1 hK1=>?_
 refine qA [2,3,4,8] ?_
 refine Wb ?_
 refine qA [2,3,4,8,9] ?_
 refine Ci H ?_ ?_<;>intro H
 .refine gW Wre (N0+2) 0 0 ?_
  obtain⟨r1,hr1,H⟩:=bE H
  refine qD [4] (c122 hr1) ?_
  obtain rfl:=oi H
  refine Kp [4] ?_
  exact V0
 refine qA [2,3,4,8,20] ?_
 refine Ci H ?_ ?_<;>intro H
 .refine gW Wre (N0+2) 0 0 ?_
  obtain⟨v2,hv2,H⟩:=bE H
  obtain⟨r3,hr3,H⟩:=bE H
  refine Sd tok tokM [] [13] [0,1,2,3,4,5,6,7,8,9,10,11,12,13] [4] (by
   intro K k
   simp only[pickL,zF,zG]
   repeat first|simp -dsimp -implicitDefEqProofs [ix23 hv2]|refine Pc.mk (c122 hr3) ?_
   exact k) ?_
  obtain rfl:=oi H
  refine Kp [4] ?_
  exact V0
 refine qA [2,3,4,8,35] ?_
 refine Ci H ?_ ?_<;>intro H
 .refine gW Wre (N0+2) 0 0 ?_
  obtain⟨v4,hv4,H⟩:=bE H
  obtain⟨v5,hv5,H⟩:=bE H
  obtain⟨r6,hr6,H⟩:=bE H
  refine Sd tok tokM [] [] [0,1,2,3,4,5,6,7,8,9,10,11,12,13,14,15,16,17,18,19] [2,3,4,5] (by
   intro K k
   simp only[pickL,zF,zG]
   repeat first|simp -dsimp -implicitDefEqProofs [ix23 hv4,ix23 hv5]|refine Pc.mk (c123 hr6) ?_
   exact k) ?_
  obtain⟨r7,hr7,H⟩:=bE H
  refine qD [4] (c122 hr7) ?_
  obtain rfl:=oi H
  refine Kp [4] ?_
  exact V0
 refine qA [2,3,4,63] ?_
 refine Ci H ?_ ?_<;>intro H
 .refine gW Wre (N0+2) 0 0 ?_
  obtain⟨r8,hr8,H⟩:=bE H
  refine qD [4] (c92 hr8) ?_
  obtain rfl:=oi H
  refine Kp [4] ?_
  exact V0
 refine Js hK1 ?_
 refine Wsq [3,4] fun K2 hK2=>?_
 obtain⟨g10,hg10,H⟩:=bE H
 refine qF tok [2,3,4,80] ([(2,.fptr [.int .i64 p0.Op,.int .i64 p0.Dst,.int .i64 p0.A,.int .i64 p0.B,.int .i64 p0.N] 0),(3,.fptr [.fsl (eL rI p1.Regs),.int .i64 p1.Pc] 0),(4,.ptr (N0+2) 0 0),(80,.bool g10)]) (hp E0 [(N0+2,some ⟨42,2,[[.nilsl,.int .i64 0]]⟩)] (N0+25)) (by
  intro K k
  refine m0 ?_
  cases hbg10:ieq p0.Op 5
  .cases oj (ifF hbg10 hg10)
   exact m1 hbg10 k
  replace hg10:=ifT hbg10 hg10
  obtain⟨v9,hv9,hg10⟩:=bE hg10
  cases oj hg10
  refine m2 hbg10 (ix23 hv9) ?_
  exact k) ?_
 refine Ci H ?_ ?_<;>intro H
 .refine gW Wre (N0+2) 0 0 ?_
  obtain⟨r11,hr11,H⟩:=bE H
  refine qD [4] (c92 hr11) ?_
  obtain rfl:=oi H
  refine Kp [4] ?_
  exact V0
 refine Js hK2 ?_
 refine gW Wre (N0+2) 0 0 ?_
 obtain⟨r12,hr12,H⟩:=bE H
 refine qD [4] (c92 hr12) ?_
 obtain rfl:=oi H
 refine Kp [4] ?_
 exact V0

theorem c93 {p0:gQuad}{p1:gThread}{p2:List gBox}{r:gThread×(List gBox)×(List Int)×Int}(H:vT p0 p1 p2=some r):APure Tryz.prog G 93 [.agg [.int .i64 p0.Op,.int .i64 p0.Dst,.int .i64 p0.A,.int .i64 p0.B,.int .i64 p0.N],.agg [.fsl (eL rI p1.Regs),.int .i64 p1.Pc],.fsl (eL rBox p2)] (.tup [.agg [.fsl (eL rI r.1.Regs),.int .i64 r.1.Pc],.fsl (eL rBox r.2.1),.fsl (eL rI r.2.2.1),.int .i64 r.2.2.2]):=by
 refine qK func93 ntmps93 results93 fun N0=>?_
 unfold vT at H
 refine S0 tok [0,1] [2,3,4,6] ?_
 refine Wsq [2,3,4,6] fun K1 hK1=>?_
 refine qA [2,3,4,6,14] ?_
 refine Wb ?_
 obtain⟨j1,hj1,H⟩:=bE H
 refine kO (kH fun K2 hK2=>?_)
 have hJ1:∀a J,Rc G 71 N0 (fun a J=>∃M1:Nat,N0<=M1/\N0+2<M1/\a=[(2,.fsl (eL rBox p2)),(3,.fptr [.int .i64 p0.Op,.int .i64 p0.Dst,.int .i64 p0.A,.int .i64 p0.B,.int .i64 p0.N] 0),(4,.fptr [.fsl (eL rI p1.Regs),.int .i64 p1.Pc] 0),(6,.ptr (N0+2) 0 0),(14,.int .i64 p0.Op),(15,.bool j1)]/\J=hp E0 [(N0+2,some ⟨42,2,[[.fsl [],.int .i64 0]]⟩)] M1) (a.keep [2,3,4,6,14,15]) J->K2 a J:=by
  rintro a J ⟨b,U,hr,M1,fM1_0,fM1_1,rfl,rfl⟩
  refine hK2 _ _ (kA [2,3,4,6,14,15] (Wre hr ?_))
  refine Ci H ?_ ?_<;>intro H
  .obtain⟨r2,hr2,H⟩:=bE H
   have e0:=nQ (N0+2) (M1+8)
   have e1:=nQ N0 (M1+6)
   refine qE [6,10,11,12] (j e0 e1) (c111 hr2) ?_
   have q0:∀J i,bsA T 23 true i 0 [] J=some (.esl,J):=fun _ _=>rfl
   have e0:=nQ (N0+2) (M1+8)
   have e1:=nQ N0 (M1+6)
   refine Sy tok [2] [6,7,8,9] (j e0 (j e1 q0)) ?_
   obtain rfl:=oi H
   refine Kp [6,7,8,9] ?_
   have z0:=nQ (N0+2) (M1+8)
   have z1:=nQ N0 (M1+6)
   refine Wr ?_
   exact⟨[.agg [.fsl (eL rI r2.1.Regs),.int .i64 r2.1.Pc],.fsl (eL rBox r2.2.1),.esl,.int .i64 r2.2.2],by simp[z0,z1],4,by simp[eN,z0,z1]⟩
  refine qA [2,3,4,6,14,30] ?_
  refine Ci H ?_ ?_<;>intro H
  .obtain⟨r3,hr3,H⟩:=bE H
   obtain⟨r4,hr4,H⟩:=bE H
   have q1:∀J i,bsA T 23 true i 0 [] J=some (.esl,J):=fun _ _=>rfl
   refine Sx tok [6] [6,7,8,9] (by intro K k;(repeat first|simp -dsimp -implicitDefEqProofs [q1]|refine(c92 hr3).app ?_|refine(c91 hr4).app ?_);exact k) ?_
   obtain rfl:=oi H
   refine Kp [6,7,8,9] ?_
   exact V0
  refine qA [2,3,4,6,14,39] ?_
  refine Ci H ?_ ?_<;>intro H
  .obtain⟨r5,hr5,H⟩:=bE H
   obtain⟨r6,hr6,H⟩:=bE H
   have q2:∀J i,bsA T 23 true i 0 [] J=some (.esl,J):=fun _ _=>rfl
   refine Sx tok [7] [6,7,8,9] (by intro K k;(repeat first|simp -dsimp -implicitDefEqProofs [q2]|refine(c92 hr5).app ?_|refine(c91 hr6).app ?_);exact k) ?_
   obtain rfl:=oi H
   refine Kp [6,7,8,9] ?_
   exact V0
  refine qA [2,3,4,6,49] ?_
  refine Ci H ?_ ?_<;>intro H
  .obtain⟨r7,hr7,H⟩:=bE H
   obtain⟨r8,hr8,H⟩:=bE H
   obtain⟨v9,hv9,H⟩:=bE H
   have q3:∀J i,bsA T 23 true i 1 [(0,.int .i64 v9)] J=some (.fsl (eL rI ([v9]:List Int)),J):=fun _ _=>rfl
   refine Sd tok tokM [13] [14] [0,1,2,3,4,5,6,7,8,9,10,11,12,13,14,15,16,17] [6,7,8,9] (by
    intro K k
    simp only[pickL,zF,zG]
    repeat first|simp -dsimp -implicitDefEqProofs [ix23 hv9,q3]|refine Pc.mk (c92 hr7) ?_|refine Pc.mk (c91 hr8) ?_
    exact k) ?_
   obtain rfl:=oi H
   refine Kp [6,7,8,9] ?_
   exact V0
  refine Js hK1 ?_
  obtain⟨r10,hr10,H⟩:=bE H
  obtain⟨r11,hr11,H⟩:=bE H
  have q4:∀J i,bsA T 23 true i 0 [] J=some (.esl,J):=fun _ _=>rfl
  refine Sx tok [5] [6,7,8,9] (by intro K k;(repeat first|simp -dsimp -implicitDefEqProofs [q4]|refine(c112 hr10).app ?_|refine(c91 hr11).app ?_);exact k) ?_
  obtain rfl:=oi H
  refine Kp [6,7,8,9] ?_
  exact V0
 replace H:=hj1
 refine qA [2,3,4,6,14,15] ?_
 refine Ci H ?_ ?_<;>intro H
 .refine Wsk ?_
  show K2 _ _
  refine kE [2,3,4,6,14,15] fun a' ha=>?_
  cases oj H
  refine hJ1 _ _ ?_;rw[ha]
  refine gW zD (N0+2) 0 0 ?_
  exact R1 (N0+10)
 refine Rt0 tok [] [2,3,4,6,14,15] fun a ha=>?_
 cases oj H
 refine hJ1 _ _ ?_;rw[ha]
 refine gW zD (N0+2) 0 0 ?_
 exact R1 (N0+12)

theorem c94 {p0:Int}{p1:Int}{p2:Int}{p3:Int}{r:Int×Int×Bool}(H:xV p0 p1 p2 p3=some r):APure Tryz.prog G 94 [.int .i64 p0,.int .i64 p1,.int .i64 p2,.int .i64 p3] (.tup [.int .i64 r.1,.int .i64 r.2.1,.bool r.2.2]):=by
 refine qK func94 ntmps94 results94 fun N0=>?_
 unfold xV at H
 refine qA [0,1,2,3] ?_
 refine Wsq [0,1,2,3] fun K1 hK1=>?_
 obtain⟨r1,hr1,H⟩:=bE H
 obtain⟨g3,hg3,H⟩:=bE H
 obtain⟨g5,hg5,H⟩:=bE H
 refine qF tok [0,1,2,3,27] ([(0,.int .i64 p0),(1,.int .i64 p1),(2,.int .i64 p2),(3,.int .i64 p3),(27,.bool g5)]) (hp E0 [] (N0+20)) (by
  intro K k
  refine m0 ?_
  refine(c66 hr1).app (m0 ?_)
  cases hbg3:bnot r1
  .replace hg3:=ifF hbg3 hg3
   obtain⟨r2,hr2,hg3⟩:=bE hg3
   obtain rfl:=oi hg3
   refine m1 hbg3 ?_
   refine(c66 hr2).app (m1 hbg3 ?_)
   cases hbg5:(bnot r2)
   .replace hg5:=ifF hbg5 hg5
    obtain⟨r4,hr4,hg5⟩:=bE hg5
    cases oj hg5
    refine m2 hbg3 hbg5 ?_
    refine(c66 hr4).app (m2 hbg3 hbg5 ?_)
    exact k
   cases oj (ifT hbg5 hg5)
   exact m2 hbg3 hbg5 k
  cases oj (ifT hbg3 hg3)
  cases oj (ifT rfl hg5)
  refine m1 hbg3 ?_
  exact k) ?_
 refine Ci H ?_ ?_<;>intro H
 .refine qA [8,9,10] ?_
  cases oj H;exact W4
 refine Js hK1 ?_
 refine Wsq [] fun K2 hK2=>?_
 refine qA [0,1,2,28] ?_
 refine Wb ?_
 refine qA [0,1,2,28,29] ?_
 refine Ci H ?_ ?_<;>intro H
 .refine qA [8,9,10] ?_
  cases oj H;exact W4
 refine qA [0,1,2,28,32] ?_
 refine Ci H ?_ ?_<;>intro H
 .obtain⟨v6,hv6,H⟩:=bE H
  refine qB [8,9,10] hv6 ?_
  cases oj H;exact W4
 obtain⟨j1,hj1,H⟩:=bE H
 refine kO (kH fun K3 hK3=>?_)
 have hJ1:∀a J,Rc G 47 N0 (fun a J=>∃M1:Nat,N0<=M1/\a=[(0,.int .i64 p0),(1,.int .i64 p1),(2,.int .i64 p2),(38,.bool j1)]/\J=hp E0 [] M1) (a.keep [0,1,2,38]) J->K3 a J:=by
  rintro a J ⟨b,U,hr,M1,fM1_0,rfl,rfl⟩
  refine hK3 _ _ (kA [0,1,2,38] (Wre hr ?_))
  refine Ci H ?_ ?_<;>intro H
  .obtain⟨v8,hv8,H⟩:=bE H
   refine qB [8,9,10] hv8 ?_
   cases oj H;exact W4
  refine Js hK2 ?_
  refine qA [8,9,10] ?_
  cases oj H;exact W4
 replace H:=hj1
 refine qA [0,1,2,28,38] ?_
 refine Ci H ?_ ?_<;>intro H
 .refine Wsk ?_
  show K3 _ _
  refine kE [0,1,2,38] fun a' ha=>?_
  cases oj H
  refine hJ1 _ _ ?_;rw[ha]
  exact R1 (N0+27)
 refine Rt0 tok [] [0,1,2,38] fun a ha=>?_
 cases oj H
 refine hJ1 _ _ ?_;rw[ha]
 exact R1 (N0+29)

theorem c68 {p0:gCrew}{r:gCrew}(H:wE p0=some r){J:AHeap}{w0:Nat}{W0:List (List AV)}{r0_:Nat}(q0:J.objs w0=some ⟨30,6,W0⟩)(g0:W0[r0_]? =some [.fsl (eL zA p0.Codes),.osl 42 2 (eL zB p0.Threads),.fsl (eL rBox p0.Boxes),.int .i64 p0.Turn,.int .i64 p0.Idle,.osl 3 1 (eL rI p0.Out)]):ACalls Tryz.prog G 68 [.ptr w0 r0_ 0] J (fun v J'=>∃M:Nat,J.next<=M/\v=.tup []/\J'=hp J.objs [(w0,some ⟨30,6,W0.set r0_ [.fsl (eL zA r.Codes),.osl 42 2 (eL zB r.Threads),.fsl (eL rBox r.Boxes),.int .i64 r.Turn,.int .i64 r.Idle,.osl 3 1 (eL rI r.Out)]⟩)] M):=by
 refine fr1 ([(w0,some ⟨30,6,W0⟩)]) (by simp[q0]) (fun hlt=>?_) ⟨_,func68,rfl,rfl⟩
 generalize J.next=N0 at hlt ⊢
 have lw0:w0<N0:=hlt _ (.head _) rfl
 have gs_W0:∀x,(W0.set r0_ x)[r0_]? =some x:=gsetW g0
 rw[<- zY g0]
 refine fnK tok func68 ntmps68 results68 ?_
 simp only[argsA,Nat.reduceAdd,hpN]
 unfold wE at H
 refine AWP_end [] fun KE hKE=>?_
 refine gU Wre w0 r0_ 1 ?_ (hr:=by exact gs_W0 _)
 obtain⟨v1,hv1,H⟩:=bE H
 refine Sd tok tokM [] [3,7,8,9,10,11] [0,1,2,4,5,6,3,7,8,9,10,11] [0,2] (by
  intro K k
  have e0:=nQ w0 N0
  have e1:=nQ w0 (N0+11)
  simp only[pickL,zF,zG]
  refine m1 (j e0 (j e1 (j gs_W0 (j (ixo27 hv1) ((zL hv1).2.2))))) ?_
  exact k) ?_
 refine gP Wre w0 r0_ 1 ?_ (hr:=by exact gs_W0 _)
 obtain⟨v2,hv2,H⟩:=bE H
 obtain⟨v3,hv3,H⟩:=bE H
 obtain⟨r4,hr4,H⟩:=bE H
 refine Sd tok tokM [] [3,7,11,14,18,25,26] [0,1,2,4,5,6,10,15,16,17,3,7,8,9,11,12,13,14,18,19,20,21,22,23,24,25,26,27,28,29] [0,3,4,5,6] (by
  intro K k
  have e0:=nQ w0 (N0+11)
  have e1:=nQ w0 (N0+38)
  simp only[pickL,zF,zG]
  repeat first|simp -dsimp -implicitDefEqProofs [e0,e1,gs_W0,ix24 hv2,ix34 hv3]|refine Pc.mk (c93 hr4) ?_
  exact k) ?_
 refine gU Wre w0 r0_ 1 ?_ (hr:=by exact gs_W0 _)
 obtain⟨l5,hl5,H⟩:=bE H
 refine Sd tok tokM [] [3,7,8,9,10] [0,1,2,4,5,6,3,7,8,9,10] [0,4,5,6] (by
  intro K k
  have e0:=nQ w0 (N0+11)
  have e1:=nQ w0 (N0+38)
  have e2:=nQ w0 (N0+43)
  simp only[pickL,zF,zG]
  refine m1 (j e0 (j e1 (j e2 (j gs_W0 (j (ixo27 hv1) (j ((zL hv1).2.2) ((setx_iff.1 hl5).2.symm))))))) ?_
  exact k) ?_
 try rw[<- zK hl5]
 have e0:=nQ w0 (N0+11)
 have e1:=nQ w0 (N0+38)
 have e2:=nQ w0 (N0+43)
 refine qB [0,5,6] (j e0 (j e1 (j e2 gs_W0))) ?_
 refine gU Wre w0 r0_ 5 ?_ (hr:=by exact gs_W0 _)
 obtain⟨l6,hl6,H⟩:=bE H
 have e0:=nQ w0 (N0+11)
 have e1:=nQ w0 (N0+38)
 have e2:=nQ w0 (N0+43)
 have e3:=nQ w0 (N0+60)
 have e4:=nQ w0 (N0+67)
 refine qB [0,6] (j e0 (j e1 (j e2 (j e3 (j e4 (j gs_W0 (app23 hl6))))))) ?_
 refine gP Wre w0 r0_ 1 ?_ (hr:=by exact gs_W0 _)
 refine gP Wre w0 r0_ 5 ?_ (hr:=by exact gs_W0 _)
 refine gU Wre w0 r0_ 1 ?_ (hr:=by exact gs_W0 _)
 obtain⟨r7,hr7,H⟩:=bE H
 refine Sd tok tokM [] [3,8,12] [0,1,2,5,6,7,9,10,11,13,3,4,8,12,14,15,16,17,18,19,20,21] [0,7,8] (by
  intro K k
  have e0:=nQ w0 (N0+11)
  have e1:=nQ w0 (N0+38)
  have e2:=nQ w0 (N0+71)
  simp only[pickL,zF,zG]
  repeat first|simp -dsimp -implicitDefEqProofs [e0,e1,e2,gs_W0]|refine Pc.mk (c94 hr7) ?_
  exact k) ?_
 have e0:=nQ w0 (N0+11)
 have e1:=nQ w0 (N0+38)
 have e2:=nQ w0 (N0+71)
 refine qB [0,8] (j e0 (j e1 (j e2 gs_W0))) ?_
 have e0:=nQ w0 (N0+11)
 have e1:=nQ w0 (N0+38)
 have e2:=nQ w0 (N0+71)
 refine Rt tok [] [] (by intro K k;simp -dsimp -implicitDefEqProofs [e0,e1,e2,gs_W0];exact k) fun a ha=>?_
 obtain rfl:=oi H
 refine hKE _ _ ?_;rw[ha]
 refine kp [] ?_
 refine gP zD w0 r0_ 1 ?_ (hr:=by exact gs_W0 _)
 have z0:=nQ w0 (N0+11)
 have z1:=nQ w0 (N0+38)
 refine gDrop zD [(w0,some ⟨30,6,W0.set r0_ [.fsl (eL zA p0.Codes),.osl 42 2 (eL zB l5),.fsl (eL rBox r4.2.1),.int .i64 r7.1,.int .i64 r7.2.1,.osl 3 1 (eL rI l6)]⟩)] (zI (AHeap.Sub.trans (AHeap.Sub.trans (AHeap.Sub.refl _) (zR rfl (by simp;try omega))) (zR rfl (by simp;try omega)))) ?_
 refine Rc.mk ?_
 refine⟨[],by simp[z0,z1,gs_W0],N0+104,by omega,?_,?_⟩
 .simp[eN]
 first|rfl|simp

theorem c67_o2 {p0:gCrew}{r:gCrew}(H:yT p0=some r){J:AHeap}:ACalls Tryz.prog G 67 [.agg [.fsl (eL zA p0.Codes),.fsl (eL zB p0.Threads),.fsl (eL rBox p0.Boxes),.int .i64 p0.Turn,.int .i64 p0.Idle,.fsl (eL rI p0.Out)]] J (fun v J'=>∃M n0 n1:Nat,J.next<=M/\J.next<=n0/\n0<M/\J.next<=n1/\n1<M/\¬n0=n1/\v=.agg [.fsl (eL zA r.Codes),.sl n0 0 r.Threads.length,.fsl (eL rBox r.Boxes),.int .i64 r.Turn,.int .i64 r.Idle,.sl n1 0 r.Out.length]/\J'=hp J.objs [(n0,some ⟨42,2,eL zB r.Threads⟩),(n1,some ⟨3,1,eL rI r.Out⟩)] M):=by
 refine jT (L:=[]) (Q1:=fun v J'=>∃M n0 n1:Nat,J.next<=M/\J.next<=n0/\n0<M/\J.next<=n1/\n1<M/\¬n0=n1/\v=.agg [.fsl (eL zA r.Codes),.sl n0 0 r.Threads.length,.fsl (eL rBox r.Boxes),.int .i64 r.Turn,.int .i64 r.Idle,.sl n1 0 r.Out.length]/\J'=hp E0 [(n0,some ⟨42,2,eL zB r.Threads⟩),(n1,some ⟨3,1,eL rI r.Out⟩)] M) (by simp) (fun hlt=>?_) ?_ ⟨_,func67,rfl,rfl⟩
 rotate_left
 .rintro v J1 ⟨M,n0,n1,h0,h1,h2,h3,h4,h5,rfl,rfl⟩
  exact⟨_,M,rfl,by simp,by simp;try omega,M,n0,n1,h0,h1,h2,h3,h4,h5,rfl,rfl⟩
 generalize J.next=N0 at hlt ⊢
 refine kQ 4 ?_
 refine fnK tok func67 ntmps67 results67 ?_
 simp only[argsA,Nat.reduceAdd,hpN]
 unfold yT at H
 refine S0 tok [0] [1,2] ?_
 refine gW Wre (N0+1) 0 0 ?_
 refine gP0 Wre (N0+1) 0 1 42 2 (eL zB ([]:List gThread)) ?_
 refine gW Wre (N0+1) 0 2 ?_
 refine gP0 Wre (N0+1) 0 5 3 1 (eL rI ([]:List Int)) ?_
 obtain⟨r1,hr1,H⟩:=bE H
 obtain⟨r2,hr2,H⟩:=bE H
 obtain⟨l3,hl3,H⟩:=bE H
 obtain⟨l4,hl4,H⟩:=bE H
 have q0:∀J i,bsA T 23 true i 0 [] J=some (.esl,J):=fun _ _=>rfl
 have q1:∀J i,bsA T 27 false i 0 [] J=some (.sl i 0 (List.length l4),J.put i ⟨42,2,eL zB l4⟩):=by rw[<- Option.some.inj hl4];exact fun _ _=>rfl
 refine Sd tok tokM [11] [3,14,16,17] [0,1,2,4,5,6,7,8,9,10,11,12,13,14,3,15,16,17] [1,2,3] (by
  intro K k
  simp only[pickL,zF,zG]
  repeat first|simp -dsimp -implicitDefEqProofs [q0,mI hl3,q1]|refine Pc.mk (c47 hr1) ?_|refine Pc.mk (c91 hr2) ?_
  exact k) ?_
 refine Wsq [2,3] fun K1 hK1=>?_
 refine qA [1,2,3,4] ?_
 refine Wb ?_
 obtain⟨e1,hse1,H⟩:=bE H
 refine zP [1,2,3,4] (fun s a J=>∃M1 o1 o2:Nat,N0<=M1/\N0<=o1/\o1<M1/\N0<=o2/\o2<M1/\¬o1=o2/\a=[(1,.fptr [.fsl (eL zA p0.Codes),.fsl (eL zB p0.Threads),.fsl (eL rBox p0.Boxes),.int .i64 p0.Turn,.int .i64 p0.Idle,.fsl (eL rI p0.Out)] 0),(2,.ptr o1 0 0),(3,.ptr o2 0 0),(4,.int .i64 s.1)]/\J=hp E0 [(o1,some ⟨30,6,[[.fsl (eL zA s.2.1.Codes),.osl 42 2 (eL zB s.2.1.Threads),.fsl (eL rBox s.2.1.Boxes),.int .i64 s.2.1.Turn,.int .i64 s.2.1.Idle,.osl 3 1 (eL rI s.2.1.Out)]]⟩),(o2,some ⟨30,6,[[.fsl (eL zA s.2.2.Codes),.osl 42 2 (eL zB s.2.2.Threads),.fsl (eL rBox s.2.2.Boxes),.int .i64 s.2.2.Turn,.int .i64 s.2.2.Idle,.osl 3 1 (eL rI s.2.2.Out)]]⟩)] M1) (fun s x a J=>x=.exit 0/\Rc G 46 N0 (fun a J=>∃M2 o3 o4:Nat,N0<=M2/\N0<=o3/\o3<M2/\N0<=o4/\o4<M2/\¬o3=o4/\a=[(2,.ptr o3 0 0),(3,.ptr o4 0 0)]/\J=hp E0 [(o3,some ⟨30,6,[[.fsl (eL zA s.1.Codes),.osl 42 2 (eL zB s.1.Threads),.fsl (eL rBox s.1.Boxes),.int .i64 s.1.Turn,.int .i64 s.1.Idle,.osl 3 1 (eL rI s.1.Out)]]⟩),(o4,some ⟨30,6,[[.fsl (eL zA s.2.Codes),.osl 42 2 (eL zB s.2.Threads),.fsl (eL rBox s.2.Boxes),.int .i64 s.2.Turn,.int .i64 s.2.Idle,.osl 3 1 (eL rI s.2.Out)]]⟩)] M2) (AAct.keep a [2,3]) J) hse1 ?_ ?_ ?_
 .refine kp [1,2,3,4] ?_
  refine gP zD (N0+18) 0 1 ?_
  refine gP zD (N0+18) 0 5 ?_
  exact R3 (N0+21) (N0+1) (N0+18)
 .clear H hse1
  rintro⟨s5,s6,s7⟩ fl a J H ⟨M1,o1,o2,fM1_0,fM1_1,fM1_2,fM1_3,fM1_4,fM1_5,rfl,rfl⟩ K2 O2 hK2 hO2
  unfold yP at H;dsimp only at H
  refine Wsq [1,2,3,4] fun K3 hK3=>?_
  have e0:=nQ o1 o2
  refine qB [1,2,3,4,25] e0 ?_
  refine Ci H ?_ ?_<;>intro H
  .refine Js hK3 ?_
   refine Wsq [1,2,3,4] fun K4 hK4=>?_
   refine Wb ?_
   refine gU Wre o2 0 1 ?_
   obtain⟨v10,hv10,H⟩:=bE H
   obtain⟨r11,hr11,H⟩:=bE H
   obtain⟨l12,hl12,H⟩:=bE H
   have q2:∀J i,bsA T 27 true i 1 [(0,.agg [.fsl (eL rI r11.Regs),.int .i64 r11.Pc])] J=some (.fsl (eL zB ([r11]:List gThread)),J):=fun _ _=>rfl
   refine vI tok tokM [14] [1,15,17] [0,2,3,4,5,6,7,8,9,10,11,12,13,14,1,15,16,17] [1,2,3,4] (fun a J=>a=[(1,.fptr [.fsl (eL zA p0.Codes),.fsl (eL zB p0.Threads),.fsl (eL rBox p0.Boxes),.int .i64 p0.Turn,.int .i64 p0.Idle,.fsl (eL rI p0.Out)] 0),(2,.ptr o1 0 0),(3,.ptr o2 0 0),(4,.int .i64 s5)]/\J=hp E0 [(o1,some ⟨30,6,[[.fsl (eL zA s6.Codes),.osl 42 2 (eL zB s6.Threads),.fsl (eL rBox s6.Boxes),.int .i64 s6.Turn,.int .i64 s6.Idle,.osl 3 1 (eL rI s6.Out)]]⟩),(o2,some ⟨30,6,[[.fsl (eL zA s7.Codes),.sl (M1+21) 0 l12.length,.fsl (eL rBox s7.Boxes),.int .i64 s7.Turn,.int .i64 s7.Idle,.osl 3 1 (eL rI s7.Out)]]⟩),(M1+21,some ⟨42,2,eL zB l12⟩)] (M1+24)) (by decide) (fun K hK=>?_) ?_
   .simp only[pickL,zF,zG]
    have e0:=nQ o1 o2
    have e1:=nQ o1 (M1+5)
    have e2:=nQ o1 (M1+21)
    have e3:=nQ o2 (M1+5)
    have e4:=nQ o2 (M1+21)
    refine m1 (j e0 (j e1 (j e2 (j e3 (j e4 (j (ix27 hv10) (j q2 (app27 hl12)))))))) ?_
    refine Pc.mk (c92 hr11) (m1 (j e0 (j e1 (j e2 (j e3 (j e4 (j (ix27 hv10) (j q2 (app27 hl12)))))))) ?_)
    exact hK _ _ ⟨rfl,rfl⟩
   rintro a J ⟨ha,rfl⟩
   refine hK4 _ _ ?_;rw[ha]
   refine Rc.mk ?_
   have e0:=nQ o1 o2
   have e1:=nQ o1 (M1+21)
   have e2:=nQ o2 (M1+21)
   obtain rfl:=oi H
   refine qJ (j e0 (j e1 e2)) hK2 ?_
   refine gP zD o2 0 1 ?_
   exact R3 (M1+27) o1 o2
  cases oj H
  refine zJ (hO2 _ _ _ _ rfl ⟨rfl,?_⟩)
  refine kr ?_
  exact R3 (M1+5) o1 o2
 intro x a J hx
 obtain⟨y8,y9⟩:=e1
 obtain⟨rfl,b,U,hr,M2,o3,o4,fM2_0,fM2_1,fM2_2,fM2_3,fM2_4,fM2_5,rfl,rfl⟩:=hx
 (try dsimp only at H)
 show K1 _ _
 refine hK1 _ _ (zD hr ?_)
 refine Rc.mk ?_
 refine gU Wre o4 0 1 ?_
 refine gU Wre o4 0 5 ?_
 have e0:=nQ o3 o4
 have e1:=nQ o3 M2
 have e2:=nQ o3 (M2+1)
 have e3:=nQ o4 M2
 have e4:=nQ o4 (M2+1)
 refine qB [2] (j e0 (j e1 (j e2 (j e3 e4)))) ?_
 obtain rfl:=oi H
 refine Kp [2] ?_
 refine gDrop Wre [(o3,some ⟨30,6,[[.fsl (eL zA y9.Codes),.sl M2 0 y9.Threads.length,.fsl (eL rBox y9.Boxes),.int .i64 y9.Turn,.int .i64 y9.Idle,.sl (M2+1) 0 y9.Out.length]]⟩),(M2,some ⟨42,2,eL zB y9.Threads⟩),(M2+1,some ⟨3,1,eL rI y9.Out⟩)] (zI (AHeap.Sub.trans (zI (zI (AHeap.Sub.refl _))) (zR rfl (by simp;try omega)))) ?_
 refine gP Wre o3 0 1 ?_
 refine gP Wre o3 0 5 ?_
 refine gU Wre o3 0 1 ?_
 refine gU Wre o3 0 5 ?_
 have z0:=nQ o3 (M2+4)
 have z1:=nQ o3 (M2+5)
 refine Wr ?_
 refine⟨[.agg [.fsl (eL zA y9.Codes),.sl (M2+4) 0 y9.Threads.length,.fsl (eL rBox y9.Boxes),.int .i64 y9.Turn,.int .i64 y9.Idle,.sl (M2+5) 0 y9.Out.length]],by simp[z0,z1],(fun o=>[o3].contains o),M2+6,M2+4,M2+5,by omega,by omega,by omega,by omega,by omega,by omega,?_,?_⟩
 .simp[eN,z0,z1]
 rw[cutD (L':=[(M2+4,some ⟨42,2,eL zB y9.Threads⟩),(M2+5,some ⟨3,1,eL rI y9.Out⟩)]) (by simp[z0,z1])]
 first|done|rfl|simp

theorem c28 {p0:gCrew}{p1:Int}{r:gCrew×Bool}(H:jA p0 p1=some r):APure Tryz.prog G 28 [.agg [.fsl (eL zA p0.Codes),.fsl (eL zB p0.Threads),.fsl (eL rBox p0.Boxes),.int .i64 p0.Turn,.int .i64 p0.Idle,.fsl (eL rI p0.Out)],.int .i64 p1] (.tup [.agg [.fsl (eL zA r.1.Codes),.fsl (eL zB r.1.Threads),.fsl (eL rBox r.1.Boxes),.int .i64 r.1.Turn,.int .i64 r.1.Idle,.fsl (eL rI r.1.Out)],.bool r.2]):=by
 refine qK func28 ntmps28 results28 fun N0=>?_
 unfold jA at H
 refine S0 tok [0] [1,2,4] ?_
 refine Wsq [1,2,4] fun K1 hK1=>?_
 refine gW Wre (N0+1) 0 0 ?_
 refine gW Wre (N0+1) 0 1 ?_
 refine gW Wre (N0+1) 0 2 ?_
 refine gW Wre (N0+1) 0 5 ?_
 obtain⟨r1,hr1,H⟩:=bE H
 obtain⟨g3,hg3,H⟩:=bE H
 refine qF tok [1,2,4,15] ([(1,.int .i64 p1),(2,.fptr [.fsl (eL zA p0.Codes),.fsl (eL zB p0.Threads),.fsl (eL rBox p0.Boxes),.int .i64 p0.Turn,.int .i64 p0.Idle,.fsl (eL rI p0.Out)] 0),(4,.ptr (N0+1) 0 0),(15,.bool g3)]) (hp E0 [(N0+1,some ⟨30,6,[[.fsl [],.fsl [],.fsl [],.int .i64 0,.int .i64 0,.fsl []]]⟩)] (N0+11)) (by
  intro K k
  refine m0 ?_
  refine(c49 hr1).app (m0 ?_)
  cases hbg3:bnot r1
  .replace hg3:=ifF hbg3 hg3
   obtain⟨r2,hr2,hg3⟩:=bE hg3
   cases oj hg3
   refine m1 hbg3 ?_
   refine(c66 hr2).app (m1 hbg3 ?_)
   exact k
  cases oj (ifT hbg3 hg3)
  refine m1 hbg3 ?_
  exact k) ?_
 refine Ci H ?_ ?_<;>intro H
 .refine qA [4,5] ?_
  cases oj H
  refine Kp [4,5] ?_
  exact V0
 refine Js hK1 ?_
 obtain⟨r4,hr4,H⟩:=bE H
 refine kT tok [] [1,4,6] (fun a J=>∃M1 o1 o2:Nat,N0+15<=M1/\N0+15<=o1/\o1<M1/\N0+15<=o2/\o2<M1/\¬o1=o2/\a=[(1,.int .i64 p1),(4,.ptr (N0+1) 0 0),(6,.ptr (N0+13) 0 0)]/\J=hp E0 [(N0+1,some ⟨30,6,[[.fsl [],.fsl [],.fsl [],.int .i64 0,.int .i64 0,.fsl []]]⟩),(o1,some ⟨42,2,eL zB r4.Threads⟩),(o2,some ⟨3,1,eL rI r4.Out⟩),(N0+13,some ⟨30,6,[[.fsl (eL zA r4.Codes),.sl o1 0 r4.Threads.length,.fsl (eL rBox r4.Boxes),.int .i64 r4.Turn,.int .i64 r4.Idle,.sl o2 0 r4.Out.length]]⟩)] M1) (fun K hK=>?_) ?_
 .skip
  refine m0 ?_
  refine(c67_o2 (H:=hr4)).mono ?_;rintro _ _ ⟨M1,o1,o2,fM1_0,fM1_1,fM1_2,fM1_3,fM1_4,fM1_5,rfl,rfl⟩;simp only[hpN] at fM1_0 fM1_1 fM1_2 fM1_3 fM1_4 fM1_5
  have eM1_0:=nQ o1 (N0+1)
  have eM1_1:=nQ o1 (N0+13)
  have eM1_2:=nQ o1 o2
  have eM1_3:=nQ o2 (N0+1)
  have eM1_4:=nQ o2 (N0+13)
  refine m1 (j eM1_0 (j eM1_1 (j eM1_2 (j eM1_3 (j eM1_4 (j @hoS @hoN)))))) ?_
  exact hK _ _ ⟨M1,o1,o2,(by omega),(by omega),(by omega),(by omega),(by omega),(by omega),rfl,rfl⟩
 rintro a J ⟨M1,o1,o2,fM1_0,fM1_1,fM1_2,fM1_3,fM1_4,fM1_5,rfl,rfl⟩
 refine Wsq [4,6] fun K2 hK2=>?_
 have e0:=nQ (N0+1) o1
 have e1:=nQ (N0+1) o2
 have e2:=nQ o1 o2
 have e3:=nQ o1 (N0+13)
 have e4:=nQ o2 (N0+13)
 refine qB [1,4,6,7] (j e0 (j e1 (j e2 (j e3 e4)))) ?_
 refine Wb ?_
 obtain⟨e1,hse1,H⟩:=bE H
 refine zP [1,4,6,7] (fun s a J=>∃M2 o3 o4:Nat,N0<=M2/\N0<=o3/\o3<M2/\N0<=o4/\o4<M2/\¬o3=o4/\a=[(1,.int .i64 p1),(4,.ptr o3 0 0),(6,.ptr o4 0 0),(7,.int .i64 s.1)]/\J=hp E0 [(o3,some ⟨30,6,[[.fsl (eL zA s.2.1.Codes),.fsl (eL zB s.2.1.Threads),.fsl (eL rBox s.2.1.Boxes),.int .i64 s.2.1.Turn,.int .i64 s.2.1.Idle,.fsl (eL rI s.2.1.Out)]]⟩),(o4,some ⟨30,6,[[.fsl (eL zA s.2.2.Codes),.osl 42 2 (eL zB s.2.2.Threads),.fsl (eL rBox s.2.2.Boxes),.int .i64 s.2.2.Turn,.int .i64 s.2.2.Idle,.osl 3 1 (eL rI s.2.2.Out)]]⟩)] M2) (fun s x a J=>x=.exit 0/\Rc G 34 N0 (fun a J=>∃M3 o5 o6:Nat,N0<=M3/\N0<=o5/\o5<M3/\N0<=o6/\o6<M3/\¬o5=o6/\a=[(4,.ptr o5 0 0),(6,.ptr o6 0 0)]/\J=hp E0 [(o5,some ⟨30,6,[[.fsl (eL zA s.1.Codes),.fsl (eL zB s.1.Threads),.fsl (eL rBox s.1.Boxes),.int .i64 s.1.Turn,.int .i64 s.1.Idle,.fsl (eL rI s.1.Out)]]⟩),(o6,some ⟨30,6,[[.fsl (eL zA s.2.Codes),.osl 42 2 (eL zB s.2.Threads),.fsl (eL rBox s.2.Boxes),.int .i64 s.2.Turn,.int .i64 s.2.Idle,.osl 3 1 (eL rI s.2.Out)]]⟩)] M3) (AAct.keep a [4,6]) J) hse1 ?_ ?_ ?_
 .refine kp [1,4,6,7] ?_
  refine gP zD (N0+13) 0 1 ?_
  refine gP zD (N0+13) 0 5 ?_
  exact R3 (M1+1) (N0+1) (N0+13)
 .clear H hse1
  rintro⟨s5,s6,s7⟩ fl a J H ⟨M2,o3,o4,fM2_0,fM2_1,fM2_2,fM2_3,fM2_4,fM2_5,rfl,rfl⟩ K3 O3 hK3 hO3
  unfold jE at H;dsimp only at H
  refine Wsq [1,4,6,7] fun K4 hK4=>?_
  refine gU Wre o4 0 1 ?_
  obtain⟨g10,hg10,H⟩:=bE H
  refine qF tok [1,4,6,7,29] ([(1,.int .i64 p1),(4,.ptr o3 0 0),(6,.ptr o4 0 0),(7,.int .i64 s5),(29,.bool g10)]) (hp E0 [(o3,some ⟨30,6,[[.fsl (eL zA s6.Codes),.fsl (eL zB s6.Threads),.fsl (eL rBox s6.Boxes),.int .i64 s6.Turn,.int .i64 s6.Idle,.fsl (eL rI s6.Out)]]⟩),(o4,some ⟨30,6,[[.fsl (eL zA s7.Codes),.sl M2 0 s7.Threads.length,.fsl (eL rBox s7.Boxes),.int .i64 s7.Turn,.int .i64 s7.Idle,.osl 3 1 (eL rI s7.Out)]]⟩),(M2,some ⟨42,2,eL zB s7.Threads⟩)] (M2+12)) (by
   intro K k
   have e0:=nQ o3 o4
   have e1:=nQ o3 M2
   have e2:=nQ o4 M2
   refine m1 (j e0 (j e1 e2)) ?_
   cases hbg10:ilt s5 p1
   .cases oj (ifF hbg10 hg10)
    exact m1 (j e0 (j e1 (j e2 hbg10))) k
   cases oj (ifT hbg10 hg10)
   refine m1 (j e0 (j e1 (j e2 hbg10))) ?_
   exact k) ?_
  refine Ci H ?_ ?_<;>intro H
  .refine Js hK4 ?_
   refine Wsq [1,4,6,7] fun K5 hK5=>?_
   refine Wb ?_
   refine gP Wre o4 0 1 ?_
   obtain⟨r11,hr11,H⟩:=bE H
   refine uT tok [] [1,4,6,7] (fun a J=>∃M4:Nat,M2+13<=M4/\a=[(1,.int .i64 p1),(4,.ptr o3 0 0),(6,.ptr o4 0 0),(7,.int .i64 s5)]/\J=hp E0 [(o3,some ⟨30,6,[[.fsl (eL zA s6.Codes),.fsl (eL zB s6.Threads),.fsl (eL rBox s6.Boxes),.int .i64 s6.Turn,.int .i64 s6.Idle,.fsl (eL rI s6.Out)]]⟩),(o4,some ⟨30,6,[[.fsl (eL zA r11.Codes),.osl 42 2 (eL zB r11.Threads),.fsl (eL rBox r11.Boxes),.int .i64 r11.Turn,.int .i64 r11.Idle,.osl 3 1 (eL rI r11.Out)]]⟩)] M4) (fun K hK=>?_) ?_
   .skip
    have e0:=nQ o3 o4
    refine m1 e0 ?_
    refine mc e0 (c68 (r0_:=0) (H:=hr11)) fun M4 fM4_0=>?_
    refine m1 (j e0 (j @hoS @hoN)) ?_
    exact hK _ _ ⟨M4,(by omega),rfl,rfl⟩
   rintro a J ⟨M4,fM4_0,ha,rfl⟩
   refine hK5 _ _ ?_;rw[ha]
   refine Rc.mk ?_
   have e0:=nQ o3 o4
   obtain rfl:=oi H
   refine qJ e0 hK3 ?_
   exact R3 (M4+3) o3 o4
  cases oj H
  refine zJ (hO3 _ _ _ _ rfl ⟨rfl,?_⟩)
  refine kr ?_
  refine gP zD o4 0 1 ?_
  exact R3 (M2+12) o3 o4
 intro x a J hx
 obtain⟨y8,y9⟩:=e1
 obtain⟨rfl,b,U,hr,M3,o5,o6,fM3_0,fM3_1,fM3_2,fM3_3,fM3_4,fM3_5,rfl,rfl⟩:=hx
 (try dsimp only at H)
 show K2 _ _
 refine hK2 _ _ (zD hr ?_)
 refine Rc.mk ?_
 refine gU Wre o6 0 1 ?_
 refine gU Wre o6 0 5 ?_
 have e0:=nQ o5 o6
 have e1:=nQ o5 M3
 have e2:=nQ o5 (M3+1)
 have e3:=nQ o6 M3
 have e4:=nQ o6 (M3+1)
 refine qB [4,5] (j e0 (j e1 (j e2 (j e3 e4)))) ?_
 obtain rfl:=oi H
 refine Kp [4,5] ?_
 have z0:=nQ o5 o6
 have z1:=nQ o5 M3
 have z2:=nQ o5 (M3+1)
 have z3:=nQ o6 M3
 have z4:=nQ o6 (M3+1)
 refine Wr ?_
 exact⟨[.agg [.fsl (eL zA y9.Codes),.sl M3 0 y9.Threads.length,.fsl (eL rBox y9.Boxes),.int .i64 y9.Turn,.int .i64 y9.Idle,.sl (M3+1) 0 y9.Out.length],.bool true],by simp[z0,z1,z2,z3,z4],4,by simp[eN,z0,z1,z2,z3,z4]⟩

theorem c28_o {p0:gCrew}{p1:Int}{r:gCrew×Bool}(H:xI p0 p1=some r){J:AHeap}:ACalls Tryz.prog G 28 [.agg [.fsl (eL zA p0.Codes),.fsl (eL zB p0.Threads),.fsl (eL rBox p0.Boxes),.int .i64 p0.Turn,.int .i64 p0.Idle,.fsl (eL rI p0.Out)],.int .i64 p1] J (fun v J'=>∃M n0:Nat,J.next<=M/\J.next<=n0/\n0<M/\v=.tup [.agg [.fsl (eL zA r.1.Codes),.sl n0 0 r.1.Threads.length,.fsl (eL rBox r.1.Boxes),.int .i64 r.1.Turn,.int .i64 r.1.Idle,.fsl (eL rI r.1.Out)],.bool r.2]/\J'=hp J.objs [(n0,some ⟨42,2,eL zB r.1.Threads⟩)] M):=by
 refine fr2 [] (by simp) (fun hlt=>?_) ⟨_,func28,rfl,rfl⟩
 generalize J.next=N0 at hlt ⊢
 refine kQ 4 ?_
 refine fnK tok func28 ntmps28 results28 ?_
 simp only[argsA,Nat.reduceAdd,hpN]
 unfold xI at H
 refine S0 tok [0] [1,2,4] ?_
 refine Wsq [1,2,4] fun K1 hK1=>?_
 refine gW Wre (N0+1) 0 0 ?_
 refine gP0 Wre (N0+1) 0 1 42 2 (eL zB ([]:List gThread)) ?_
 refine gW Wre (N0+1) 0 2 ?_
 refine gP0 Wre (N0+1) 0 5 3 1 (eL rI ([]:List Int)) ?_
 obtain⟨r1,hr1,H⟩:=bE H
 obtain⟨g3,hg3,H⟩:=bE H
 refine qF tok [1,2,4,15] ([(1,.int .i64 p1),(2,.fptr [.fsl (eL zA p0.Codes),.fsl (eL zB p0.Threads),.fsl (eL rBox p0.Boxes),.int .i64 p0.Turn,.int .i64 p0.Idle,.fsl (eL rI p0.Out)] 0),(4,.ptr (N0+1) 0 0),(15,.bool g3)]) (hp E0 [(N0+1,some ⟨30,6,[[.fsl [],.osl 42 2 (eL zB ([]:List gThread)),.fsl [],.int .i64 0,.int .i64 0,.osl 3 1 (eL rI ([]:List Int))]]⟩)] (N0+11)) (by
  intro K k
  refine m0 ?_
  refine(c49 hr1).app (m0 ?_)
  cases hbg3:bnot r1
  .replace hg3:=ifF hbg3 hg3
   obtain⟨r2,hr2,hg3⟩:=bE hg3
   cases oj hg3
   refine m1 hbg3 ?_
   refine(c66 hr2).app (m1 hbg3 ?_)
   exact k
  cases oj (ifT hbg3 hg3)
  refine m1 hbg3 ?_
  exact k) ?_
 refine Ci H ?_ ?_<;>intro H
 .refine S0 tok [0] [4,5] ?_
  cases oj H
  refine Kp [4,5] ?_
  refine gW Wre (N0+1) 0 0 ?_
  refine gP0 Wre (N0+1) 0 1 42 2 (eL zB ([]:List gThread)) ?_
  refine gW Wre (N0+1) 0 2 ?_
  refine gP0 Wre (N0+1) 0 5 3 1 (eL rI ([]:List Int)) ?_
  refine gU Wre (N0+1) 0 1 ?_
  refine gU Wre (N0+1) 0 5 ?_
  refine Wr ?_
  refine⟨[.agg [.fsl [],.sl (N0+14) 0 ([]:List gThread).length,.fsl [],.int .i64 0,.int .i64 0,.sl (N0+15) 0 ([]:List Int).length],.bool false],by simp,(fun o=>[N0+1,N0+15].contains o),N0+16,N0+14,by omega,by omega,by omega,?_,?_⟩
  .simp[eN]
  rw[cutD (L':=[(N0+14,some ⟨42,2,eL zB ([]:List gThread)⟩)]) (by simp)]
  first|done|rfl|simp
 refine Js hK1 ?_
 obtain⟨r4,hr4,H⟩:=bE H
 refine kT tok [] [1,4,6] (fun a J=>∃M1 o1 o2:Nat,N0+15<=M1/\N0+15<=o1/\o1<M1/\N0+15<=o2/\o2<M1/\¬o1=o2/\a=[(1,.int .i64 p1),(4,.ptr (N0+1) 0 0),(6,.ptr (N0+13) 0 0)]/\J=hp E0 [(N0+1,some ⟨30,6,[[.fsl [],.osl 42 2 (eL zB ([]:List gThread)),.fsl [],.int .i64 0,.int .i64 0,.osl 3 1 (eL rI ([]:List Int))]]⟩),(o1,some ⟨42,2,eL zB r4.Threads⟩),(o2,some ⟨3,1,eL rI r4.Out⟩),(N0+13,some ⟨30,6,[[.fsl (eL zA r4.Codes),.sl o1 0 r4.Threads.length,.fsl (eL rBox r4.Boxes),.int .i64 r4.Turn,.int .i64 r4.Idle,.sl o2 0 r4.Out.length]]⟩)] M1) (fun K hK=>?_) ?_
 .skip
  refine m0 ?_
  refine(c67_o2 (H:=hr4)).mono ?_;rintro _ _ ⟨M1,o1,o2,fM1_0,fM1_1,fM1_2,fM1_3,fM1_4,fM1_5,rfl,rfl⟩;simp only[hpN] at fM1_0 fM1_1 fM1_2 fM1_3 fM1_4 fM1_5
  have eM1_0:=nQ o1 (N0+1)
  have eM1_1:=nQ o1 (N0+13)
  have eM1_2:=nQ o1 o2
  have eM1_3:=nQ o2 (N0+1)
  have eM1_4:=nQ o2 (N0+13)
  refine m1 (j eM1_0 (j eM1_1 (j eM1_2 (j eM1_3 (j eM1_4 (j @hoS @hoN)))))) ?_
  exact hK _ _ ⟨M1,o1,o2,(by omega),(by omega),(by omega),(by omega),(by omega),(by omega),rfl,rfl⟩
 rintro a J ⟨M1,o1,o2,fM1_0,fM1_1,fM1_2,fM1_3,fM1_4,fM1_5,rfl,rfl⟩
 refine Wsq [4,6] fun K2 hK2=>?_
 have e0:=nQ (N0+1) o1
 have e1:=nQ (N0+1) o2
 have e2:=nQ o1 o2
 have e3:=nQ o1 (N0+13)
 have e4:=nQ o2 (N0+13)
 refine qB [1,4,6,7] (j e0 (j e1 (j e2 (j e3 e4)))) ?_
 refine Wb ?_
 obtain⟨e1,hse1,H⟩:=bE H
 refine zP [1,4,6,7] (fun s a J=>∃M2 o3 o4:Nat,N0<=M2/\N0<=o3/\o3<M2/\N0<=o4/\o4<M2/\¬o3=o4/\a=[(1,.int .i64 p1),(4,.ptr o3 0 0),(6,.ptr o4 0 0),(7,.int .i64 s.1)]/\J=hp E0 [(o3,some ⟨30,6,[[.fsl (eL zA s.2.1.Codes),.osl 42 2 (eL zB s.2.1.Threads),.fsl (eL rBox s.2.1.Boxes),.int .i64 s.2.1.Turn,.int .i64 s.2.1.Idle,.osl 3 1 (eL rI s.2.1.Out)]]⟩),(o4,some ⟨30,6,[[.fsl (eL zA s.2.2.Codes),.osl 42 2 (eL zB s.2.2.Threads),.fsl (eL rBox s.2.2.Boxes),.int .i64 s.2.2.Turn,.int .i64 s.2.2.Idle,.osl 3 1 (eL rI s.2.2.Out)]]⟩)] M2) (fun s x a J=>x=.exit 0/\Rc G 34 N0 (fun a J=>∃M3 o5 o6:Nat,N0<=M3/\N0<=o5/\o5<M3/\N0<=o6/\o6<M3/\¬o5=o6/\a=[(4,.ptr o5 0 0),(6,.ptr o6 0 0)]/\J=hp E0 [(o5,some ⟨30,6,[[.fsl (eL zA s.1.Codes),.osl 42 2 (eL zB s.1.Threads),.fsl (eL rBox s.1.Boxes),.int .i64 s.1.Turn,.int .i64 s.1.Idle,.osl 3 1 (eL rI s.1.Out)]]⟩),(o6,some ⟨30,6,[[.fsl (eL zA s.2.Codes),.osl 42 2 (eL zB s.2.Threads),.fsl (eL rBox s.2.Boxes),.int .i64 s.2.Turn,.int .i64 s.2.Idle,.osl 3 1 (eL rI s.2.Out)]]⟩)] M3) (AAct.keep a [4,6]) J) hse1 ?_ ?_ ?_
 .refine kp [1,4,6,7] ?_
  refine gP zD (N0+13) 0 1 ?_
  refine gP zD (N0+13) 0 5 ?_
  exact R3 (M1+1) (N0+1) (N0+13)
 .clear H hse1
  rintro⟨s5,s6,s7⟩ fl a J H ⟨M2,o3,o4,fM2_0,fM2_1,fM2_2,fM2_3,fM2_4,fM2_5,rfl,rfl⟩ K3 O3 hK3 hO3
  unfold tI at H;dsimp only at H
  refine Wsq [1,4,6,7] fun K4 hK4=>?_
  refine gU Wre o4 0 1 ?_
  obtain⟨g10,hg10,H⟩:=bE H
  refine qF tok [1,4,6,7,29] ([(1,.int .i64 p1),(4,.ptr o3 0 0),(6,.ptr o4 0 0),(7,.int .i64 s5),(29,.bool g10)]) (hp E0 [(o3,some ⟨30,6,[[.fsl (eL zA s6.Codes),.osl 42 2 (eL zB s6.Threads),.fsl (eL rBox s6.Boxes),.int .i64 s6.Turn,.int .i64 s6.Idle,.osl 3 1 (eL rI s6.Out)]]⟩),(o4,some ⟨30,6,[[.fsl (eL zA s7.Codes),.sl M2 0 s7.Threads.length,.fsl (eL rBox s7.Boxes),.int .i64 s7.Turn,.int .i64 s7.Idle,.osl 3 1 (eL rI s7.Out)]]⟩),(M2,some ⟨42,2,eL zB s7.Threads⟩)] (M2+12)) (by
   intro K k
   have e0:=nQ o3 o4
   have e1:=nQ o3 M2
   have e2:=nQ o4 M2
   refine m1 (j e0 (j e1 e2)) ?_
   cases hbg10:ilt s5 p1
   .cases oj (ifF hbg10 hg10)
    exact m1 (j e0 (j e1 (j e2 hbg10))) k
   cases oj (ifT hbg10 hg10)
   refine m1 (j e0 (j e1 (j e2 hbg10))) ?_
   exact k) ?_
  refine Ci H ?_ ?_<;>intro H
  .refine Js hK4 ?_
   refine Wsq [1,4,6,7] fun K5 hK5=>?_
   refine Wb ?_
   refine gP Wre o4 0 1 ?_
   obtain⟨r11,hr11,H⟩:=bE H
   refine uT tok [] [1,4,6,7] (fun a J=>∃M4:Nat,M2+13<=M4/\a=[(1,.int .i64 p1),(4,.ptr o3 0 0),(6,.ptr o4 0 0),(7,.int .i64 s5)]/\J=hp E0 [(o3,some ⟨30,6,[[.fsl (eL zA s6.Codes),.osl 42 2 (eL zB s6.Threads),.fsl (eL rBox s6.Boxes),.int .i64 s6.Turn,.int .i64 s6.Idle,.osl 3 1 (eL rI s6.Out)]]⟩),(o4,some ⟨30,6,[[.fsl (eL zA r11.Codes),.osl 42 2 (eL zB r11.Threads),.fsl (eL rBox r11.Boxes),.int .i64 r11.Turn,.int .i64 r11.Idle,.osl 3 1 (eL rI r11.Out)]]⟩)] M4) (fun K hK=>?_) ?_
   .skip
    have e0:=nQ o3 o4
    refine m1 e0 ?_
    refine mc e0 (c68 (r0_:=0) (H:=hr11)) fun M4 fM4_0=>?_
    refine m1 (j e0 (j @hoS @hoN)) ?_
    exact hK _ _ ⟨M4,(by omega),rfl,rfl⟩
   rintro a J ⟨M4,fM4_0,ha,rfl⟩
   refine hK5 _ _ ?_;rw[ha]
   refine Rc.mk ?_
   have e0:=nQ o3 o4
   obtain rfl:=oi H
   refine qJ e0 hK3 ?_
   exact R3 (M4+3) o3 o4
  cases oj H
  refine zJ (hO3 _ _ _ _ rfl ⟨rfl,?_⟩)
  refine kr ?_
  refine gP zD o4 0 1 ?_
  exact R3 (M2+12) o3 o4
 intro x a J hx
 obtain⟨y8,y9⟩:=e1
 obtain⟨rfl,b,U,hr,M3,o5,o6,fM3_0,fM3_1,fM3_2,fM3_3,fM3_4,fM3_5,rfl,rfl⟩:=hx
 (try dsimp only at H)
 show K2 _ _
 refine hK2 _ _ (zD hr ?_)
 refine Rc.mk ?_
 refine gU Wre o6 0 1 ?_
 refine gU Wre o6 0 5 ?_
 have e0:=nQ o5 o6
 have e1:=nQ o5 M3
 have e2:=nQ o5 (M3+1)
 have e3:=nQ o6 M3
 have e4:=nQ o6 (M3+1)
 refine qB [4,5] (j e0 (j e1 (j e2 (j e3 e4)))) ?_
 obtain rfl:=oi H
 refine Kp [4,5] ?_
 refine gDrop Wre [(o5,some ⟨30,6,[[.fsl (eL zA y9.Codes),.sl M3 0 y9.Threads.length,.fsl (eL rBox y9.Boxes),.int .i64 y9.Turn,.int .i64 y9.Idle,.sl (M3+1) 0 y9.Out.length]]⟩),(M3,some ⟨42,2,eL zB y9.Threads⟩),(M3+1,some ⟨3,1,eL rI y9.Out⟩)] (zI (AHeap.Sub.trans (zI (zI (AHeap.Sub.refl _))) (zR rfl (by simp;try omega)))) ?_
 refine gP Wre o5 0 1 ?_
 refine gP Wre o5 0 5 ?_
 refine gU Wre o5 0 1 ?_
 refine gU Wre o5 0 5 ?_
 have z0:=nQ o5 (M3+5)
 have z1:=nQ o5 (M3+6)
 refine Wr ?_
 refine⟨[.agg [.fsl (eL zA y9.Codes),.sl (M3+5) 0 y9.Threads.length,.fsl (eL rBox y9.Boxes),.int .i64 y9.Turn,.int .i64 y9.Idle,.sl (M3+6) 0 y9.Out.length],.bool true],by simp[z0,z1],(fun o=>[o5,M3+6].contains o),M3+7,M3+5,by omega,by omega,by omega,?_,?_⟩
 .simp[eN,z0,z1]
 rw[cutD (L':=[(M3+5,some ⟨42,2,eL zB y9.Threads⟩)]) (by simp[z0,z1])]
 first|done|rfl|simp

theorem c65 {p0:gL6Rd}{r:gCrew×gL6Rd}(H:wA p0=some r){J:AHeap}{w0:Nat}{W0:List (List AV)}{r0_:Nat}(q0:J.objs w0=some ⟨105,2,W0⟩)(g0:W0[r0_]? =some [.fsl (eL rU8 p0.b),.int .i64 p0.p]):ACalls Tryz.prog G 65 [.ptr w0 r0_ 0] J (fun v J'=>∃M:Nat,J.next<=M/\v=.agg [.fsl (eL zA r.1.Codes),.fsl (eL zB r.1.Threads),.fsl (eL rBox r.1.Boxes),.int .i64 r.1.Turn,.int .i64 r.1.Idle,.fsl (eL rI r.1.Out)]/\J'=hp J.objs [(w0,some ⟨105,2,W0.set r0_ [.fsl (eL rU8 r.2.b),.int .i64 r.2.p]⟩)] M):=by
 refine fr1 ([(w0,some ⟨105,2,W0⟩)]) (by simp[q0]) (fun hlt=>?_) ⟨_,func65,rfl,rfl⟩
 generalize J.next=N0 at hlt ⊢
 have lw0:w0<N0:=hlt _ (.head _) rfl
 have gs_W0:∀x,(W0.set r0_ x)[r0_]? =some x:=gsetW g0
 rw[<- zY g0]
 refine kQ 4 ?_
 refine fnK tok func65 ntmps65 results65 ?_
 simp only[argsA,Nat.reduceAdd,hpN]
 unfold wA at H
 have e0:=nQ w0 N0
 refine qC [0,2] e0 gs_W0 ?_
 refine gW Wre N0 0 0 ?_
 refine gP0 Wre N0 0 1 42 2 (eL zB ([]:List gThread)) ?_
 refine gW Wre N0 0 2 ?_
 refine gW Wre N0 0 5 ?_
 obtain⟨r1,hr1,H⟩:=bE H
 obtain⟨r2,hr2,H⟩:=bE H
 obtain⟨r3,hr3,H⟩:=bE H
 obtain⟨r4,hr4,H⟩:=bE H
 have q0:∀J i,bsA T 23 true i 2 [(0,.int .i64 (iadd .i64 1 r1.1)),(1,.int .i64 (iadd .i64 1 r2.1))] J=some (.fsl (eL rI ([iadd .i64 1 r1.1,iadd .i64 1 r2.1]:List Int)),J):=fun _ _=>rfl
 refine Sm tok [6] [0,2,3] (N0+17) (by
  intro K k
  have e0:=nQ w0 N0
  have e1:=nQ w0 (N0+14)
  refine m1 (j e0 (j e1 (j gs_W0 q0))) ?_
  refine mc (j e0 (j e1 (j gs_W0 q0))) (c41 (r0_:=r0_) (H:=hr1)) fun M1 fM1_0=>?_
  refine m1 (j e0 (j e1 (j gs_W0 (j q0 (j @hoS @hoN))))) ?_
  refine mc (j e0 (j e1 (j gs_W0 (j q0 (j @hoS @hoN))))) (c41 (r0_:=r0_) (H:=hr2)) fun M2 fM2_0=>?_
  refine m1 (j e0 (j e1 (j gs_W0 (j q0 (j @hoS @hoN))))) ?_
  refine mc (j e0 (j e1 (j gs_W0 (j q0 (j @hoS @hoN))))) (c42 (r0_:=r0_) (H:=hr3)) fun M3 fM3_0=>?_
  refine m1 (j e0 (j e1 (j gs_W0 (j q0 (j @hoS @hoN))))) ?_
  refine(c14 hr4).app (m1 (j e0 (j e1 (j gs_W0 (j q0 (j @hoS @hoN))))) ?_)
  exact k M3 (by omega)) fun M3 fM3_0=>?_
 have z0:=nQ w0 N0
 have z1:=nQ w0 (N0+14)
 refine gFrz Wre 4 [N0+14] [(w0,some ⟨105,2,W0.set r0_ [.fsl (eL rU8 r3.2.b),.int .i64 r3.2.p]⟩),(N0,some ⟨30,6,[[.fsl [],.osl 42 2 (eL zB ([]:List gThread)),.fsl [],.int .i64 0,.int .i64 0,.fsl []]]⟩)] [(0,.ptr w0 r0_ 0),(2,.ptr N0 0 0),(3,.fptr [.fsl (eL zA r4.1.Codes),.fsl (eL zB r4.1.Threads),.fsl (eL rBox r4.1.Boxes),.int .i64 r4.1.Turn,.int .i64 r4.1.Idle,.fsl (eL rI r4.1.Out)] 0)] (by simp[z0,z1]) (cutD (by simp[z0,z1])) ?_
 obtain⟨r5,hr5,H⟩:=bE H
 obtain⟨r6,hr6,H⟩:=bE H
 refine AWP_syC tok tokM [] [2,3,7,8] [0,1,2,3,4,5,6,7,8,9] [] [0,2,5] (fun a J=>∃M4:Nat,∃M5 o1:Nat,M3+10<=M4/\M4<=M5/\M4<=o1/\o1<M5/\a=[(0,.ptr w0 r0_ 0),(2,.ptr N0 0 0),(5,.ptr (M3+7) 0 0)]/\J=hp E0 [(w0,some ⟨105,2,W0.set r0_ [.fsl (eL rU8 r5.2.b),.int .i64 r5.2.p]⟩),(N0,some ⟨30,6,[[.fsl [],.osl 42 2 (eL zB ([]:List gThread)),.fsl [],.int .i64 0,.int .i64 0,.fsl []]]⟩),(o1,some ⟨42,2,eL zB r6.1.Threads⟩),(M3+7,some ⟨30,6,[[.fsl (eL zA r6.1.Codes),.sl o1 0 r6.1.Threads.length,.fsl (eL rBox r6.1.Boxes),.int .i64 r6.1.Turn,.int .i64 r6.1.Idle,.fsl (eL rI r6.1.Out)]]⟩)] M5) (by decide) (by kernel_rfl) (fun K hK=>?_) ?_
 .simp only[pickL,zF,zG]
  have e0:=nQ w0 N0
  have e1:=nQ w0 (M3+7)
  have e2:=nQ N0 (M3+7)
  refine m1 (j e0 (j e1 (j e2 gs_W0))) ?_
  refine mc (j e0 (j e1 (j e2 gs_W0))) (c41 (r0_:=r0_) (H:=hr5)) fun M4 fM4_0=>?_
  refine m1 (j e0 (j e1 (j e2 (j gs_W0 (j @hoS @hoN))))) ?_
  refine mo (c28_o (H:=hr6)) fun M5 o1 fM5_0 fM5_1 fM5_2=>?_
  have eM5_0:=nQ o1 w0
  have eM5_1:=nQ o1 N0
  have eM5_2:=nQ o1 (M3+7)
  refine m1 (j e0 (j e1 (j e2 (j gs_W0 (j @hoS (j @hoN (j eM5_0 (j eM5_1 eM5_2)))))))) ?_
  exact hK _ _ ⟨M4,M5,o1,(by omega),(by omega),(by omega),(by omega),rfl,rfl⟩
 rintro a J ⟨M4,M5,o1,fM4_0,fM5_0,fM5_1,fM5_2,rfl,rfl⟩
 refine Wsq [2,5] fun K1 hK1=>?_
 refine gP Wre (M3+7) 0 1 ?_
 obtain⟨r7,hr7,H⟩:=bE H
 refine Sm tok [] [2,5,28] (M5+2) (by
  intro K k
  have e0:=nQ w0 N0
  have e1:=nQ w0 (M3+7)
  have e2:=nQ N0 (M3+7)
  refine m1 (j e0 (j e1 (j e2 gs_W0))) ?_
  refine mc (j e0 (j e1 (j e2 gs_W0))) (c41 (r0_:=r0_) (H:=hr7)) fun M6 fM6_0=>?_
  refine m1 (j e0 (j e1 (j e2 (j gs_W0 (j @hoS @hoN))))) ?_
  exact k M6 (by omega)) fun M6 fM6_0=>?_
 refine Wb ?_
 have e0:=nQ w0 N0
 have e1:=nQ w0 (M3+7)
 have e2:=nQ N0 (M3+7)
 refine qB [2,5,28,29] (j e0 (j e1 (j e2 gs_W0))) ?_
 refine Ci H ?_ ?_<;>intro H
 .have e0:=nQ w0 N0
  have e1:=nQ w0 (M3+7)
  have e2:=nQ N0 (M3+7)
  refine qH (j e0 (j e1 (j e2 gs_W0))) hK1 ?_
  refine gU Wre (M3+7) 0 1 ?_
  have e0:=nQ w0 N0
  have e1:=nQ w0 (M3+7)
  have e2:=nQ w0 (M6+4)
  have e3:=nQ N0 (M3+7)
  have e4:=nQ N0 (M6+4)
  have e5:=nQ (M3+7) (M6+4)
  have e6:=nQ (M3+3) M6
  refine qB [2] (j e0 (j e1 (j e2 (j e3 (j e4 (j e5 (j e6 gs_W0))))))) ?_
  obtain rfl:=oi H
  refine Kp [2] ?_
  refine gDrop Wre [(w0,some ⟨105,2,W0.set r0_ [.fsl (eL rU8 r7.2.b),.int .i64 r7.2.p]⟩),(N0,some ⟨30,6,[[.fsl (eL zA r6.1.Codes),.sl (M6+4) 0 r6.1.Threads.length,.fsl (eL rBox r6.1.Boxes),.int .i64 (-1),.int .i64 r6.1.Idle,.fsl (eL rI r6.1.Out)]]⟩),(M6+4,some ⟨42,2,eL zB r6.1.Threads⟩)] (zI (zI (AHeap.Sub.trans (zI (AHeap.Sub.refl _)) (zR rfl (by simp;try omega))))) ?_
  refine gP Wre N0 0 1 ?_
  refine gU Wre N0 0 1 ?_
  have z2:=nQ w0 N0
  have z3:=nQ w0 (M6+7)
  have z4:=nQ N0 (M6+7)
  refine Wr ?_
  refine⟨[.agg [.fsl (eL zA r6.1.Codes),.sl (M6+7) 0 r6.1.Threads.length,.fsl (eL rBox r6.1.Boxes),.int .i64 (-1),.int .i64 r6.1.Idle,.fsl (eL rI r6.1.Out)]],by simp[z2,z3,z4,gs_W0],(fun o=>[N0,M6+7].contains o),M6+8,by omega,?_,?_⟩
  .simp[eN,z2,z3,z4,gs_W0]
  rw[cutD (L':=[(w0,some ⟨105,2,W0.set r0_ [.fsl (eL rU8 r7.2.b),.int .i64 r7.2.p]⟩)]) (by simp[z2,z3,z4,gs_W0])]
  first|done|rfl|simp
 have e0:=nQ w0 N0
 have e1:=nQ w0 (M3+7)
 have e2:=nQ N0 (M3+7)
 refine qB [2,5,28,32] (j e0 (j e1 (j e2 gs_W0))) ?_
 refine Ci H ?_ ?_<;>intro H
 .obtain⟨l8,hl8,H⟩:=bE H
  have e0:=nQ w0 N0
  have e1:=nQ w0 (M3+7)
  have e2:=nQ N0 (M3+7)
  refine qH (j e0 (j e1 (j e2 (j gs_W0 (cuth_28 hl8))))) hK1 ?_
  refine gU Wre (M3+7) 0 1 ?_
  have e0:=nQ w0 N0
  have e1:=nQ w0 (M3+7)
  have e2:=nQ w0 (M6+9)
  have e3:=nQ N0 (M3+7)
  have e4:=nQ N0 (M6+9)
  have e5:=nQ (M3+7) (M6+9)
  have e6:=nQ M3 (M6+2)
  refine qB [2] (j e0 (j e1 (j e2 (j e3 (j e4 (j e5 (j e6 gs_W0))))))) ?_
  obtain rfl:=oi H
  refine Kp [2] ?_
  refine gDrop Wre [(w0,some ⟨105,2,W0.set r0_ [.fsl (eL rU8 r7.2.b),.int .i64 r7.2.p]⟩),(N0,some ⟨30,6,[[.fsl (eL zA r6.1.Codes),.sl (M6+9) 0 r6.1.Threads.length,.fsl (eL rBox l8),.int .i64 r6.1.Turn,.int .i64 r6.1.Idle,.fsl (eL rI r6.1.Out)]]⟩),(M6+9,some ⟨42,2,eL zB r6.1.Threads⟩)] (zI (zI (AHeap.Sub.trans (zI (AHeap.Sub.refl _)) (zR rfl (by simp;try omega))))) ?_
  refine gP Wre N0 0 1 ?_
  refine gU Wre N0 0 1 ?_
  have z5:=nQ w0 N0
  have z6:=nQ w0 (M6+12)
  have z7:=nQ N0 (M6+12)
  refine Wr ?_
  refine⟨[.agg [.fsl (eL zA r6.1.Codes),.sl (M6+12) 0 r6.1.Threads.length,.fsl (eL rBox l8),.int .i64 r6.1.Turn,.int .i64 r6.1.Idle,.fsl (eL rI r6.1.Out)]],by simp[z5,z6,z7,gs_W0],(fun o=>[N0,M6+12].contains o),M6+13,by omega,?_,?_⟩
  .simp[eN,z5,z6,z7,gs_W0]
  rw[cutD (L':=[(w0,some ⟨105,2,W0.set r0_ [.fsl (eL rU8 r7.2.b),.int .i64 r7.2.p]⟩)]) (by simp[z5,z6,z7,gs_W0])]
  first|done|rfl|simp
 have e0:=nQ w0 N0
 have e1:=nQ w0 (M3+7)
 have e2:=nQ N0 (M3+7)
 refine qB [2,5,38] (j e0 (j e1 (j e2 gs_W0))) ?_
 refine Ci H ?_ ?_<;>intro H
 .refine gU Wre (M3+7) 0 1 ?_
  obtain⟨v9,hv9,H⟩:=bE H
  obtain⟨l10,hl10,H⟩:=bE H
  have e0:=nQ w0 N0
  have e1:=nQ w0 (M3+7)
  have e2:=nQ w0 (M6+6)
  have e3:=nQ N0 (M3+7)
  have e4:=nQ N0 (M6+6)
  have e5:=nQ (M3+7) (M6+6)
  have e6:=nQ (M3+1) M6
  refine Rt tok [] [2,5] (by intro K k;simp -dsimp -implicitDefEqProofs [e0,e1,e2,e3,e4,e5,e6,gs_W0,ixo27 hv9,(show _[0]? =some v9 from(zL hv9).2.2),(show List.set _ 0 _=l10 from(setx_iff.1 hl10).2.symm)];exact k) fun a ha=>?_
  (try rw[<- zK hl10] at ha);(try rw[<- zK hl10])
  refine hK1 _ _ ?_;rw[ha]
  refine Rc.mk ?_
  have e0:=nQ w0 N0
  have e1:=nQ w0 (M3+7)
  have e2:=nQ w0 (M6+6)
  have e3:=nQ N0 (M3+7)
  have e4:=nQ N0 (M6+6)
  have e5:=nQ (M3+7) (M6+6)
  have e6:=nQ (M3+1) M6
  refine qB [2] (j e0 (j e1 (j e2 (j e3 (j e4 (j e5 (j e6 gs_W0))))))) ?_
  obtain rfl:=oi H
  refine Kp [2] ?_
  refine gDrop Wre [(w0,some ⟨105,2,W0.set r0_ [.fsl (eL rU8 r7.2.b),.int .i64 r7.2.p]⟩),(N0,some ⟨30,6,[[.fsl (eL zA r6.1.Codes),.sl (M6+6) 0 l10.length,.fsl (eL rBox r6.1.Boxes),.int .i64 r6.1.Turn,.int .i64 r6.1.Idle,.fsl (eL rI r6.1.Out)]]⟩),(M6+6,some ⟨42,2,eL zB l10⟩)] (zI (zI (AHeap.Sub.trans (zI (AHeap.Sub.refl _)) (zR rfl (by simp;try omega))))) ?_
  refine gP Wre N0 0 1 ?_
  refine gU Wre N0 0 1 ?_
  have z8:=nQ w0 N0
  have z9:=nQ w0 (M6+14)
  have z10:=nQ N0 (M6+14)
  refine Wr ?_
  refine⟨[.agg [.fsl (eL zA r6.1.Codes),.sl (M6+14) 0 l10.length,.fsl (eL rBox r6.1.Boxes),.int .i64 r6.1.Turn,.int .i64 r6.1.Idle,.fsl (eL rI r6.1.Out)]],by simp[z8,z9,z10,gs_W0],(fun o=>[N0,M6+14].contains o),M6+15,by omega,?_,?_⟩
  .simp[eN,z8,z9,z10,gs_W0]
  rw[cutD (L':=[(w0,some ⟨105,2,W0.set r0_ [.fsl (eL rU8 r7.2.b),.int .i64 r7.2.p]⟩)]) (by simp[z8,z9,z10,gs_W0])]
  first|done|rfl|simp
 refine Js hK1 ?_
 refine gU Wre (M3+7) 0 1 ?_
 have e0:=nQ w0 N0
 have e1:=nQ w0 (M3+7)
 have e2:=nQ w0 (M6+6)
 have e3:=nQ N0 (M3+7)
 have e4:=nQ N0 (M6+6)
 have e5:=nQ (M3+7) (M6+6)
 have e6:=nQ (M3+1) M6
 refine qB [2] (j e0 (j e1 (j e2 (j e3 (j e4 (j e5 (j e6 gs_W0))))))) ?_
 obtain rfl:=oi H
 refine Kp [2] ?_
 refine gDrop Wre [(w0,some ⟨105,2,W0.set r0_ [.fsl (eL rU8 r7.2.b),.int .i64 r7.2.p]⟩),(N0,some ⟨30,6,[[.fsl (eL zA r6.1.Codes),.sl (M6+6) 0 r6.1.Threads.length,.fsl (eL rBox r6.1.Boxes),.int .i64 r6.1.Turn,.int .i64 r6.1.Idle,.fsl (eL rI r6.1.Out)]]⟩),(M6+6,some ⟨42,2,eL zB r6.1.Threads⟩)] (zI (zI (AHeap.Sub.trans (zI (AHeap.Sub.refl _)) (zR rfl (by simp;try omega))))) ?_
 refine gP Wre N0 0 1 ?_
 refine gU Wre N0 0 1 ?_
 have z11:=nQ w0 N0
 have z12:=nQ w0 (M6+9)
 have z13:=nQ N0 (M6+9)
 refine Wr ?_
 refine⟨[.agg [.fsl (eL zA r6.1.Codes),.sl (M6+9) 0 r6.1.Threads.length,.fsl (eL rBox r6.1.Boxes),.int .i64 r6.1.Turn,.int .i64 r6.1.Idle,.fsl (eL rI r6.1.Out)]],by simp[z11,z12,z13,gs_W0],(fun o=>[N0,M6+9].contains o),M6+10,by omega,?_,?_⟩
 .simp[eN,z11,z12,z13,gs_W0]
 rw[cutD (L':=[(w0,some ⟨105,2,W0.set r0_ [.fsl (eL rU8 r7.2.b),.int .i64 r7.2.p]⟩)]) (by simp[z11,z12,z13,gs_W0])]
 first|done|rfl|simp

theorem c29 {p0:gCrew}{r:gCrew×Bool}(H:jX p0=some r):APure Tryz.prog G 29 [.agg [.fsl (eL zA p0.Codes),.fsl (eL zB p0.Threads),.fsl (eL rBox p0.Boxes),.int .i64 p0.Turn,.int .i64 p0.Idle,.fsl (eL rI p0.Out)]] (.tup [.agg [.fsl (eL zA r.1.Codes),.fsl (eL zB r.1.Threads),.fsl (eL rBox r.1.Boxes),.int .i64 r.1.Turn,.int .i64 r.1.Idle,.fsl (eL rI r.1.Out)],.bool r.2]):=by
 refine qK func29 ntmps29 results29 fun N0=>?_
 unfold jX at H
 refine S0 tok [0] [1,2] ?_
 refine gW Wre (N0+1) 0 0 ?_
 refine gW Wre (N0+1) 0 1 ?_
 refine gW Wre (N0+1) 0 2 ?_
 refine gW Wre (N0+1) 0 5 ?_
 obtain⟨r1,hr1,H⟩:=bE H
 refine qD [2,3] (c20 hr1) ?_
 obtain rfl:=oi H
 refine Kp [2,3] ?_
 exact V0

theorem c30 {p0:List Int}{r:gCrew}(H:wG p0=some r):APure Tryz.prog G 30 [.fsl (eL rU8 p0)] (.agg [.fsl (eL zA r.Codes),.fsl (eL zB r.Threads),.fsl (eL rBox r.Boxes),.int .i64 r.Turn,.int .i64 r.Idle,.fsl (eL rI r.Out)]):=by
 refine qK func30 ntmps30 results30 fun N0=>?_
 unfold wG at H
 refine qA [0,2] ?_
 refine gW Wre N0 0 0 ?_
 refine gW Wre N0 0 1 ?_
 refine gW Wre N0 0 2 ?_
 refine gW Wre N0 0 5 ?_
 obtain⟨r1,hr1,H⟩:=bE H
 obtain⟨r2,hr2,H⟩:=bE H
 refine kT tok [] [2] (fun a J=>∃M1 o1:Nat,∃M2:Nat,N0+5<=M1/\N0+5<=o1/\o1<M1/\M1<=M2/\a=[(2,.ptr N0 0 0)]/\J=hp E0 [(N0,some ⟨30,6,[[.fsl (eL zA r2.1.Codes),.fsl (eL zB r2.1.Threads),.fsl (eL rBox r2.1.Boxes),.int .i64 r2.1.Turn,.int .i64 r2.1.Idle,.fsl (eL rI r2.1.Out)]]⟩),(o1,some ⟨105,2,[[.fsl (eL rU8 r2.2.b),.int .i64 r2.2.p]]⟩)] M2) (fun K hK=>?_) ?_
 .skip
  refine m0 ?_
  refine mo (c40_o (H:=hr1)) fun M1 o1 fM1_0 fM1_1 fM1_2=>?_
  have eM1_0:=nQ o1 N0
  refine m1 (j eM1_0 (j @hoS @hoN)) ?_
  refine mc (j eM1_0 (j @hoS @hoN)) (c65 (r0_:=0) (H:=hr2)) fun M2 fM2_0=>?_
  refine m1 (j eM1_0 (j @hoS @hoN)) ?_
  exact hK _ _ ⟨M1,o1,M2,(by omega),(by omega),(by omega),(by omega),rfl,rfl⟩
 rintro a J ⟨M1,o1,M2,fM1_0,fM1_1,fM1_2,fM2_0,rfl,rfl⟩
 obtain rfl:=oi H
 refine Kp [2] ?_
 have z0:=nQ N0 o1
 refine Wr ?_
 exact⟨[.agg [.fsl (eL zA r2.1.Codes),.fsl (eL zB r2.1.Threads),.fsl (eL rBox r2.1.Boxes),.int .i64 r2.1.Turn,.int .i64 r2.1.Idle,.fsl (eL rI r2.1.Out)]],by simp[z0],4,by simp[eN,z0]⟩

theorem c31 {p0:gCrew}{r:gCrew×Bool}(H:oW p0=some r):APure Tryz.prog G 31 [.agg [.fsl (eL zA p0.Codes),.fsl (eL zB p0.Threads),.fsl (eL rBox p0.Boxes),.int .i64 p0.Turn,.int .i64 p0.Idle,.fsl (eL rI p0.Out)]] (.tup [.agg [.fsl (eL zA r.1.Codes),.fsl (eL zB r.1.Threads),.fsl (eL rBox r.1.Boxes),.int .i64 r.1.Turn,.int .i64 r.1.Idle,.fsl (eL rI r.1.Out)],.bool r.2]):=by
 refine qK func31 ntmps31 results31 fun N0=>?_
 unfold oW at H
 refine S0 tok [0] [1,2] ?_
 refine gW Wre (N0+1) 0 0 ?_
 refine gW Wre (N0+1) 0 1 ?_
 refine gW Wre (N0+1) 0 2 ?_
 refine gW Wre (N0+1) 0 5 ?_
 obtain⟨r1,hr1,H⟩:=bE H
 refine qD [2,3] (c28 hr1) ?_
 obtain rfl:=oi H
 refine Kp [2,3] ?_
 exact V0

theorem c34 {p0:List Int}{p1:List Int}{r:Bool}(H:pS p0 p1=some r):APure Tryz.prog G 34 [.fsl (eL rI p0),.fsl (eL rI p1)] (.bool r):=by
 refine qK func34 ntmps34 results34 fun N0=>?_
 unfold pS at H
 refine qA [0,1] ?_
 obtain⟨g3,hg3,H⟩:=bE H
 refine qF tok [4] ([(4,.bool g3)]) (hp E0 [] (N0+15)) (by
  intro K k
  refine m0 ?_
  cases hbg3:ile (ilen p1) (ilen p0)
  .cases oj (ifF hbg3 hg3)
   exact m1 hbg3 k
  replace hg3:=ifT hbg3 hg3
  obtain⟨l1,hl1,hg3⟩:=bE hg3
  obtain⟨r2,hr2,hg3⟩:=bE hg3
  cases oj hg3
  refine m2 hbg3 (cuth_23 hl1) ?_
  refine(c39 hr2).app (m2 hbg3 (cuth_23 hl1) ?_)
  exact k) ?_
 cases oj H;exact W4

theorem c10 {p0:List Int}{r:Bool}(H:nL p0=some r):APure Tryz.prog G 10 [.fsl (eL rU8 p0)] (.bool r):=by
 refine qK func10 ntmps10 results10 fun N0=>?_
 unfold nL at H
 refine qA [0] ?_
 refine Wsq [0] fun K1 hK1=>?_
 refine qA [0,10] ?_
 refine Ci H ?_ ?_<;>intro H
 .refine qA [2] ?_
  cases oj H;exact W4
 refine Js hK1 ?_
 obtain⟨r1,hr1,H⟩:=bE H
 refine qD [3] (c30 hr1) ?_
 obtain⟨r2,hr2,H⟩:=bE H
 refine qD [3,4,5] (c29 hr2) ?_
 obtain⟨r3,hr3,H⟩:=bE H
 refine qD [3,4,5,6,7] (c31 hr3) ?_
 refine Wsq [3,4] fun K2 hK2=>?_
 obtain⟨g5,hg5,H⟩:=bE H
 obtain⟨g6,hg6,H⟩:=bE H
 refine qF tok [3,4,5,6,7,35] ([(3,.ptr (N0+6) 0 0),(4,.ptr (N0+13) 0 0),(5,.bool r2.2),(6,.ptr (N0+21) 0 0),(7,.bool r3.2),(35,.bool g6)]) (hp E0 [(N0+6,some ⟨30,6,[[.fsl (eL zA r1.Codes),.fsl (eL zB r1.Threads),.fsl (eL rBox r1.Boxes),.int .i64 r1.Turn,.int .i64 r1.Idle,.fsl (eL rI r1.Out)]]⟩),(N0+13,some ⟨30,6,[[.fsl (eL zA r2.1.Codes),.fsl (eL zB r2.1.Threads),.fsl (eL rBox r2.1.Boxes),.int .i64 r2.1.Turn,.int .i64 r2.1.Idle,.fsl (eL rI r2.1.Out)]]⟩),(N0+21,some ⟨30,6,[[.fsl (eL zA r3.1.Codes),.fsl (eL zB r3.1.Threads),.fsl (eL rBox r3.1.Boxes),.int .i64 r3.1.Turn,.int .i64 r3.1.Idle,.fsl (eL rI r3.1.Out)]]⟩)] (N0+37)) (by
  intro K k
  refine m0 ?_
  cases hbg5:bneb r2.2 r3.2
  .replace hg5:=ifF hbg5 hg5
   obtain⟨r4,hr4,hg5⟩:=bE hg5
   obtain rfl:=oi hg5
   refine m1 hbg5 ?_
   refine(c15 hr4).app (m1 hbg5 ?_)
   cases hbg6:(bnot r4)
   .cases oj (ifF hbg6 hg6)
    exact m2 hbg5 hbg6 k
   cases oj (ifT hbg6 hg6)
   exact m2 hbg5 hbg6 k
  cases oj (ifT hbg5 hg5)
  cases oj (ifT rfl hg6)
  refine m1 hbg5 ?_
  exact k) ?_
 refine Ci H ?_ ?_<;>intro H
 .obtain⟨g8,hg8,H⟩:=bE H
  refine qF tok [2] ([(2,.bool g8)]) (hp E0 [(N0+6,some ⟨30,6,[[.fsl (eL zA r1.Codes),.fsl (eL zB r1.Threads),.fsl (eL rBox r1.Boxes),.int .i64 r1.Turn,.int .i64 r1.Idle,.fsl (eL rI r1.Out)]]⟩),(N0+13,some ⟨30,6,[[.fsl (eL zA r2.1.Codes),.fsl (eL zB r2.1.Threads),.fsl (eL rBox r2.1.Boxes),.int .i64 r2.1.Turn,.int .i64 r2.1.Idle,.fsl (eL rI r2.1.Out)]]⟩),(N0+21,some ⟨30,6,[[.fsl (eL zA r3.1.Codes),.fsl (eL zB r3.1.Threads),.fsl (eL rBox r3.1.Boxes),.int .i64 r3.1.Turn,.int .i64 r3.1.Idle,.fsl (eL rI r3.1.Out)]]⟩)] (N0+46)) (by
   intro K k
   refine m0 ?_
   cases hbg8:beqb r2.2 r3.2
   .cases oj (ifF hbg8 hg8)
    exact m1 hbg8 k
   replace hg8:=ifT hbg8 hg8
   obtain⟨r7,hr7,hg8⟩:=bE hg8
   cases oj hg8
   refine m1 hbg8 ?_
   refine(c15 hr7).app (m1 hbg8 ?_)
   exact k) ?_
  cases oj H;exact W4
 refine Js hK2 ?_
 obtain⟨r9,hr9,H⟩:=bE H
 obtain⟨g11,hg11,H⟩:=bE H
 obtain⟨g13,hg13,H⟩:=bE H
 obtain⟨g14,hg14,H⟩:=bE H
 refine qF tok [2] ([(2,.bool g14)]) (hp E0 [(N0+6,some ⟨30,6,[[.fsl (eL zA r1.Codes),.fsl (eL zB r1.Threads),.fsl (eL rBox r1.Boxes),.int .i64 r1.Turn,.int .i64 r1.Idle,.fsl (eL rI r1.Out)]]⟩),(N0+13,some ⟨30,6,[[.fsl (eL zA r2.1.Codes),.fsl (eL zB r2.1.Threads),.fsl (eL rBox r2.1.Boxes),.int .i64 r2.1.Turn,.int .i64 r2.1.Idle,.fsl (eL rI r2.1.Out)]]⟩),(N0+21,some ⟨30,6,[[.fsl (eL zA r3.1.Codes),.fsl (eL zB r3.1.Threads),.fsl (eL rBox r3.1.Boxes),.int .i64 r3.1.Turn,.int .i64 r3.1.Idle,.fsl (eL rI r3.1.Out)]]⟩)] (N0+64)) (by
  intro K k
  refine m0 ?_
  refine(c32 hr9).app (m0 ?_)
  cases hbg11:r9
  .cases oj (ifF hbg11 hg11)
   cases oj (ifF rfl hg13)
   cases oj (ifF rfl hg14)
   exact m1 hbg11 k
  replace hg11:=ifT hbg11 hg11
  obtain⟨r10,hr10,hg11⟩:=bE hg11
  obtain rfl:=oi hg11
  refine m1 hbg11 ?_
  refine(c33 hr10).app (m1 hbg11 ?_)
  cases hbg13:r10
  .cases oj (ifF hbg13 hg13)
   cases oj (ifF rfl hg14)
   exact m2 hbg11 hbg13 k
  replace hg13:=ifT hbg13 hg13
  obtain⟨r12,hr12,hg13⟩:=bE hg13
  obtain rfl:=oi hg13
  refine m2 hbg11 hbg13 ?_
  refine(c34 hr12).app (m2 hbg11 hbg13 ?_)
  cases hbg14:r12
  .cases oj (ifF hbg14 hg14)
   exact m1 (j hbg11 (j hbg13 hbg14)) k
  cases oj (ifT hbg14 hg14)
  refine m1 (j hbg11 (j hbg13 hbg14)) ?_
  exact k) ?_
 cases oj H;exact W4
end Go.Proofs.YtolmjhgondilhaaGreat
