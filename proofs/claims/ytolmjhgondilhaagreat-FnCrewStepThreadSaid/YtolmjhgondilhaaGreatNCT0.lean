/- The contracts of functions of the program (CT0): each computes what its mirror computes. No conditions. -/
import Derived.Test.YtolmjhgondilhaaGreatNCH
import Derived.Test.YtolmjhgondilhaaGreatNCM
set_option linter.unusedSimpArgs false
set_option linter.unusedVariables false
set_option maxRecDepth 20000
set_option maxHeartbeats 4000000
namespace Go.Proofs.YtolmjhgondilhaaGreat
open Go Go.Abs Go.RowKit Tryz

theorem c40_o {p0:List Int}{r:gL6Rd}(H:qR p0=some r){J:AHeap}:ACalls Tryz.prog G 40 [.fsl (eL rU8 p0)] J (fun v J'=>∃M n0:Nat,J.next<=M/\J.next<=n0/\n0<M/\v=.ptr n0 0 0/\J'=hp J.objs [(n0,some ⟨105,2,[[.fsl (eL rU8 r.b),.int .i64 r.p]]⟩)] M):=by
 refine fr2 [] (by simp) (fun hlt=>?_) ⟨_,func40,rfl,rfl⟩
 generalize J.next=N0 at hlt ⊢
 refine fnK tok func40 ntmps40 results40 ?_
 simp only[argsA,Nat.reduceAdd,hpN]
 unfold qR at H
 refine qA [0] ?_
 refine Wsq [0] fun K1 hK1=>?_
 refine qA [0,5] ?_
 refine Ci H ?_ ?_<;>intro H
 .obtain⟨l1,hl1,H⟩:=bE H
  refine qH (cuth_22 hl1) hK1 ?_
  refine qA [2] ?_
  cases oj H
  refine Kp [2] ?_
  exact V2 j0 (N0+11) (N0+9)
 refine Js hK1 ?_
 refine qA [2] ?_
 cases oj H
 refine Kp [2] ?_
 exact V2 j0 (N0+8) (N0+6)

theorem c41 {p0:gL6Rd}{p1:Int}{r:Int×gL6Rd}(H:zI p0 p1=some r){J:AHeap}{w0:Nat}{W0:List (List AV)}{r0_:Nat}(q0:J.objs w0=some ⟨105,2,W0⟩)(g0:W0[r0_]? =some [.fsl (eL rU8 p0.b),.int .i64 p0.p]):ACalls Tryz.prog G 41 [.ptr w0 r0_ 0,.int .i64 p1] J (fun v J'=>∃M:Nat,J.next<=M/\v=.int .i64 r.1/\J'=hp J.objs [(w0,some ⟨105,2,W0.set r0_ [.fsl (eL rU8 r.2.b),.int .i64 r.2.p]⟩)] M):=by
 refine fr1 ([(w0,some ⟨105,2,W0⟩)]) (by simp[q0]) (fun hlt=>?_) ⟨_,func41,rfl,rfl⟩
 generalize J.next=N0 at hlt ⊢
 have lw0:w0<N0:=hlt _ (.head _) rfl
 have gs_W0:∀x,(W0.set r0_ x)[r0_]? =some x:=gsetW g0
 rw[<- kC g0]
 refine fnK tok func41 ntmps41 results41 ?_
 simp only[argsA,Nat.reduceAdd,hpN]
 unfold zI at H
 refine qB [0,1] gs_W0 ?_
 refine qB [0,1] gs_W0 ?_
 refine Wsq [0,1] fun K1 hK1=>?_
 obtain⟨g1,hg1,H⟩:=bE H
 refine qF tok [0,1,24] ([(0,.ptr w0 r0_ 0),(1,.int .i64 p1),(24,.bool g1)]) (hp E0 [(w0,some ⟨105,2,W0.set r0_ [.fsl (eL rU8 p0.b),.int .i64 (iadd .i64 p0.p 1)]⟩)] (N0+20)) (by
  intro K k
  refine m1 gs_W0 ?_
  cases hbg1:ilt p1 1
  .cases oj (ifF hbg1 hg1)
   exact m2 gs_W0 hbg1 k
  cases oj (ifT hbg1 hg1)
  refine m2 gs_W0 hbg1 ?_
  exact k) ?_
 refine Ci H ?_ ?_<;>intro H
 .refine qB [4] gs_W0 ?_
  cases oj H
  refine Kp [4] ?_
  exact V1 gs_W0 (N0+21)
 refine Js hK1 ?_
 refine qB [0,1,5] gs_W0 ?_
 refine Wsq [0,1,5] fun K2 hK2=>?_
 refine qB [0,1,5,36] gs_W0 ?_
 refine Ci H ?_ ?_<;>intro H
 .obtain⟨v2,hv2,H⟩:=bE H
  obtain⟨v3,hv3,H⟩:=bE H
  refine qB [4] (j gs_W0 (j (ix22 hv2) hv3)) ?_
  obtain rfl:=oi H
  refine Kp [4] ?_
  exact V1 gs_W0 (N0+44)
 refine Js hK2 ?_
 obtain⟨v4,hv4,H⟩:=bE H
 obtain⟨v5,hv5,H⟩:=bE H
 obtain⟨v6,hv6,H⟩:=bE H
 obtain⟨v7,hv7,H⟩:=bE H
 obtain⟨v8,hv8,H⟩:=bE H
 refine Sd tok tokM [] [3,8,9,10,18,25,26,27,28,29,30,31,40,41,42,43] [0,1,2,4,5,6,7,15,16,17,19,20,21,22,23,24,33,34,36,37,38,39,3,8,9,10,11,12,13,14,18,25,26,27,28,29,30,31,32,35,40,41,42,43,44,45] [1,6] (by
  intro K k
  simp only[pickL,zJ,zL]
  refine m1 (j gs_W0 (j hv4 (j (ix22 hv5) (j hv6 (j (ix22 hv7) hv8))))) ?_
  exact k) ?_
 obtain⟨v9,hv9,H⟩:=bE H
 refine qC [1,6] gs_W0 hv9 ?_
 obtain⟨v10,hv10,H⟩:=bE H
 refine qC [4] gs_W0 hv10 ?_
 obtain rfl:=oi H
 refine Kp [4] ?_
 exact V1 gs_W0 (N0+88)

theorem c124 {p0:gL6Rd}{r:Int×gL6Rd}(H:jA p0=some r){J:AHeap}{w0:Nat}{W0:List (List AV)}{r0_:Nat}(q0:J.objs w0=some ⟨105,2,W0⟩)(g0:W0[r0_]? =some [.fsl (eL rU8 p0.b),.int .i64 p0.p]):ACalls Tryz.prog G 124 [.ptr w0 r0_ 0] J (fun v J'=>∃M:Nat,J.next<=M/\v=.int .i64 r.1/\J'=hp J.objs [(w0,some ⟨105,2,W0.set r0_ [.fsl (eL rU8 r.2.b),.int .i64 r.2.p]⟩)] M):=by
 refine fr1 ([(w0,some ⟨105,2,W0⟩)]) (by simp[q0]) (fun hlt=>?_) ⟨_,func124,rfl,rfl⟩
 generalize J.next=N0 at hlt ⊢
 have lw0:w0<N0:=hlt _ (.head _) rfl
 have gs_W0:∀x,(W0.set r0_ x)[r0_]? =some x:=gsetW g0
 rw[<- kC g0]
 refine fnK tok func124 ntmps124 results124 ?_
 simp only[argsA,Nat.reduceAdd,hpN]
 unfold jA at H
 refine qB [0] gs_W0 ?_
 obtain⟨r1,hr1,H⟩:=bE H
 refine Sm tok [] [2] (N0+4) (by
  intro K k
  refine m1 gs_W0 ?_
  refine mc gs_W0 (c41 (r0_:=r0_) (H:=hr1)) fun M1 fM1_0=>?_
  refine m1 (j gs_W0 (j @hoS @hoN)) ?_
  exact k M1 (by omega)) fun M1 fM1_0=>?_
 obtain rfl:=oi H
 refine Kp [2] ?_
 exact V1 gs_W0 M1

theorem c139 {p0:Int}{r:Int}(H:sL p0=some r):APure Tryz.prog G 139 [.int .i64 p0] (.int .i64 r):=by
 refine qK func139 ntmps139 results139 fun N0=>?_
 unfold sL at H
 refine qA [0] ?_
 obtain⟨v1,hv1,H⟩:=bE H
 refine qB [3] hv1 ?_
 refine Wsq [3] fun K1 hK1=>?_
 refine qA [3,7] ?_
 refine Ci H ?_ ?_<;>intro H
 .refine qA [2] ?_
  cases oj H;exact W4
 refine Js hK1 ?_
 refine Wsq [3] fun K2 hK2=>?_
 refine qA [3,11] ?_
 refine Ci H ?_ ?_<;>intro H
 .refine qA [2] ?_
  cases oj H;exact W4
 refine Js hK2 ?_
 refine qA [2] ?_
 cases oj H;exact W4

theorem c125 {p0:gL6Rd}{r:Int×gL6Rd}(H:oM p0=some r){J:AHeap}{w0:Nat}{W0:List (List AV)}{r0_:Nat}(q0:J.objs w0=some ⟨105,2,W0⟩)(g0:W0[r0_]? =some [.fsl (eL rU8 p0.b),.int .i64 p0.p]):ACalls Tryz.prog G 125 [.ptr w0 r0_ 0] J (fun v J'=>∃M:Nat,J.next<=M/\v=.int .i64 r.1/\J'=hp J.objs [(w0,some ⟨105,2,W0.set r0_ [.fsl (eL rU8 r.2.b),.int .i64 r.2.p]⟩)] M):=by
 refine fr1 ([(w0,some ⟨105,2,W0⟩)]) (by simp[q0]) (fun hlt=>?_) ⟨_,func125,rfl,rfl⟩
 generalize J.next=N0 at hlt ⊢
 have lw0:w0<N0:=hlt _ (.head _) rfl
 have gs_W0:∀x,(W0.set r0_ x)[r0_]? =some x:=gsetW g0
 rw[<- kC g0]
 refine fnK tok func125 ntmps125 results125 ?_
 simp only[argsA,Nat.reduceAdd,hpN]
 unfold oM at H
 refine qB [0] gs_W0 ?_
 refine Wsq [0] fun K1 hK1=>?_
 obtain⟨r1,hr1,H⟩:=bE H
 refine Sm tok [] [0,4] (N0+3) (by
  intro K k
  refine m1 gs_W0 ?_
  refine mc gs_W0 (c41 (r0_:=r0_) (H:=hr1)) fun M1 fM1_0=>?_
  refine m1 (j gs_W0 (j @hoS @hoN)) ?_
  exact k M1 (by omega)) fun M1 fM1_0=>?_
 refine Wb ?_
 refine qB [0,4,5] gs_W0 ?_
 refine Ci H ?_ ?_<;>intro H
 .obtain⟨r2,hr2,H⟩:=bE H
  obtain⟨v3,hv3,H⟩:=bE H
  have q0:∀J i,bsA T 23 true i 8 [(0,.int .i64 (-2147483648)),(1,.int .i64 2147483647),(2,.int .i64 (-1)),(3,.int .i64 0),(4,.int .i64 1),(5,.int .i64 (-2147483647)),(6,.int .i64 65536),(7,.int .i64 (-65536))] J=some (.fsl (eL rI ([-2147483648,2147483647,-1,0,1,-2147483647,65536,-65536]:List Int)),J):=fun _ _=>rfl
  refine Sm tok [0] [2] (M1+8) (by
   intro K k
   refine m1 (j gs_W0 (j q0 (ix23 hv3))) ?_
   refine mc (j gs_W0 (j q0 (ix23 hv3))) (c41 (r0_:=r0_) (H:=hr2)) fun M2 fM2_0=>?_
   refine m1 (j gs_W0 (j q0 (j (ix23 hv3) (j @hoS @hoN)))) ?_
   exact k M2 (by omega)) fun M2 fM2_0=>?_
  obtain rfl:=oi H
  refine Kp [2] ?_
  exact V1 gs_W0 M2
 refine qB [0,4,12] gs_W0 ?_
 refine Ci H ?_ ?_<;>intro H
 .obtain⟨r4,hr4,H⟩:=bE H
  obtain⟨r5,hr5,H⟩:=bE H
  obtain⟨r6,hr6,H⟩:=bE H
  obtain⟨r7,hr7,H⟩:=bE H
  obtain⟨r8,hr8,H⟩:=bE H
  refine Sm tok [] [2] (M1+20) (by
   intro K k
   refine m1 gs_W0 ?_
   refine mc gs_W0 (c41 (r0_:=r0_) (H:=hr4)) fun M3 fM3_0=>?_
   refine m1 (j gs_W0 (j @hoS @hoN)) ?_
   refine mc (j gs_W0 (j @hoS @hoN)) (c41 (r0_:=r0_) (H:=hr5)) fun M4 fM4_0=>?_
   refine m1 (j gs_W0 (j @hoS @hoN)) ?_
   refine mc (j gs_W0 (j @hoS @hoN)) (c41 (r0_:=r0_) (H:=hr6)) fun M5 fM5_0=>?_
   refine m1 (j gs_W0 (j @hoS @hoN)) ?_
   refine mc (j gs_W0 (j @hoS @hoN)) (c41 (r0_:=r0_) (H:=hr7)) fun M6 fM6_0=>?_
   refine m1 (j gs_W0 (j @hoS @hoN)) ?_
   refine(c139 hr8).app (m1 (j gs_W0 (j @hoS @hoN)) ?_)
   exact k M6 (by omega)) fun M6 fM6_0=>?_
  obtain rfl:=oi H
  refine Kp [2] ?_
  exact V1 gs_W0 M6
 refine qB [0,29] gs_W0 ?_
 refine Ci H ?_ ?_<;>intro H
 .obtain⟨r9,hr9,H⟩:=bE H
  refine Sm tok [] [2] (M1+10) (by
   intro K k
   refine m1 gs_W0 ?_
   refine mc gs_W0 (c41 (r0_:=r0_) (H:=hr9)) fun M7 fM7_0=>?_
   refine m1 (j gs_W0 (j @hoS @hoN)) ?_
   exact k M7 (by omega)) fun M7 fM7_0=>?_
  obtain rfl:=oi H
  refine Kp [2] ?_
  exact V1 gs_W0 M7
 refine Js hK1 ?_
 obtain⟨r10,hr10,H⟩:=bE H
 refine Sm tok [] [2] (M1+9) (by
  intro K k
  refine m1 gs_W0 ?_
  refine mc gs_W0 (c41 (r0_:=r0_) (H:=hr10)) fun M8 fM8_0=>?_
  refine m1 (j gs_W0 (j @hoS @hoN)) ?_
  exact k M8 (by omega)) fun M8 fM8_0=>?_
 obtain rfl:=oi H
 refine Kp [2] ?_
 exact V1 gs_W0 M8

theorem c126 {p0:gL6Rd}{r:Int×gL6Rd}(H:dK p0=some r){J:AHeap}{w0:Nat}{W0:List (List AV)}{r0_:Nat}(q0:J.objs w0=some ⟨105,2,W0⟩)(g0:W0[r0_]? =some [.fsl (eL rU8 p0.b),.int .i64 p0.p]):ACalls Tryz.prog G 126 [.ptr w0 r0_ 0] J (fun v J'=>∃M:Nat,J.next<=M/\v=.int .i64 r.1/\J'=hp J.objs [(w0,some ⟨105,2,W0.set r0_ [.fsl (eL rU8 r.2.b),.int .i64 r.2.p]⟩)] M):=by
 refine fr1 ([(w0,some ⟨105,2,W0⟩)]) (by simp[q0]) (fun hlt=>?_) ⟨_,func126,rfl,rfl⟩
 generalize J.next=N0 at hlt ⊢
 have lw0:w0<N0:=hlt _ (.head _) rfl
 have gs_W0:∀x,(W0.set r0_ x)[r0_]? =some x:=gsetW g0
 rw[<- kC g0]
 refine fnK tok func126 ntmps126 results126 ?_
 simp only[argsA,Nat.reduceAdd,hpN]
 unfold dK at H
 refine qB [0] gs_W0 ?_
 obtain⟨r1,hr1,H⟩:=bE H
 refine Sm tok [] [2] (N0+5) (by
  intro K k
  refine m1 gs_W0 ?_
  refine mc gs_W0 (c41 (r0_:=r0_) (H:=hr1)) fun M1 fM1_0=>?_
  refine m1 (j gs_W0 (j @hoS @hoN)) ?_
  exact k M1 (by omega)) fun M1 fM1_0=>?_
 obtain rfl:=oi H
 refine Kp [2] ?_
 exact V1 gs_W0 M1

theorem c113 {p0:gL6Rd}{p1:Int}{r:gQuad×gL6Rd}(H:oG p0 p1=some r){J:AHeap}{w0:Nat}{W0:List (List AV)}{r0_:Nat}(q0:J.objs w0=some ⟨105,2,W0⟩)(g0:W0[r0_]? =some [.fsl (eL rU8 p0.b),.int .i64 p0.p]):ACalls Tryz.prog G 113 [.ptr w0 r0_ 0,.int .i64 p1] J (fun v J'=>∃M:Nat,J.next<=M/\v=.agg [.int .i64 r.1.Op,.int .i64 r.1.Dst,.int .i64 r.1.A,.int .i64 r.1.B,.int .i64 r.1.N]/\J'=hp J.objs [(w0,some ⟨105,2,W0.set r0_ [.fsl (eL rU8 r.2.b),.int .i64 r.2.p]⟩)] M):=by
 refine fr1 ([(w0,some ⟨105,2,W0⟩)]) (by simp[q0]) (fun hlt=>?_) ⟨_,func113,rfl,rfl⟩
 generalize J.next=N0 at hlt ⊢
 have lw0:w0<N0:=hlt _ (.head _) rfl
 have gs_W0:∀x,(W0.set r0_ x)[r0_]? =some x:=gsetW g0
 rw[<- kC g0]
 refine yW 4 ?_
 refine fnK tok func113 ntmps113 results113 ?_
 simp only[argsA,Nat.reduceAdd,hpN]
 unfold oG at H
 have e0:=nQ w0 N0
 refine qC [0,1,4] e0 gs_W0 ?_
 refine Wsq [0,4] fun K1 hK1=>?_
 obtain⟨r1,hr1,H⟩:=bE H
 refine Sm tok [] [0,1,4,13] (N0+3) (by
  intro K k
  have e0:=nQ w0 N0
  refine m2 e0 gs_W0 ?_
  refine mc (j e0 gs_W0) (c41 (r0_:=r0_) (H:=hr1)) fun M1 fM1_0=>?_
  refine m1 (j e0 (j gs_W0 (j @hoS @hoN))) ?_
  exact k M1 (by omega)) fun M1 fM1_0=>?_
 refine Wb ?_
 obtain⟨j1,hj1,H⟩:=bE H
 refine kP (kN fun K5 hK5=>?_)
 have hJ1:∀a J,Rc G 90 N0 (fun a J=>∃M2:Nat,N0<=M2/\N0<M2/\a=[(0,.ptr w0 r0_ 0),(1,.int .i64 p1),(4,.ptr N0 0 0),(13,.int .i64 r1.1),(14,.bool j1)]/\J=hp E0 [(w0,some ⟨105,2,W0.set r0_ [.fsl (eL rU8 r1.2.b),.int .i64 r1.2.p]⟩),(N0,some ⟨36,5,[[.int .i64 0,.int .i64 0,.int .i64 0,.int .i64 0,.int .i64 0]]⟩)] M2) (a.keep [0,1,4,13,14]) J->K5 a J:=by
  rintro a J ⟨b,U,hr,M2,fM2_0,fM2_1,rfl,rfl⟩
  refine hK5 _ _ (kG [0,1,4,13,14] (Wre hr ?_))
  refine Ci H ?_ ?_<;>intro H
  .obtain⟨r3,hr3,H⟩:=bE H
   obtain⟨r4,hr4,H⟩:=bE H
   obtain⟨r5,hr5,H⟩:=bE H
   obtain⟨v6,hv6,H⟩:=bE H
   have q0:∀J i,bsA T 23 true i 4 [(0,.int .i64 0),(1,.int .i64 1),(2,.int .i64 2),(3,.int .i64 r4.1)] J=some (.fsl (eL rI ([0,1,2,r4.1]:List Int)),J):=fun _ _=>rfl
   refine Sm tok [4] [4] (M2+11) (by
    intro K k
    have e0:=nQ w0 N0
    refine m1 (j e0 (j gs_W0 (j q0 (ix23 hv6)))) ?_
    refine mc (j e0 (j gs_W0 (j q0 (ix23 hv6)))) (c124 (r0_:=r0_) (H:=hr3)) fun M3 fM3_0=>?_
    refine m1 (j e0 (j gs_W0 (j q0 (j (ix23 hv6) (j @hoS @hoN))))) ?_
    refine mc (j e0 (j gs_W0 (j q0 (j (ix23 hv6) (j @hoS @hoN))))) (c125 (r0_:=r0_) (H:=hr4)) fun M4 fM4_0=>?_
    refine m1 (j e0 (j gs_W0 (j q0 (j (ix23 hv6) (j @hoS @hoN))))) ?_
    refine mc (j e0 (j gs_W0 (j q0 (j (ix23 hv6) (j @hoS @hoN))))) (c41 (r0_:=r0_) (H:=hr5)) fun M5 fM5_0=>?_
    refine m1 (j e0 (j gs_W0 (j q0 (j (ix23 hv6) (j @hoS @hoN))))) ?_
    exact k M5 (by omega)) fun M5 fM5_0=>?_
   obtain rfl:=oi H
   refine Kp [4] ?_
   have z0:=nQ w0 N0
   refine Wr ?_
   refine⟨[.agg [.int .i64 1,.int .i64 r3.1,.int .i64 0,.int .i64 0,.int .i64 v6]],by simp[z0,gs_W0],(fun o=>[N0].contains o),M5,by omega,?_,?_⟩
   .simp[eN,z0,gs_W0]
   rw[cutD (L':=[(w0,some ⟨105,2,W0.set r0_ [.fsl (eL rU8 r5.2.b),.int .i64 r5.2.p]⟩)]) (by simp[z0,gs_W0])]
   first|done|rfl|simp
  obtain⟨j2,hj2,H⟩:=bE H
  refine kP (kN fun K4 hK4=>?_)
  have hJ2:∀a J,Rc G 90 N0 (fun a J=>∃M6:Nat,N0<=M6/\N0<M6/\a=[(0,.ptr w0 r0_ 0),(1,.int .i64 p1),(4,.ptr N0 0 0),(13,.int .i64 r1.1),(27,.bool j2)]/\J=hp E0 [(w0,some ⟨105,2,W0.set r0_ [.fsl (eL rU8 r1.2.b),.int .i64 r1.2.p]⟩),(N0,some ⟨36,5,[[.int .i64 0,.int .i64 0,.int .i64 0,.int .i64 0,.int .i64 0]]⟩)] M6) (a.keep [0,1,4,13,27]) J->K4 a J:=by
   rintro a J ⟨b,U,hr,M6,fM6_0,fM6_1,rfl,rfl⟩
   refine hK4 _ _ (kG [0,1,4,13,27] (Wre hr ?_))
   refine Ci H ?_ ?_<;>intro H
   .obtain⟨r8,hr8,H⟩:=bE H
    refine Sm tok [] [0,4,5] (M6+3) (by
     intro K k
     have e0:=nQ w0 N0
     refine m2 e0 gs_W0 ?_
     refine mc (j e0 gs_W0) (c124 (r0_:=r0_) (H:=hr8)) fun M7 fM7_0=>?_
     refine m1 (j e0 (j gs_W0 (j @hoS @hoN))) ?_
     exact k M7 (by omega)) fun M7 fM7_0=>?_
    obtain⟨r9,hr9,H⟩:=bE H
    refine Sm tok [] [4] (M7+5) (by
     intro K k
     have e0:=nQ w0 N0
     refine m2 e0 gs_W0 ?_
     refine mc (j e0 gs_W0) (c124 (r0_:=r0_) (H:=hr9)) fun M8 fM8_0=>?_
     refine m1 (j e0 (j gs_W0 (j @hoS @hoN))) ?_
     exact k M8 (by omega)) fun M8 fM8_0=>?_
    obtain rfl:=oi H
    refine Kp [4] ?_
    have z1:=nQ w0 N0
    refine Wr ?_
    refine⟨[.agg [.int .i64 2,.int .i64 r8.1,.int .i64 r9.1,.int .i64 0,.int .i64 0]],by simp[z1,gs_W0],(fun o=>[N0].contains o),M8,by omega,?_,?_⟩
    .simp[eN,z1,gs_W0]
    rw[cutD (L':=[(w0,some ⟨105,2,W0.set r0_ [.fsl (eL rU8 r9.2.b),.int .i64 r9.2.p]⟩)]) (by simp[z1,gs_W0])]
    first|done|rfl|simp
   obtain⟨j3,hj3,H⟩:=bE H
   refine kP (kN fun K3 hK3=>?_)
   have hJ3:∀a J,Rc G 90 N0 (fun a J=>∃M9:Nat,N0<=M9/\N0<M9/\a=[(0,.ptr w0 r0_ 0),(1,.int .i64 p1),(4,.ptr N0 0 0),(13,.int .i64 r1.1),(36,.bool j3)]/\J=hp E0 [(w0,some ⟨105,2,W0.set r0_ [.fsl (eL rU8 r1.2.b),.int .i64 r1.2.p]⟩),(N0,some ⟨36,5,[[.int .i64 0,.int .i64 0,.int .i64 0,.int .i64 0,.int .i64 0]]⟩)] M9) (a.keep [0,1,4,13,36]) J->K3 a J:=by
    rintro a J ⟨b,U,hr,M9,fM9_0,fM9_1,rfl,rfl⟩
    refine hK3 _ _ (kG [0,1,4,13,36] (Wre hr ?_))
    refine Ci H ?_ ?_<;>intro H
    .obtain⟨r11,hr11,H⟩:=bE H
     refine Sm tok [] [0,4,6] (M9+3) (by
      intro K k
      have e0:=nQ w0 N0
      refine m2 e0 gs_W0 ?_
      refine mc (j e0 gs_W0) (c124 (r0_:=r0_) (H:=hr11)) fun M10 fM10_0=>?_
      refine m1 (j e0 (j gs_W0 (j @hoS @hoN))) ?_
      exact k M10 (by omega)) fun M10 fM10_0=>?_
     obtain⟨r12,hr12,H⟩:=bE H
     refine Sm tok [] [0,4,6,7] (M10+3) (by
      intro K k
      have e0:=nQ w0 N0
      refine m2 e0 gs_W0 ?_
      refine mc (j e0 gs_W0) (c124 (r0_:=r0_) (H:=hr12)) fun M11 fM11_0=>?_
      refine m1 (j e0 (j gs_W0 (j @hoS @hoN))) ?_
      exact k M11 (by omega)) fun M11 fM11_0=>?_
     obtain⟨r13,hr13,H⟩:=bE H
     refine Sm tok [] [0,4,6,7,8] (M11+3) (by
      intro K k
      have e0:=nQ w0 N0
      refine m2 e0 gs_W0 ?_
      refine mc (j e0 gs_W0) (c124 (r0_:=r0_) (H:=hr13)) fun M12 fM12_0=>?_
      refine m1 (j e0 (j gs_W0 (j @hoS @hoN))) ?_
      exact k M12 (by omega)) fun M12 fM12_0=>?_
     obtain⟨r14,hr14,H⟩:=bE H
     refine Sm tok [] [4] (M12+7) (by
      intro K k
      have e0:=nQ w0 N0
      refine m2 e0 gs_W0 ?_
      refine mc (j e0 gs_W0) (c126 (r0_:=r0_) (H:=hr14)) fun M13 fM13_0=>?_
      refine m1 (j e0 (j gs_W0 (j @hoS @hoN))) ?_
      exact k M13 (by omega)) fun M13 fM13_0=>?_
     obtain rfl:=oi H
     refine Kp [4] ?_
     have z2:=nQ w0 N0
     refine Wr ?_
     refine⟨[.agg [.int .i64 3,.int .i64 r11.1,.int .i64 r12.1,.int .i64 r13.1,.int .i64 r14.1]],by simp[z2,gs_W0],(fun o=>[N0].contains o),M13,by omega,?_,?_⟩
     .simp[eN,z2,gs_W0]
     rw[cutD (L':=[(w0,some ⟨105,2,W0.set r0_ [.fsl (eL rU8 r14.2.b),.int .i64 r14.2.p]⟩)]) (by simp[z2,gs_W0])]
     first|done|rfl|simp
    have e0:=nQ w0 N0
    refine qC [0,1,4,13,52] e0 gs_W0 ?_
    refine Ci H ?_ ?_<;>intro H
    .obtain⟨r15,hr15,H⟩:=bE H
     refine Sm tok [] [4] (M9+7) (by
      intro K k
      have e0:=nQ w0 N0
      refine m2 e0 gs_W0 ?_
      refine mc (j e0 gs_W0) (c41 (r0_:=r0_) (H:=hr15)) fun M14 fM14_0=>?_
      refine m1 (j e0 (j gs_W0 (j @hoS @hoN))) ?_
      exact k M14 (by omega)) fun M14 fM14_0=>?_
     obtain rfl:=oi H
     refine Kp [4] ?_
     have z3:=nQ w0 N0
     refine Wr ?_
     refine⟨[.agg [.int .i64 4,.int .i64 0,.int .i64 0,.int .i64 0,.int .i64 r15.1]],by simp[z3,gs_W0],(fun o=>[N0].contains o),M14,by omega,?_,?_⟩
     .simp[eN,z3,gs_W0]
     rw[cutD (L':=[(w0,some ⟨105,2,W0.set r0_ [.fsl (eL rU8 r15.2.b),.int .i64 r15.2.p]⟩)]) (by simp[z3,gs_W0])]
     first|done|rfl|simp
    have e0:=nQ w0 N0
    refine qC [0,1,4,13,58] e0 gs_W0 ?_
    refine Ci H ?_ ?_<;>intro H
    .obtain⟨r16,hr16,H⟩:=bE H
     refine Sm tok [] [0,1,4,9] (M9+7) (by
      intro K k
      have e0:=nQ w0 N0
      refine m2 e0 gs_W0 ?_
      refine mc (j e0 gs_W0) (c124 (r0_:=r0_) (H:=hr16)) fun M15 fM15_0=>?_
      refine m1 (j e0 (j gs_W0 (j @hoS @hoN))) ?_
      exact k M15 (by omega)) fun M15 fM15_0=>?_
     obtain⟨r17,hr17,H⟩:=bE H
     refine Sm tok [] [4] (M15+6) (by
      intro K k
      have e0:=nQ w0 N0
      refine m2 e0 gs_W0 ?_
      refine mc (j e0 gs_W0) (c41 (r0_:=r0_) (H:=hr17)) fun M16 fM16_0=>?_
      refine m1 (j e0 (j gs_W0 (j @hoS @hoN))) ?_
      exact k M16 (by omega)) fun M16 fM16_0=>?_
     obtain rfl:=oi H
     refine Kp [4] ?_
     have z4:=nQ w0 N0
     refine Wr ?_
     refine⟨[.agg [.int .i64 5,.int .i64 0,.int .i64 r16.1,.int .i64 0,.int .i64 r17.1]],by simp[z4,gs_W0],(fun o=>[N0].contains o),M16,by omega,?_,?_⟩
     .simp[eN,z4,gs_W0]
     rw[cutD (L':=[(w0,some ⟨105,2,W0.set r0_ [.fsl (eL rU8 r17.2.b),.int .i64 r17.2.p]⟩)]) (by simp[z4,gs_W0])]
     first|done|rfl|simp
    have e0:=nQ w0 N0
    refine qC [0,4,13,67] e0 gs_W0 ?_
    refine Ci H ?_ ?_<;>intro H
    .obtain⟨r18,hr18,H⟩:=bE H
     refine Sm tok [] [0,4,10] (M9+9) (by
      intro K k
      have e0:=nQ w0 N0
      refine m2 e0 gs_W0 ?_
      refine mc (j e0 gs_W0) (c124 (r0_:=r0_) (H:=hr18)) fun M17 fM17_0=>?_
      refine m1 (j e0 (j gs_W0 (j @hoS @hoN))) ?_
      exact k M17 (by omega)) fun M17 fM17_0=>?_
     obtain⟨r19,hr19,H⟩:=bE H
     refine Sm tok [] [4] (M17+5) (by
      intro K k
      have e0:=nQ w0 N0
      refine m2 e0 gs_W0 ?_
      refine mc (j e0 gs_W0) (c41 (r0_:=r0_) (H:=hr19)) fun M18 fM18_0=>?_
      refine m1 (j e0 (j gs_W0 (j @hoS @hoN))) ?_
      exact k M18 (by omega)) fun M18 fM18_0=>?_
     obtain rfl:=oi H
     refine Kp [4] ?_
     have z5:=nQ w0 N0
     refine Wr ?_
     refine⟨[.agg [.int .i64 6,.int .i64 0,.int .i64 r18.1,.int .i64 0,.int .i64 r19.1]],by simp[z5,gs_W0],(fun o=>[N0].contains o),M18,by omega,?_,?_⟩
     .simp[eN,z5,gs_W0]
     rw[cutD (L':=[(w0,some ⟨105,2,W0.set r0_ [.fsl (eL rU8 r19.2.b),.int .i64 r19.2.p]⟩)]) (by simp[z5,gs_W0])]
     first|done|rfl|simp
    have e0:=nQ w0 N0
    refine qC [0,4,75] e0 gs_W0 ?_
    refine Ci H ?_ ?_<;>intro H
    .obtain⟨r20,hr20,H⟩:=bE H
     refine Sm tok [] [0,4,11] (M9+11) (by
      intro K k
      have e0:=nQ w0 N0
      refine m2 e0 gs_W0 ?_
      refine mc (j e0 gs_W0) (c124 (r0_:=r0_) (H:=hr20)) fun M19 fM19_0=>?_
      refine m1 (j e0 (j gs_W0 (j @hoS @hoN))) ?_
      exact k M19 (by omega)) fun M19 fM19_0=>?_
     obtain⟨r21,hr21,H⟩:=bE H
     refine Sm tok [] [4] (M19+5) (by
      intro K k
      have e0:=nQ w0 N0
      refine m2 e0 gs_W0 ?_
      refine mc (j e0 gs_W0) (c41 (r0_:=r0_) (H:=hr21)) fun M20 fM20_0=>?_
      refine m1 (j e0 (j gs_W0 (j @hoS @hoN))) ?_
      exact k M20 (by omega)) fun M20 fM20_0=>?_
     obtain rfl:=oi H
     refine Kp [4] ?_
     have z6:=nQ w0 N0
     refine Wr ?_
     refine⟨[.agg [.int .i64 7,.int .i64 r20.1,.int .i64 0,.int .i64 0,.int .i64 r21.1]],by simp[z6,gs_W0],(fun o=>[N0].contains o),M20,by omega,?_,?_⟩
     .simp[eN,z6,gs_W0]
     rw[cutD (L':=[(w0,some ⟨105,2,W0.set r0_ [.fsl (eL rU8 r21.2.b),.int .i64 r21.2.p]⟩)]) (by simp[z6,gs_W0])]
     first|done|rfl|simp
    refine Js hK1 ?_
    refine Wsq [0,4] fun K2 hK2=>?_
    obtain⟨r22,hr22,H⟩:=bE H
    refine Sm tok [] [0,4,85] (M9+11) (by
     intro K k
     have e0:=nQ w0 N0
     refine m2 e0 gs_W0 ?_
     refine mc (j e0 gs_W0) (c41 (r0_:=r0_) (H:=hr22)) fun M21 fM21_0=>?_
     refine m1 (j e0 (j gs_W0 (j @hoS @hoN))) ?_
     exact k M21 (by omega)) fun M21 fM21_0=>?_
    refine Ci H ?_ ?_<;>intro H
    .have e0:=nQ w0 N0
     refine qC [4] e0 gs_W0 ?_
     obtain rfl:=oi H
     refine Kp [4] ?_
     have z7:=nQ w0 N0
     refine Wr ?_
     refine⟨[.agg [.int .i64 8,.int .i64 0,.int .i64 0,.int .i64 0,.int .i64 0]],by simp[z7,gs_W0],(fun o=>[N0].contains o),M21+2,by omega,?_,?_⟩
     .simp[eN,z7,gs_W0]
     rw[cutD (L':=[(w0,some ⟨105,2,W0.set r0_ [.fsl (eL rU8 r22.2.b),.int .i64 r22.2.p]⟩)]) (by simp[z7,gs_W0])]
     first|done|rfl|simp
    refine Js hK2 ?_
    obtain⟨r23,hr23,H⟩:=bE H
    refine Sm tok [] [4] (M21+4) (by
     intro K k
     have e0:=nQ w0 N0
     refine m2 e0 gs_W0 ?_
     refine mc (j e0 gs_W0) (c124 (r0_:=r0_) (H:=hr23)) fun M22 fM22_0=>?_
     refine m1 (j e0 (j gs_W0 (j @hoS @hoN))) ?_
     exact k M22 (by omega)) fun M22 fM22_0=>?_
    obtain rfl:=oi H
    refine Kp [4] ?_
    have z8:=nQ w0 N0
    refine Wr ?_
    refine⟨[.agg [.int .i64 9,.int .i64 0,.int .i64 r23.1,.int .i64 0,.int .i64 0]],by simp[z8,gs_W0],(fun o=>[N0].contains o),M22,by omega,?_,?_⟩
    .simp[eN,z8,gs_W0]
    rw[cutD (L':=[(w0,some ⟨105,2,W0.set r0_ [.fsl (eL rU8 r23.2.b),.int .i64 r23.2.p]⟩)]) (by simp[z8,gs_W0])]
    first|done|rfl|simp
   replace H:=hj3
   have e0:=nQ w0 N0
   refine qC [0,1,4,13,36] e0 gs_W0 ?_
   refine Ci H ?_ ?_<;>intro H
   .refine Wsk ?_
    show K3 _ _
    refine kE [0,1,4,13,36] fun a' ha=>?_
    cases oj H
    refine hJ3 _ _ ?_;rw[ha]
    exact R1 (M6+2)
   have e0:=nQ w0 N0
   refine qC [0,1,4,13,36] e0 gs_W0 ?_
   refine Ci H ?_ ?_<;>intro H
   .refine Wsk ?_
    show K3 _ _
    refine kE [0,1,4,13,36] fun a' ha=>?_
    cases oj H
    refine hJ3 _ _ ?_;rw[ha]
    exact R1 (M6+4)
   have e0:=nQ w0 N0
   refine Rt tok [] [0,1,4,13,36] (by intro K k;simp -dsimp -implicitDefEqProofs [e0,gs_W0];exact k) fun a ha=>?_
   cases oj H
   refine hJ3 _ _ ?_;rw[ha]
   exact R1 (M6+6)
  replace H:=hj2
  have e0:=nQ w0 N0
  refine qC [0,1,4,13,27] e0 gs_W0 ?_
  refine Ci H ?_ ?_<;>intro H
  .refine Wsk ?_
   show K4 _ _
   refine kE [0,1,4,13,27] fun a' ha=>?_
   cases oj H
   refine hJ2 _ _ ?_;rw[ha]
   exact R1 (M2+2)
  have e0:=nQ w0 N0
  refine Rt tok [] [0,1,4,13,27] (by intro K k;simp -dsimp -implicitDefEqProofs [e0,gs_W0];exact k) fun a ha=>?_
  cases oj H
  refine hJ2 _ _ ?_;rw[ha]
  exact R1 (M2+4)
 replace H:=hj1
 have e0:=nQ w0 N0
 refine qC [0,1,4,13,14] e0 gs_W0 ?_
 refine Ci H ?_ ?_<;>intro H
 .refine Wsk ?_
  show K5 _ _
  refine kE [0,1,4,13,14] fun a' ha=>?_
  cases oj H
  refine hJ1 _ _ ?_;rw[ha]
  exact R1 (M1+2)
 have e0:=nQ w0 N0
 refine Rt tok [] [0,1,4,13,14] (by intro K k;simp -dsimp -implicitDefEqProofs [e0,gs_W0];exact k) fun a ha=>?_
 cases oj H
 refine hJ1 _ _ ?_;rw[ha]
 exact R1 (M1+4)

theorem c98 {p0:gL6Rd}{r:(List gQuad)×gL6Rd}(H:wX p0=some r){J:AHeap}{w0:Nat}{W0:List (List AV)}{r0_:Nat}(q0:J.objs w0=some ⟨105,2,W0⟩)(g0:W0[r0_]? =some [.fsl (eL rU8 p0.b),.int .i64 p0.p]):ACalls Tryz.prog G 98 [.ptr w0 r0_ 0] J (fun v J'=>∃M:Nat,J.next<=M/\v=.fsl (eL rQuad r.1)/\J'=hp J.objs [(w0,some ⟨105,2,W0.set r0_ [.fsl (eL rU8 r.2.b),.int .i64 r.2.p]⟩)] M):=by
 refine fr1 ([(w0,some ⟨105,2,W0⟩)]) (by simp[q0]) (fun hlt=>?_) ⟨_,func98,rfl,rfl⟩
 generalize J.next=N0 at hlt ⊢
 have lw0:w0<N0:=hlt _ (.head _) rfl
 have gs_W0:∀x,(W0.set r0_ x)[r0_]? =some x:=gsetW g0
 rw[<- kC g0]
 refine fnK tok func98 ntmps98 results98 ?_
 simp only[argsA,Nat.reduceAdd,hpN]
 unfold wX at H
 refine qB [0] gs_W0 ?_
 obtain⟨r1,hr1,H⟩:=bE H
 refine Sm tok [] [0,3] (N0+5) (by
  intro K k
  refine m1 gs_W0 ?_
  refine mc gs_W0 (c41 (r0_:=r0_) (H:=hr1)) fun M1 fM1_0=>?_
  refine m1 (j gs_W0 (j @hoS @hoN)) ?_
  exact k M1 (by omega)) fun M1 fM1_0=>?_
 have q0:∀J i,bsA T 34 true i 0 [] J=some (.esl,J):=fun _ _=>rfl
 refine Sz tok [0] [0,3,4] gs_W0 q0 ?_
 refine Wsq [0,3,4] fun K1 hK1=>?_
 refine qB [0,3,4,5] gs_W0 ?_
 refine Wb ?_
 obtain⟨e1,hse1,H⟩:=bE H
 refine zR [0,3,4,5] (fun s a J=>∃M2 o1:Nat,N0<=M2/\N0<=o1/\o1<M2/\a=[(0,.ptr w0 r0_ 0),(3,.int .i64 (iadd .i64 1 r1.1)),(4,.sl o1 0 s.2.2.length),(5,.int .i64 s.1)]/\J=hp E0 [(w0,some ⟨105,2,W0.set r0_ [.fsl (eL rU8 s.2.1.b),.int .i64 s.2.1.p]⟩),(o1,some ⟨36,5,eL rQuad s.2.2⟩)] M2) (fun s x a J=>x=.exit 0/\Rc G 36 N0 (fun a J=>∃M3 o2:Nat,N0<=M3/\N0<=o2/\o2<M3/\a=[(0,.ptr w0 r0_ 0),(3,.int .i64 (iadd .i64 1 r1.1)),(4,.sl o2 0 s.2.length)]/\J=hp E0 [(w0,some ⟨105,2,W0.set r0_ [.fsl (eL rU8 s.1.b),.int .i64 s.1.p]⟩),(o2,some ⟨36,5,eL rQuad s.2⟩)] M3) (AAct.keep a [0,3,4]) J) hse1 ?_ ?_ ?_
 .refine kp [0,3,4,5] ?_
  refine gNilS zH 4 36 5 [(w0,some ⟨105,2,W0.set r0_ [.fsl (eL rU8 r1.2.b),.int .i64 r1.2.p]⟩),(M1+3,some ⟨36,5,eL rQuad ([]:List gQuad)⟩)] [(0,.ptr w0 r0_ 0),(3,.int .i64 (iadd .i64 1 r1.1)),(4,.sl (M1+3) 0 ([]:List gQuad).length),(5,.int .i64 0)] (by simp(disch:=omega)) (by simp(disch:=omega) [eN]) [0,3,4,5] rfl ?_
  exact R2 (M1+4) (M1+3)
 .clear H hse1
  rintro⟨s2,s3,s4⟩ fl a J H ⟨M2,o1,fM2_0,fM2_1,fM2_2,rfl,rfl⟩ K2 O2 hK2 hO2
  unfold sQ at H;dsimp only at H
  refine Wsq [0,3,4,5] fun K3 hK3=>?_
  have e0:=nQ w0 o1
  refine qC [0,3,4,5,13] e0 gs_W0 ?_
  refine Ci H ?_ ?_<;>intro H
  .refine Js hK3 ?_
   refine Wsq [0,3,4,5] fun K4 hK4=>?_
   refine Wb ?_
   obtain⟨r7,hr7,H⟩:=bE H
   obtain⟨l8,hl8,H⟩:=bE H
   have q1:∀J i,bsA T 34 true i 1 [(0,.agg [.int .i64 r7.1.Op,.int .i64 r7.1.Dst,.int .i64 r7.1.A,.int .i64 r7.1.B,.int .i64 r7.1.N])] J=some (.fsl (eL rQuad ([r7.1]:List gQuad)),J):=fun _ _=>rfl
   refine hG tok [4] [0,3,4,5] (fun a J=>∃M4:Nat,M2+11<=M4/\a=[(0,.ptr w0 r0_ 0),(3,.int .i64 (iadd .i64 1 r1.1)),(4,.sl (M2+9) 0 l8.length),(5,.int .i64 s2)]/\J=hp E0 [(w0,some ⟨105,2,W0.set r0_ [.fsl (eL rU8 r7.2.b),.int .i64 r7.2.p]⟩),(M2+9,some ⟨36,5,eL rQuad l8⟩)] M4) (fun K hK=>?_) ?_
   .skip
    have e0:=nQ w0 o1
    have e1:=nQ w0 (M2+9)
    have e2:=nQ o1 (M2+9)
    refine m1 (j e0 (j e1 (j e2 (j gs_W0 (j q1 (app34 hl8)))))) ?_
    refine mc (j e0 (j e1 (j e2 (j gs_W0 (j q1 (app34 hl8)))))) (c113 (r0_:=r0_) (H:=hr7)) fun M4 fM4_0=>?_
    refine m1 (j e0 (j e1 (j e2 (j gs_W0 (j q1 (j (app34 hl8) (j @hoS @hoN))))))) ?_
    exact hK _ _ ⟨M4,(by omega),rfl,rfl⟩
   rintro a J ⟨M4,fM4_0,ha,rfl⟩
   refine hK4 _ _ ?_;rw[ha]
   refine Rc.mk ?_
   have e0:=nQ w0 (M2+9)
   obtain rfl:=oi H
   refine qJ (j e0 gs_W0) hK2 ?_
   exact R2 (M4+3) (M2+9)
  obtain rfl:=oi H
  refine zK (hO2 _ _ _ _ rfl ⟨rfl,?_⟩)
  refine kr ?_
  exact R2 (M2+4) o1
 intro x a J hx
 obtain⟨y5,y6⟩:=e1
 obtain⟨rfl,b,U,hr,M3,o2,fM3_0,fM3_1,fM3_2,rfl,rfl⟩:=hx
 (try dsimp only at H)
 show K1 _ _
 refine hK1 _ _ (zH hr ?_)
 refine Rc.mk ?_
 refine Wsq [4] fun K5 hK5=>?_
 obtain⟨r9,hr9,H⟩:=bE H
 refine Sm tok [] [0,3,4,24] (M3+3) (by
  intro K k
  have e0:=nQ w0 o2
  refine m2 e0 gs_W0 ?_
  refine mc (j e0 gs_W0) (c41 (r0_:=r0_) (H:=hr9)) fun M5 fM5_0=>?_
  refine m1 (j e0 (j gs_W0 (j @hoS @hoN))) ?_
  exact k M5 (by omega)) fun M5 fM5_0=>?_
 refine Ci H ?_ ?_<;>intro H
 .obtain⟨r10,hr10,H⟩:=bE H
  obtain⟨l11,hl11,H⟩:=bE H
  have q2:∀J i,bsA T 34 true i 1 [(0,.agg [.int .i64 4,.int .i64 0,.int .i64 0,.int .i64 0,.int .i64 r10.1])] J=some (.fsl (eL rQuad ([(⟨4,0,0,0,r10.1⟩:gQuad)]:List gQuad)),J):=fun _ _=>rfl
  refine Sm tok [5] [2] (M5+8) (by
   intro K k
   have e0:=nQ w0 o2
   have e1:=nQ w0 (M5+6)
   have e2:=nQ o2 (M5+6)
   refine m1 (j e0 (j e1 (j e2 (j gs_W0 (j q2 (app34 hl11)))))) ?_
   refine mc (j e0 (j e1 (j e2 (j gs_W0 (j q2 (app34 hl11)))))) (c41 (r0_:=r0_) (H:=hr10)) fun M6 fM6_0=>?_
   refine m1 (j e0 (j e1 (j e2 (j gs_W0 (j q2 (j (app34 hl11) (j @hoS @hoN))))))) ?_
   exact k M6 (by omega)) fun M6 fM6_0=>?_
  have z0:=nQ w0 (M5+6)
  refine gFrz Wre 4 [M5+6] [(w0,some ⟨105,2,W0.set r0_ [.fsl (eL rU8 r10.2.b),.int .i64 r10.2.p]⟩)] [(2,.fsl (eL rQuad l11))] (by simp[z0]) (cutD (by simp[z0])) ?_
  obtain rfl:=oi H
  refine Kp [2] ?_
  exact V1 gs_W0 M6
 refine Js hK5 ?_
 obtain⟨l12,hl12,H⟩:=bE H
 have q3:∀J i,bsA T 34 true i 1 [(0,.agg [.int .i64 10,.int .i64 0,.int .i64 0,.int .i64 0,.int .i64 0])] J=some (.fsl (eL rQuad ([(⟨10,0,0,0,0⟩:gQuad)]:List gQuad)),J):=fun _ _=>rfl
 have e0:=nQ w0 o2
 have e1:=nQ w0 (M5+3)
 have e2:=nQ o2 (M5+3)
 refine Sy tok [2] [2] (j e0 (j e1 (j e2 (j gs_W0 (j q3 (app34 hl12)))))) ?_
 have z1:=nQ w0 (M5+3)
 refine gFrz Wre 4 [M5+3] [(w0,some ⟨105,2,W0.set r0_ [.fsl (eL rU8 r9.2.b),.int .i64 r9.2.p]⟩)] [(2,.fsl (eL rQuad l12))] (by simp[z1]) (cutD (by simp[z1])) ?_
 obtain rfl:=oi H
 refine Kp [2] ?_
 exact V1 gs_W0 (M5+5)

theorem c168 {p0:Int}{p1:Int}{r:gExpr}(H:xV p0 p1=some r):APure Tryz.prog G 168 [.int .i64 p0,.int .i64 p1] (.agg [.int .i64 r.Op,.int .i64 r.N,.fsl (eL rExpr r.Args)]):=by
 refine qK func168 ntmps168 results168 fun N0=>?_
 unfold xV at H
 refine qA [0,1,4] ?_
 have q0:∀J i,bsA T 147 true i 0 [] J=some (.esl,J):=fun _ _=>rfl
 refine Sy tok [2] [4] q0 ?_
 cases oj H
 refine Kp [4] ?_
 exact V0

theorem c169 {p0:gL6Rd}{r:gExpr×gL6Rd}(H:oN p0=some r){J:AHeap}{w0:Nat}{W0:List (List AV)}{r0_:Nat}(q0:J.objs w0=some ⟨105,2,W0⟩)(g0:W0[r0_]? =some [.fsl (eL rU8 p0.b),.int .i64 p0.p]):ACalls Tryz.prog G 169 [.ptr w0 r0_ 0] J (fun v J'=>∃M:Nat,J.next<=M/\v=.agg [.int .i64 r.1.Op,.int .i64 r.1.N,.fsl (eL rExpr r.1.Args)]/\J'=hp J.objs [(w0,some ⟨105,2,W0.set r0_ [.fsl (eL rU8 r.2.b),.int .i64 r.2.p]⟩)] M):=by
 refine fr1 ([(w0,some ⟨105,2,W0⟩)]) (by simp[q0]) (fun hlt=>?_) ⟨_,func169,rfl,rfl⟩
 generalize J.next=N0 at hlt ⊢
 have lw0:w0<N0:=hlt _ (.head _) rfl
 have gs_W0:∀x,(W0.set r0_ x)[r0_]? =some x:=gsetW g0
 rw[<- kC g0]
 refine yW 4 ?_
 refine fnK tok func169 ntmps169 results169 ?_
 simp only[argsA,Nat.reduceAdd,hpN]
 unfold oN at H
 have e0:=nQ w0 N0
 refine qC [0,2] e0 gs_W0 ?_
 refine Wsq [0,2] fun K1 hK1=>?_
 refine gW Wre N0 0 2 ?_
 obtain⟨r1,hr1,H⟩:=bE H
 refine Sm tok [] [0,2,4] (N0+3) (by
  intro K k
  have e0:=nQ w0 N0
  refine m2 e0 gs_W0 ?_
  refine mc (j e0 gs_W0) (c41 (r0_:=r0_) (H:=hr1)) fun M1 fM1_0=>?_
  refine m1 (j e0 (j gs_W0 (j @hoS @hoN))) ?_
  exact k M1 (by omega)) fun M1 fM1_0=>?_
 refine Wb ?_
 have e0:=nQ w0 N0
 refine qC [0,2,4,5] e0 gs_W0 ?_
 refine Ci H ?_ ?_<;>intro H
 .obtain⟨r2,hr2,H⟩:=bE H
  obtain⟨r3,hr3,H⟩:=bE H
  refine Sm tok [] [2] (M1+6) (by
   intro K k
   have e0:=nQ w0 N0
   refine m2 e0 gs_W0 ?_
   refine mc (j e0 gs_W0) (c41 (r0_:=r0_) (H:=hr2)) fun M2 fM2_0=>?_
   refine m1 (j e0 (j gs_W0 (j @hoS @hoN))) ?_
   refine(c168 hr3).app (m1 (j e0 (j gs_W0 (j @hoS @hoN))) ?_)
   exact k M2 (by omega)) fun M2 fM2_0=>?_
  obtain rfl:=oi H
  refine Kp [2] ?_
  have z0:=nQ w0 N0
  refine Wr ?_
  refine⟨[.agg [.int .i64 r3.Op,.int .i64 r3.N,.fsl (eL rExpr r3.Args)]],by simp[z0,gs_W0],(fun o=>[N0].contains o),M2,by omega,?_,?_⟩
  .simp[eN,z0,gs_W0]
  rw[cutD (L':=[(w0,some ⟨105,2,W0.set r0_ [.fsl (eL rU8 r2.2.b),.int .i64 r2.2.p]⟩)]) (by simp[z0,gs_W0])]
  first|done|rfl|simp
 have e0:=nQ w0 N0
 refine qC [0,2,10] e0 gs_W0 ?_
 refine Ci H ?_ ?_<;>intro H
 .obtain⟨r4,hr4,H⟩:=bE H
  obtain⟨v5,hv5,H⟩:=bE H
  obtain⟨r6,hr6,H⟩:=bE H
  have q0:∀J i,bsA T 23 true i 8 [(0,.int .i64 5),(1,.int .i64 31),(2,.int .i64 32),(3,.int .i64 100),(4,.int .i64 2047),(5,.int .i64 2048),(6,.int .i64 65536),(7,.int .i64 99999)] J=some (.fsl (eL rI ([5,31,32,100,2047,2048,65536,99999]:List Int)),J):=fun _ _=>rfl
  refine Sm tok [0] [2] (M1+11) (by
   intro K k
   have e0:=nQ w0 N0
   refine m1 (j e0 (j gs_W0 (j q0 (ix23 hv5)))) ?_
   refine mc (j e0 (j gs_W0 (j q0 (ix23 hv5)))) (c41 (r0_:=r0_) (H:=hr4)) fun M3 fM3_0=>?_
   refine m1 (j e0 (j gs_W0 (j q0 (j (ix23 hv5) (j @hoS @hoN))))) ?_
   refine(c168 hr6).app (m1 (j e0 (j gs_W0 (j q0 (j (ix23 hv5) (j @hoS @hoN))))) ?_)
   exact k M3 (by omega)) fun M3 fM3_0=>?_
  obtain rfl:=oi H
  refine Kp [2] ?_
  have z1:=nQ w0 N0
  refine Wr ?_
  refine⟨[.agg [.int .i64 r6.Op,.int .i64 r6.N,.fsl (eL rExpr r6.Args)]],by simp[z1,gs_W0],(fun o=>[N0].contains o),M3,by omega,?_,?_⟩
  .simp[eN,z1,gs_W0]
  rw[cutD (L':=[(w0,some ⟨105,2,W0.set r0_ [.fsl (eL rU8 r4.2.b),.int .i64 r4.2.p]⟩)]) (by simp[z1,gs_W0])]
  first|done|rfl|simp
 refine Js hK1 ?_
 obtain⟨r7,hr7,H⟩:=bE H
 obtain⟨r8,hr8,H⟩:=bE H
 refine Sm tok [] [2] (M1+8) (by
  intro K k
  have e0:=nQ w0 N0
  refine m2 e0 gs_W0 ?_
  refine mc (j e0 gs_W0) (c41 (r0_:=r0_) (H:=hr7)) fun M4 fM4_0=>?_
  refine m1 (j e0 (j gs_W0 (j @hoS @hoN))) ?_
  refine(c168 hr8).app (m1 (j e0 (j gs_W0 (j @hoS @hoN))) ?_)
  exact k M4 (by omega)) fun M4 fM4_0=>?_
 obtain rfl:=oi H
 refine Kp [2] ?_
 have z2:=nQ w0 N0
 refine Wr ?_
 refine⟨[.agg [.int .i64 r8.Op,.int .i64 r8.N,.fsl (eL rExpr r8.Args)]],by simp[z2,gs_W0],(fun o=>[N0].contains o),M4,by omega,?_,?_⟩
 .simp[eN,z2,gs_W0]
 rw[cutD (L':=[(w0,some ⟨105,2,W0.set r0_ [.fsl (eL rU8 r7.2.b),.int .i64 r7.2.p]⟩)]) (by simp[z2,gs_W0])]
 first|done|rfl|simp

theorem c167 {p0:Int}{p1:gExpr}{p2:gExpr}{r:gExpr}(H:nD p0 p1 p2=some r):APure Tryz.prog G 167 [.int .i64 p0,.agg [.int .i64 p1.Op,.int .i64 p1.N,.fsl (eL rExpr p1.Args)],.agg [.int .i64 p2.Op,.int .i64 p2.N,.fsl (eL rExpr p2.Args)]] (.agg [.int .i64 r.Op,.int .i64 r.N,.fsl (eL rExpr r.Args)]):=by
 refine qK func167 ntmps167 results167 fun N0=>?_
 unfold nD at H
 refine S0 tok [0,1] [0,4,5,6] ?_
 have q0:∀J i,bsA T 147 true i 2 [(0,.agg [.int .i64 p1.Op,.int .i64 p1.N,.fsl (eL rExpr p1.Args)]),(1,.agg [.int .i64 p2.Op,.int .i64 p2.N,.fsl (eL rExpr p2.Args)])] J=some (.fsl (eL rExpr ([p1,p2]:List gExpr)),J):=by intro _ _;simp only[eL,List.map_cons,List.map_nil,gA];rfl
 refine Sy tok [3] [6] q0 ?_
 cases oj H
 refine Kp [6] ?_
 exact V0

abbrev c150Q (F:gL6Rd->Int->Option (gExpr×gL6Rd)):Prop:=∀{p0:gL6Rd} {p1:Int} {r:gExpr×gL6Rd} (H:F p0 p1=some r) {J:AHeap} {w0:Nat} {W0:List (List AV)} {r0_:Nat} (q0:J.objs w0=some ⟨105,2,W0⟩) (g0:W0[r0_]? =some [.fsl (eL rU8 p0.b),.int .i64 p0.p]),ACalls Tryz.prog G 150 [.ptr w0 r0_ 0,.int .i64 p1] J (fun v J'=>∃M:Nat,J.next<=M/\v=.agg [.int .i64 r.1.Op,.int .i64 r.1.N,.fsl (eL rExpr r.1.Args)]/\J'=hp J.objs [(w0,some ⟨105,2,W0.set r0_ [.fsl (eL rU8 r.2.b),.int .i64 r.2.p]⟩)] M)


theorem c150B {Fr1:gL6Rd->Int->Option (gExpr×gL6Rd)}(hFr1:c150Q Fr1){p0:gL6Rd}{p1:Int}{r:gExpr×gL6Rd}(H:tK Fr1 p0 p1=some r){J:AHeap}{w0:Nat}{W0:List (List AV)}{r0_:Nat}(q0:J.objs w0=some ⟨105,2,W0⟩)(g0:W0[r0_]? =some [.fsl (eL rU8 p0.b),.int .i64 p0.p]):ACalls Tryz.prog G 150 [.ptr w0 r0_ 0,.int .i64 p1] J (fun v J'=>∃M:Nat,J.next<=M/\v=.agg [.int .i64 r.1.Op,.int .i64 r.1.N,.fsl (eL rExpr r.1.Args)]/\J'=hp J.objs [(w0,some ⟨105,2,W0.set r0_ [.fsl (eL rU8 r.2.b),.int .i64 r.2.p]⟩)] M):=by
 refine fr1 ([(w0,some ⟨105,2,W0⟩)]) (by simp[q0]) (fun hlt=>?_) ⟨_,func150,rfl,rfl⟩
 generalize J.next=N0 at hlt ⊢
 have lw0:w0<N0:=hlt _ (.head _) rfl
 have gs_W0:∀x,(W0.set r0_ x)[r0_]? =some x:=gsetW g0
 rw[<- kC g0]
 refine yW 4 ?_
 refine fnK tok func150 ntmps150 results150 ?_
 simp only[argsA,Nat.reduceAdd,hpN]
 unfold tK at H
 have e0:=nQ w0 N0
 refine qC [0,1,4] e0 gs_W0 ?_
 refine Wsq [0,1,4] fun K1 hK1=>?_
 refine gW Wre N0 0 2 ?_
 obtain⟨g2,hg2,H⟩:=bE H
 refine jC tok [] [0,1,4,13] (fun a J=>∃M1:Nat,N0+8<=M1/\a=[(0,.ptr w0 r0_ 0),(1,.int .i64 p1),(4,.ptr N0 0 0),(13,.bool g2.1)]/\J=hp E0 [(w0,some ⟨105,2,W0.set r0_ [.fsl (eL rU8 g2.2.b),.int .i64 g2.2.p]⟩),(N0,some ⟨149,3,[[.int .i64 0,.int .i64 0,.fsl []]]⟩)] M1) (fun K hK=>?_) ?_
 .skip
  have e0:=nQ w0 N0
  refine m2 e0 gs_W0 ?_
  cases hbg2:ilt p1 2
  .replace hg2:=ifF hbg2 hg2
   obtain⟨r1,hr1,hg2⟩:=bE hg2
   cases oj hg2
   refine m1 (j e0 (j gs_W0 hbg2)) ?_
   refine mc (j e0 (j gs_W0 hbg2)) (c41 (r0_:=r0_) (H:=hr1)) fun M1 fM1_0=>?_
   refine m1 (j e0 (j gs_W0 (j @hoS (j @hoN hbg2)))) ?_
   exact hK _ _ ⟨M1,(by omega),rfl,rfl⟩
  cases oj (ifT hbg2 hg2)
  refine m1 (j e0 (j gs_W0 (j @hoS (j @hoN hbg2)))) ?_
  exact hK _ _ ⟨N0+8,(by omega),rfl,rfl⟩
 rintro a J ⟨M1,fM1_0,rfl,rfl⟩
 refine Ci H ?_ ?_<;>intro H
 .obtain⟨r3,hr3,H⟩:=bE H
  refine Sm tok [] [4] (M1+3) (by
   intro K k
   have e0:=nQ w0 N0
   refine m2 e0 gs_W0 ?_
   refine mc (j e0 gs_W0) (c169 (r0_:=r0_) (H:=hr3)) fun M2 fM2_0=>?_
   refine m1 (j e0 (j gs_W0 (j @hoS @hoN))) ?_
   exact k M2 (by omega)) fun M2 fM2_0=>?_
  obtain rfl:=oi H
  refine Kp [4] ?_
  have z0:=nQ w0 N0
  refine Wr ?_
  refine⟨[.agg [.int .i64 r3.1.Op,.int .i64 r3.1.N,.fsl (eL rExpr r3.1.Args)]],by simp[z0,gs_W0],(fun o=>[N0].contains o),M2,by omega,?_,?_⟩
  .simp[eN,z0,gs_W0]
  rw[cutD (L':=[(w0,some ⟨105,2,W0.set r0_ [.fsl (eL rU8 r3.2.b),.int .i64 r3.2.p]⟩)]) (by simp[z0,gs_W0])]
  first|done|rfl|simp
 refine Js hK1 ?_
 obtain⟨r4,hr4,H⟩:=bE H
 refine Sm tok [] [0,1,4,5] (M1+3) (by
  intro K k
  have e0:=nQ w0 N0
  refine m2 e0 gs_W0 ?_
  refine mc (j e0 gs_W0) (c126 (r0_:=r0_) (H:=hr4)) fun M3 fM3_0=>?_
  refine m1 (j e0 (j gs_W0 (j @hoS @hoN))) ?_
  exact k M3 (by omega)) fun M3 fM3_0=>?_
 obtain⟨r5,hr5,H⟩:=bE H
 refine Sm tok [] [0,1,4,5,6] (M3+6) (by
  intro K k
  have e0:=nQ w0 N0
  have e1:=nQ w0 (M3+4)
  have e2:=nQ N0 (M3+4)
  refine m1 (j e0 (j e1 (j e2 gs_W0))) ?_
  refine mc (j e0 (j e1 (j e2 gs_W0))) (hFr1 (r0_:=r0_) (H:=hr5)) fun M4 fM4_0=>?_
  refine m1 (j e0 (j e1 (j e2 (j gs_W0 (j @hoS @hoN))))) ?_
  exact k M4 (by omega)) fun M4 fM4_0=>?_
 obtain⟨r6,hr6,H⟩:=bE H
 obtain⟨r7,hr7,H⟩:=bE H
 refine AWP_sy tok tokM [] [1,5,7] [0,2,3,4,1,5,6,7] [(5,[1])] [4] (fun a J=>∃M5:Nat,M4+8<=M5/\a=[(4,.ptr N0 0 0)]/\J=hp E0 [(w0,some ⟨105,2,W0.set r0_ [.fsl (eL rU8 r6.2.b),.int .i64 r6.2.p]⟩),(N0,some ⟨149,3,[[.int .i64 r7.Op,.int .i64 r7.N,.fsl (eL rExpr r7.Args)]]⟩),(M3+4,some ⟨149,3,[[.int .i64 r5.1.Op,.int .i64 r5.1.N,.fsl (eL rExpr r5.1.Args)]]⟩)] M5) (by decide) (fun K hK=>?_) ?_
 .simp only[pickL,zJ,zL]
  have e0:=nQ w0 N0
  have e1:=nQ w0 (M3+4)
  have e2:=nQ N0 (M3+4)
  refine m1 (j e0 (j e1 (j e2 gs_W0))) ?_
  refine mc (j e0 (j e1 (j e2 gs_W0))) (hFr1 (r0_:=r0_) (H:=hr6)) fun M5 fM5_0=>?_
  refine m1 (j e0 (j e1 (j e2 (j gs_W0 (j @hoS @hoN))))) ?_
  refine Pc.mk (c167 hr7) (m1 (j e0 (j e1 (j e2 (j gs_W0 (j @hoS @hoN))))) ?_)
  exact hK _ _ ⟨M5,(by omega),rfl,rfl⟩
 rintro a J ⟨M5,fM5_0,rfl,rfl⟩
 obtain rfl:=oi H
 refine Kp [4] ?_
 have z1:=nQ w0 N0
 have z2:=nQ w0 (M3+4)
 have z3:=nQ N0 (M3+4)
 refine gDrop Wre [(w0,some ⟨105,2,W0.set r0_ [.fsl (eL rU8 r6.2.b),.int .i64 r6.2.p]⟩),(N0,some ⟨149,3,[[.int .i64 r7.Op,.int .i64 r7.N,.fsl (eL rExpr r7.Args)]]⟩)] (zM (zM (AHeap.Sub.trans (AHeap.Sub.refl _) (zU rfl (by simp;try omega))))) ?_
 refine Wr ?_
 refine⟨[.agg [.int .i64 r7.Op,.int .i64 r7.N,.fsl (eL rExpr r7.Args)]],by simp[z1,z2,z3,gs_W0],(fun o=>[N0].contains o),M5,by omega,?_,?_⟩
 .simp[eN,z1,z2,z3,gs_W0]
 rw[cutD (L':=[(w0,some ⟨105,2,W0.set r0_ [.fsl (eL rU8 r6.2.b),.int .i64 r6.2.p]⟩)]) (by simp[z1,z2,z3,gs_W0])]
 first|done|rfl|simp

theorem c150R:∀n:Nat,c150Q (tJ n):=by
 intro n;induction n with
 |zero=>exact by intro p0 p1 r H;exact absurd H (by simp[tJ])
 |succ n ih=>exact by intro p0 p1 r H;exact c150B (hFr1:=ih) H

theorem c150 {p0:gL6Rd}{p1:Int}{r:gExpr×gL6Rd}(H:vO p0 p1=some r){J:AHeap}{w0:Nat}{W0:List (List AV)}{r0_:Nat}(q0:J.objs w0=some ⟨105,2,W0⟩)(g0:W0[r0_]? =some [.fsl (eL rU8 p0.b),.int .i64 p0.p]):ACalls Tryz.prog G 150 [.ptr w0 r0_ 0,.int .i64 p1] J (fun v J'=>∃M:Nat,J.next<=M/\v=.agg [.int .i64 r.1.Op,.int .i64 r.1.N,.fsl (eL rExpr r.1.Args)]/\J'=hp J.objs [(w0,some ⟨105,2,W0.set r0_ [.fsl (eL rU8 r.2.b),.int .i64 r.2.p]⟩)] M):=by
 unfold vO at H
 obtain⟨n,H⟩:=tU H
 exact(c150R n) H q0 g0

theorem c146 {p0:gL6Rd}{r:gStmt×gL6Rd}(H:hO p0=some r){J:AHeap}{w0:Nat}{W0:List (List AV)}{r0_:Nat}(q0:J.objs w0=some ⟨105,2,W0⟩)(g0:W0[r0_]? =some [.fsl (eL rU8 p0.b),.int .i64 p0.p]):ACalls Tryz.prog G 146 [.ptr w0 r0_ 0] J (fun v J'=>∃M:Nat,J.next<=M/\v=.agg [.int .i64 r.1.Kind,.int .i64 r.1.Var,.int .i64 r.1.Box,.int .i64 r.1.Expr.Op,.int .i64 r.1.Expr.N,.fsl (eL rExpr r.1.Expr.Args),.fsl (eL rStmt r.1.Body),.fsl (eL rStmt r.1.Else)]/\J'=hp J.objs [(w0,some ⟨105,2,W0.set r0_ [.fsl (eL rU8 r.2.b),.int .i64 r.2.p]⟩)] M):=by
 refine fr1 ([(w0,some ⟨105,2,W0⟩)]) (by simp[q0]) (fun hlt=>?_) ⟨_,func146,rfl,rfl⟩
 generalize J.next=N0 at hlt ⊢
 have lw0:w0<N0:=hlt _ (.head _) rfl
 have gs_W0:∀x,(W0.set r0_ x)[r0_]? =some x:=gsetW g0
 rw[<- kC g0]
 refine yW 4 ?_
 refine fnK tok func146 ntmps146 results146 ?_
 simp only[argsA,Nat.reduceAdd,hpN]
 unfold hO at H
 have e0:=nQ w0 N0
 refine qC [0,2] e0 gs_W0 ?_
 refine gW Wre N0 0 5 ?_
 refine gW Wre N0 0 6 ?_
 refine gW Wre N0 0 7 ?_
 obtain⟨r1,hr1,H⟩:=bE H
 refine Sm tok [] [0,2,3] (N0+4) (by
  intro K k
  have e0:=nQ w0 N0
  refine m2 e0 gs_W0 ?_
  refine mc (j e0 gs_W0) (c41 (r0_:=r0_) (H:=hr1)) fun M1 fM1_0=>?_
  refine m1 (j e0 (j gs_W0 (j @hoS @hoN))) ?_
  exact k M1 (by omega)) fun M1 fM1_0=>?_
 obtain⟨r2,hr2,H⟩:=bE H
 obtain⟨r3,hr3,H⟩:=bE H
 refine Sm tok [] [2] (M1+8) (by
  intro K k
  have e0:=nQ w0 N0
  refine m2 e0 gs_W0 ?_
  refine mc (j e0 gs_W0) (c41 (r0_:=r0_) (H:=hr2)) fun M2 fM2_0=>?_
  refine m1 (j e0 (j gs_W0 (j @hoS @hoN))) ?_
  refine mc (j e0 (j gs_W0 (j @hoS @hoN))) (c150 (r0_:=r0_) (H:=hr3)) fun M3 fM3_0=>?_
  refine m1 (j e0 (j gs_W0 (j @hoS @hoN))) ?_
  exact k M3 (by omega)) fun M3 fM3_0=>?_
 obtain rfl:=oi H
 refine Kp [2] ?_
 have z0:=nQ w0 N0
 refine Wr ?_
 refine⟨[.agg [.int .i64 1,.int .i64 r1.1,.int .i64 0,.int .i64 r3.1.Op,.int .i64 r3.1.N,.fsl (eL rExpr r3.1.Args),.fsl [],.fsl []]],by simp[z0,gs_W0],(fun o=>[N0].contains o),M3,by omega,?_,?_⟩
 .simp[eN,z0,gs_W0]
 rw[cutD (L':=[(w0,some ⟨105,2,W0.set r0_ [.fsl (eL rU8 r3.2.b),.int .i64 r3.2.p]⟩)]) (by simp[z0,gs_W0])]
 first|done|rfl|simp

theorem c149 {p0:gL6Rd}{p1:Int}{r:gStmt×gL6Rd}(H:oJ p0 p1=some r){J:AHeap}{w0:Nat}{W0:List (List AV)}{r0_:Nat}(q0:J.objs w0=some ⟨105,2,W0⟩)(g0:W0[r0_]? =some [.fsl (eL rU8 p0.b),.int .i64 p0.p]):ACalls Tryz.prog G 149 [.ptr w0 r0_ 0,.int .i64 p1] J (fun v J'=>∃M:Nat,J.next<=M/\v=.agg [.int .i64 r.1.Kind,.int .i64 r.1.Var,.int .i64 r.1.Box,.int .i64 r.1.Expr.Op,.int .i64 r.1.Expr.N,.fsl (eL rExpr r.1.Expr.Args),.fsl (eL rStmt r.1.Body),.fsl (eL rStmt r.1.Else)]/\J'=hp J.objs [(w0,some ⟨105,2,W0.set r0_ [.fsl (eL rU8 r.2.b),.int .i64 r.2.p]⟩)] M):=by
 refine fr1 ([(w0,some ⟨105,2,W0⟩)]) (by simp[q0]) (fun hlt=>?_) ⟨_,func149,rfl,rfl⟩
 generalize J.next=N0 at hlt ⊢
 have lw0:w0<N0:=hlt _ (.head _) rfl
 have gs_W0:∀x,(W0.set r0_ x)[r0_]? =some x:=gsetW g0
 rw[<- kC g0]
 refine yW 4 ?_
 refine fnK tok func149 ntmps149 results149 ?_
 simp only[argsA,Nat.reduceAdd,hpN]
 unfold oJ at H
 have e0:=nQ w0 N0
 refine qC [0,1,4] e0 gs_W0 ?_
 refine Wsq [0,1,4] fun K1 hK1=>?_
 have e0:=nQ w0 N0
 refine qC [0,1,4,7] e0 gs_W0 ?_
 refine Ci H ?_ ?_<;>intro H
 .refine gW Wre N0 0 5 ?_
  refine gW Wre N0 0 6 ?_
  refine gW Wre N0 0 7 ?_
  obtain⟨r1,hr1,H⟩:=bE H
  refine Sm tok [] [4] (N0+6) (by
   intro K k
   have e0:=nQ w0 N0
   refine m2 e0 gs_W0 ?_
   refine mc (j e0 gs_W0) (c146 (r0_:=r0_) (H:=hr1)) fun M1 fM1_0=>?_
   refine m1 (j e0 (j gs_W0 (j @hoS @hoN))) ?_
   exact k M1 (by omega)) fun M1 fM1_0=>?_
  obtain rfl:=oi H
  refine Kp [4] ?_
  have z0:=nQ w0 N0
  refine Wr ?_
  refine⟨[.agg [.int .i64 r1.1.Kind,.int .i64 r1.1.Var,.int .i64 r1.1.Box,.int .i64 r1.1.Expr.Op,.int .i64 r1.1.Expr.N,.fsl (eL rExpr r1.1.Expr.Args),.fsl (eL rStmt r1.1.Body),.fsl (eL rStmt r1.1.Else)]],by simp[z0,gs_W0],(fun o=>[N0].contains o),M1,by omega,?_,?_⟩
  .simp[eN,z0,gs_W0]
  rw[cutD (L':=[(w0,some ⟨105,2,W0.set r0_ [.fsl (eL rU8 r1.2.b),.int .i64 r1.2.p]⟩)]) (by simp[z0,gs_W0])]
  first|done|rfl|simp
 refine Js hK1 ?_
 refine gW Wre N0 0 5 ?_
 refine gW Wre N0 0 6 ?_
 refine gW Wre N0 0 7 ?_
 obtain⟨r2,hr2,H⟩:=bE H
 refine Sm tok [] [0,4,5] (N0+7) (by
  intro K k
  have e0:=nQ w0 N0
  refine m2 e0 gs_W0 ?_
  refine mc (j e0 gs_W0) (c41 (r0_:=r0_) (H:=hr2)) fun M2 fM2_0=>?_
  refine m1 (j e0 (j gs_W0 (j @hoS @hoN))) ?_
  exact k M2 (by omega)) fun M2 fM2_0=>?_
 refine Wsq [0,4,5] fun K2 hK2=>?_
 obtain⟨r3,hr3,H⟩:=bE H
 refine Sm tok [] [0,4,5,15] (M2+3) (by
  intro K k
  have e0:=nQ w0 N0
  refine m2 e0 gs_W0 ?_
  refine mc (j e0 gs_W0) (c41 (r0_:=r0_) (H:=hr3)) fun M3 fM3_0=>?_
  refine m1 (j e0 (j gs_W0 (j @hoS @hoN))) ?_
  exact k M3 (by omega)) fun M3 fM3_0=>?_
 refine Ci H ?_ ?_<;>intro H
 .obtain⟨r4,hr4,H⟩:=bE H
  obtain⟨r5,hr5,H⟩:=bE H
  refine Sm tok [] [4] (M3+8) (by
   intro K k
   have e0:=nQ w0 N0
   refine m2 e0 gs_W0 ?_
   refine mc (j e0 gs_W0) (c41 (r0_:=r0_) (H:=hr4)) fun M4 fM4_0=>?_
   refine m1 (j e0 (j gs_W0 (j @hoS @hoN))) ?_
   refine mc (j e0 (j gs_W0 (j @hoS @hoN))) (c150 (r0_:=r0_) (H:=hr5)) fun M5 fM5_0=>?_
   refine m1 (j e0 (j gs_W0 (j @hoS @hoN))) ?_
   exact k M5 (by omega)) fun M5 fM5_0=>?_
  obtain rfl:=oi H
  refine Kp [4] ?_
  have z1:=nQ w0 N0
  refine Wr ?_
  refine⟨[.agg [.int .i64 4,.int .i64 0,.int .i64 r2.1,.int .i64 r5.1.Op,.int .i64 r5.1.N,.fsl (eL rExpr r5.1.Args),.fsl [],.fsl []]],by simp[z1,gs_W0],(fun o=>[N0].contains o),M5,by omega,?_,?_⟩
  .simp[eN,z1,gs_W0]
  rw[cutD (L':=[(w0,some ⟨105,2,W0.set r0_ [.fsl (eL rU8 r5.2.b),.int .i64 r5.2.p]⟩)]) (by simp[z1,gs_W0])]
  first|done|rfl|simp
 refine Js hK2 ?_
 obtain⟨r6,hr6,H⟩:=bE H
 refine Sm tok [] [4] (M3+5) (by
  intro K k
  have e0:=nQ w0 N0
  refine m2 e0 gs_W0 ?_
  refine mc (j e0 gs_W0) (c41 (r0_:=r0_) (H:=hr6)) fun M6 fM6_0=>?_
  refine m1 (j e0 (j gs_W0 (j @hoS @hoN))) ?_
  exact k M6 (by omega)) fun M6 fM6_0=>?_
 obtain rfl:=oi H
 refine Kp [4] ?_
 have z2:=nQ w0 N0
 refine Wr ?_
 refine⟨[.agg [.int .i64 5,.int .i64 r6.1,.int .i64 r2.1,.int .i64 0,.int .i64 0,.fsl [],.fsl [],.fsl []]],by simp[z2,gs_W0],(fun o=>[N0].contains o),M6,by omega,?_,?_⟩
 .simp[eN,z2,gs_W0]
 rw[cutD (L':=[(w0,some ⟨105,2,W0.set r0_ [.fsl (eL rU8 r6.2.b),.int .i64 r6.2.p]⟩)]) (by simp[z2,gs_W0])]
 first|done|rfl|simp

abbrev c116Q (F:gL6Rd->Int->Int->Int->Bool->Option ((List gStmt)×gL6Rd)):Prop:=∀{p0:gL6Rd} {p1:Int} {p2:Int} {p3:Int} {p4:Bool} {r:(List gStmt)×gL6Rd} (H:F p0 p1 p2 p3 p4=some r) {J:AHeap} {w0:Nat} {W0:List (List AV)} {r0_:Nat} (q0:J.objs w0=some ⟨105,2,W0⟩) (g0:W0[r0_]? =some [.fsl (eL rU8 p0.b),.int .i64 p0.p]),ACalls Tryz.prog G 116 [.ptr w0 r0_ 0,.int .i64 p1,.int .i64 p2,.int .i64 p3,.bool p4] J (fun v J'=>∃M:Nat,J.next<=M/\v=.fsl (eL rStmt r.1)/\J'=hp J.objs [(w0,some ⟨105,2,W0.set r0_ [.fsl (eL rU8 r.2.b),.int .i64 r.2.p]⟩)] M)


abbrev c147Q (F:gL6Rd->Int->Int->Bool->Option (gStmt×gL6Rd)):Prop:=∀{p0:gL6Rd} {p1:Int} {p2:Int} {p3:Bool} {r:gStmt×gL6Rd} (H:F p0 p1 p2 p3=some r) {J:AHeap} {w0:Nat} {W0:List (List AV)} {r0_:Nat} (q0:J.objs w0=some ⟨105,2,W0⟩) (g0:W0[r0_]? =some [.fsl (eL rU8 p0.b),.int .i64 p0.p]),ACalls Tryz.prog G 147 [.ptr w0 r0_ 0,.int .i64 p1,.int .i64 p2,.bool p3] J (fun v J'=>∃M:Nat,J.next<=M/\v=.agg [.int .i64 r.1.Kind,.int .i64 r.1.Var,.int .i64 r.1.Box,.int .i64 r.1.Expr.Op,.int .i64 r.1.Expr.N,.fsl (eL rExpr r.1.Expr.Args),.fsl (eL rStmt r.1.Body),.fsl (eL rStmt r.1.Else)]/\J'=hp J.objs [(w0,some ⟨105,2,W0.set r0_ [.fsl (eL rU8 r.2.b),.int .i64 r.2.p]⟩)] M)


abbrev c116_oQ (F:gL6Rd->Int->Int->Int->Bool->Option ((List gStmt)×gL6Rd)):Prop:=∀{p0:gL6Rd} {p1:Int} {p2:Int} {p3:Int} {p4:Bool} {r:(List gStmt)×gL6Rd} (H:F p0 p1 p2 p3 p4=some r) {J:AHeap} {w0:Nat} {W0:List (List AV)} {r0_:Nat} (q0:J.objs w0=some ⟨105,2,W0⟩) (g0:W0[r0_]? =some [.fsl (eL rU8 p0.b),.int .i64 p0.p]),ACalls Tryz.prog G 116 [.ptr w0 r0_ 0,.int .i64 p1,.int .i64 p2,.int .i64 p3,.bool p4] J (fun v J'=>∃M n0:Nat,J.next<=M/\J.next<=n0/\n0<M/\v=.sl n0 0 r.1.length/\J'=hp J.objs [(w0,some ⟨105,2,W0.set r0_ [.fsl (eL rU8 r.2.b),.int .i64 r.2.p]⟩),(n0,some ⟨151,8,eL rStmt r.1⟩)] M)


abbrev c148Q (F:gL6Rd->Int->Int->Option ((List gStmt)×gL6Rd)):Prop:=∀{p0:gL6Rd} {p1:Int} {p2:Int} {r:(List gStmt)×gL6Rd} (H:F p0 p1 p2=some r) {J:AHeap} {w0:Nat} {W0:List (List AV)} {r0_:Nat} (q0:J.objs w0=some ⟨105,2,W0⟩) (g0:W0[r0_]? =some [.fsl (eL rU8 p0.b),.int .i64 p0.p]),ACalls Tryz.prog G 148 [.ptr w0 r0_ 0,.int .i64 p1,.int .i64 p2] J (fun v J'=>∃M:Nat,J.next<=M/\v=.fsl (eL rStmt r.1)/\J'=hp J.objs [(w0,some ⟨105,2,W0.set r0_ [.fsl (eL rU8 r.2.b),.int .i64 r.2.p]⟩)] M)


abbrev c129Q (F:gL6Rd->Int->Int->Bool->Option ((List gStmt)×gL6Rd)):Prop:=∀{p0:gL6Rd} {p1:Int} {p2:Int} {p3:Bool} {r:(List gStmt)×gL6Rd} (H:F p0 p1 p2 p3=some r) {J:AHeap} {w0:Nat} {W0:List (List AV)} {r0_:Nat} (q0:J.objs w0=some ⟨105,2,W0⟩) (g0:W0[r0_]? =some [.fsl (eL rU8 p0.b),.int .i64 p0.p]),ACalls Tryz.prog G 129 [.ptr w0 r0_ 0,.int .i64 p1,.int .i64 p2,.bool p3] J (fun v J'=>∃M:Nat,J.next<=M/\v=.fsl (eL rStmt r.1)/\J'=hp J.objs [(w0,some ⟨105,2,W0.set r0_ [.fsl (eL rU8 r.2.b),.int .i64 r.2.p]⟩)] M)


theorem c116B {Fr2:gL6Rd->Int->Int->Int->Bool->Option ((List gStmt)×gL6Rd)}{Fr3:gL6Rd->Int->Int->Bool->Option (gStmt×gL6Rd)}{Fr5:gL6Rd->Int->Int->Int->Bool->Option ((List gStmt)×gL6Rd)}{Fr6:gL6Rd->Int->Int->Option ((List gStmt)×gL6Rd)}{Fr4:gL6Rd->Int->Int->Bool->Option ((List gStmt)×gL6Rd)}(hFr2:c116Q Fr2)(hFr3:c147Q Fr3)(hFr5:c116_oQ Fr5)(hFr6:c148Q Fr6)(hFr4:c129Q Fr4){p0:gL6Rd}{p1:Int}{p2:Int}{p3:Int}{p4:Bool}{r:(List gStmt)×gL6Rd}(H:vN Fr2 Fr3 Fr5 Fr6 Fr4 p0 p1 p2 p3 p4=some r){J:AHeap}{w0:Nat}{W0:List (List AV)}{r0_:Nat}(q0:J.objs w0=some ⟨105,2,W0⟩)(g0:W0[r0_]? =some [.fsl (eL rU8 p0.b),.int .i64 p0.p]):ACalls Tryz.prog G 116 [.ptr w0 r0_ 0,.int .i64 p1,.int .i64 p2,.int .i64 p3,.bool p4] J (fun v J'=>∃M:Nat,J.next<=M/\v=.fsl (eL rStmt r.1)/\J'=hp J.objs [(w0,some ⟨105,2,W0.set r0_ [.fsl (eL rU8 r.2.b),.int .i64 r.2.p]⟩)] M):=by
 refine fr1 ([(w0,some ⟨105,2,W0⟩)]) (by simp[q0]) (fun hlt=>?_) ⟨_,func116,rfl,rfl⟩
 generalize J.next=N0 at hlt ⊢
 have lw0:w0<N0:=hlt _ (.head _) rfl
 have gs_W0:∀x,(W0.set r0_ x)[r0_]? =some x:=gsetW g0
 rw[<- kC g0]
 refine fnK tok func116 ntmps116 results116 ?_
 simp only[argsA,Nat.reduceAdd,hpN]
 unfold vN at H
 refine qB [0,1,2,3,4] gs_W0 ?_
 have q0:∀J i,bsA T 124 true i 0 [] J=some (.esl,J):=fun _ _=>rfl
 refine Sz tok [0] [0,1,2,3,4,11] gs_W0 q0 ?_
 refine Wsq [11] fun K1 hK1=>?_
 refine qB [0,1,2,3,4,11,12] gs_W0 ?_
 refine Wb ?_
 obtain⟨e1,hse1,H⟩:=bE H
 refine zR [0,1,2,3,4,11,12] (fun s a J=>∃M1 o1:Nat,N0<=M1/\N0<=o1/\o1<M1/\a=[(0,.ptr w0 r0_ 0),(1,.int .i64 p1),(2,.int .i64 p2),(3,.int .i64 p3),(4,.bool p4),(11,.sl o1 0 s.2.2.length),(12,.int .i64 s.1)]/\J=hp E0 [(w0,some ⟨105,2,W0.set r0_ [.fsl (eL rU8 s.2.1.b),.int .i64 s.2.1.p]⟩),(o1,some ⟨151,8,eL rStmt s.2.2⟩)] M1) (fun s x a J=>x=.exit 0/\Rc G 27 N0 (fun a J=>∃M2 o2:Nat,N0<=M2/\N0<=o2/\o2<M2/\a=[(11,.sl o2 0 s.2.length)]/\J=hp E0 [(w0,some ⟨105,2,W0.set r0_ [.fsl (eL rU8 s.1.b),.int .i64 s.1.p]⟩),(o2,some ⟨151,8,eL rStmt s.2⟩)] M2) (AAct.keep a [11]) J) hse1 ?_ ?_ ?_
 .refine kp [0,1,2,3,4,11,12] ?_
  refine gNilS zH 11 151 8 [(w0,some ⟨105,2,W0.set r0_ [.fsl (eL rU8 p0.b),.int .i64 p0.p]⟩),(N0+4,some ⟨151,8,eL rStmt ([]:List gStmt)⟩)] [(0,.ptr w0 r0_ 0),(1,.int .i64 p1),(2,.int .i64 p2),(3,.int .i64 p3),(4,.bool p4),(11,.sl (N0+4) 0 ([]:List gStmt).length),(12,.int .i64 0)] (by simp(disch:=omega)) (by simp(disch:=omega) [eN]) [0,1,2,3,4,11,12] rfl ?_
  exact R2 (N0+5) (N0+4)
 .clear H hse1
  rintro⟨s1,s2,s3⟩ fl a J H ⟨M1,o1,fM1_0,fM1_1,fM1_2,rfl,rfl⟩ K2 O2 hK2 hO2
  unfold uP at H;dsimp only at H
  refine Wsq [0,1,2,3,4,11,12] fun K3 hK3=>?_
  have e0:=nQ w0 o1
  refine qC [0,1,2,3,4,11,12,16] e0 gs_W0 ?_
  refine Ci H ?_ ?_<;>intro H
  .refine Js hK3 ?_
   refine Wsq [0,1,2,3,4,11,12] fun K4 hK4=>?_
   refine Wb ?_
   obtain⟨r6,hr6,H⟩:=bE H
   obtain⟨l7,hl7,H⟩:=bE H
   refine hG tok [] [0,1,2,3,4,11,12] (fun a J=>∃M3:Nat,M1+11<=M3/\a=[(0,.ptr w0 r0_ 0),(1,.int .i64 p1),(2,.int .i64 p2),(3,.int .i64 p3),(4,.bool p4),(11,.sl (M1+9) 0 l7.length),(12,.int .i64 s1)]/\J=hp E0 [(w0,some ⟨105,2,W0.set r0_ [.fsl (eL rU8 r6.2.b),.int .i64 r6.2.p]⟩),(M1+9,some ⟨151,8,eL rStmt l7⟩)] M3) (fun K hK=>?_) ?_
   .skip
    have e0:=nQ w0 o1
    have e1:=nQ w0 (M1+9)
    have e2:=nQ o1 (M1+9)
    refine m1 (j e0 (j e1 (j e2 (j gs_W0 (oE hl7))))) ?_
    refine mc (j e0 (j e1 (j e2 (j gs_W0 (oE hl7))))) (hFr4 (r0_:=r0_) (H:=hr6)) fun M3 fM3_0=>?_
    refine m1 (j e0 (j e1 (j e2 (j gs_W0 (j (oE hl7) (j @hoS @hoN)))))) ?_
    exact hK _ _ ⟨M3,(by omega),rfl,rfl⟩
   rintro a J ⟨M3,fM3_0,ha,rfl⟩
   refine hK4 _ _ ?_;rw[ha]
   refine Rc.mk ?_
   have e0:=nQ w0 (M1+9)
   obtain rfl:=oi H
   refine qJ (j e0 gs_W0) hK2 ?_
   exact R2 (M3+3) (M1+9)
  cases oj H
  refine zK (hO2 _ _ _ _ rfl ⟨rfl,?_⟩)
  refine kr ?_
  exact R2 (M1+3) o1
 intro x a J hx
 obtain⟨y4,y5⟩:=e1
 obtain⟨rfl,b,U,hr,M2,o2,fM2_0,fM2_1,fM2_2,rfl,rfl⟩:=hx
 (try dsimp only at H)
 show K1 _ _
 refine hK1 _ _ (zH hr ?_)
 refine Rc.mk ?_
 have e0:=nQ w0 o2
 refine qC [10] e0 gs_W0 ?_
 obtain rfl:=oi H
 refine Kp [10] ?_
 have z0:=nQ w0 o2
 refine gFrz Wre 4 [o2] [(w0,some ⟨105,2,W0.set r0_ [.fsl (eL rU8 y4.b),.int .i64 y4.p]⟩)] [(10,.fsl (eL rStmt y5))] (by simp[z0]) (cutD (by simp[z0])) ?_
 exact V1 gs_W0 (M2+2)

theorem c147B {Fr2:gL6Rd->Int->Int->Int->Bool->Option ((List gStmt)×gL6Rd)}{Fr3:gL6Rd->Int->Int->Bool->Option (gStmt×gL6Rd)}{Fr5:gL6Rd->Int->Int->Int->Bool->Option ((List gStmt)×gL6Rd)}{Fr6:gL6Rd->Int->Int->Option ((List gStmt)×gL6Rd)}{Fr4:gL6Rd->Int->Int->Bool->Option ((List gStmt)×gL6Rd)}(hFr2:c116Q Fr2)(hFr3:c147Q Fr3)(hFr5:c116_oQ Fr5)(hFr6:c148Q Fr6)(hFr4:c129Q Fr4){p0:gL6Rd}{p1:Int}{p2:Int}{p3:Bool}{r:gStmt×gL6Rd}(H:oK Fr2 Fr3 Fr5 Fr6 Fr4 p0 p1 p2 p3=some r){J:AHeap}{w0:Nat}{W0:List (List AV)}{r0_:Nat}(q0:J.objs w0=some ⟨105,2,W0⟩)(g0:W0[r0_]? =some [.fsl (eL rU8 p0.b),.int .i64 p0.p]):ACalls Tryz.prog G 147 [.ptr w0 r0_ 0,.int .i64 p1,.int .i64 p2,.bool p3] J (fun v J'=>∃M:Nat,J.next<=M/\v=.agg [.int .i64 r.1.Kind,.int .i64 r.1.Var,.int .i64 r.1.Box,.int .i64 r.1.Expr.Op,.int .i64 r.1.Expr.N,.fsl (eL rExpr r.1.Expr.Args),.fsl (eL rStmt r.1.Body),.fsl (eL rStmt r.1.Else)]/\J'=hp J.objs [(w0,some ⟨105,2,W0.set r0_ [.fsl (eL rU8 r.2.b),.int .i64 r.2.p]⟩)] M):=by
 refine fr1 ([(w0,some ⟨105,2,W0⟩)]) (by simp[q0]) (fun hlt=>?_) ⟨_,func147,rfl,rfl⟩
 generalize J.next=N0 at hlt ⊢
 have lw0:w0<N0:=hlt _ (.head _) rfl
 have gs_W0:∀x,(W0.set r0_ x)[r0_]? =some x:=gsetW g0
 rw[<- kC g0]
 refine yW 4 ?_
 refine fnK tok func147 ntmps147 results147 ?_
 simp only[argsA,Nat.reduceAdd,hpN]
 unfold oK at H
 have e0:=nQ w0 N0
 refine qC [0,1,2,3,8] e0 gs_W0 ?_
 refine gW Wre N0 0 5 ?_
 refine gW Wre N0 0 6 ?_
 refine gW Wre N0 0 7 ?_
 obtain⟨r1,hr1,H⟩:=bE H
 obtain⟨r2,hr2,H⟩:=bE H
 refine Sm tok [] [0,1,2,3,8,9] (N0+8) (by
  intro K k
  have e0:=nQ w0 N0
  have e1:=nQ w0 (N0+6)
  refine m1 (j e0 (j e1 gs_W0)) ?_
  refine mc (j e0 (j e1 gs_W0)) (c41 (r0_:=r0_) (H:=hr1)) fun M1 fM1_0=>?_
  refine m1 (j e0 (j e1 (j gs_W0 (j @hoS @hoN)))) ?_
  refine mc (j e0 (j e1 (j gs_W0 (j @hoS @hoN)))) (c150 (r0_:=r0_) (H:=hr2)) fun M2 fM2_0=>?_
  refine m1 (j e0 (j e1 (j gs_W0 (j @hoS @hoN)))) ?_
  exact k M2 (by omega)) fun M2 fM2_0=>?_
 obtain⟨r3,hr3,H⟩:=bE H
 obtain⟨r4,hr4,H⟩:=bE H
 refine Sm tok [] [0,1,2,3,8,9,10] (M2+9) (by
  intro K k
  have e0:=nQ w0 N0
  have e1:=nQ w0 (N0+6)
  refine m1 (j e0 (j e1 gs_W0)) ?_
  refine mc (j e0 (j e1 gs_W0)) (c41 (r0_:=r0_) (H:=hr3)) fun M3 fM3_0=>?_
  refine m1 (j e0 (j e1 (j gs_W0 (j @hoS @hoN)))) ?_
  refine mc (j e0 (j e1 (j gs_W0 (j @hoS @hoN)))) (hFr2 (r0_:=r0_) (H:=hr4)) fun M4 fM4_0=>?_
  refine m1 (j e0 (j e1 (j gs_W0 (j @hoS @hoN)))) ?_
  exact k M4 (by omega)) fun M4 fM4_0=>?_
 obtain⟨r5,hr5,H⟩:=bE H
 obtain⟨r6,hr6,H⟩:=bE H
 refine AWP_sy tok tokM [] [0,7,9,11] [1,2,3,4,5,6,8,0,7,9,10,11] [(7,[0]),(9,[0])] [8] (fun a J=>∃M5:Nat,∃M6:Nat,M4+12<=M5/\M5<=M6/\a=[(8,.ptr N0 0 0)]/\J=hp E0 [(w0,some ⟨105,2,W0.set r0_ [.fsl (eL rU8 r6.2.b),.int .i64 r6.2.p]⟩),(N0,some ⟨151,8,[[.int .i64 2,.int .i64 0,.int .i64 0,.int .i64 r2.1.Op,.int .i64 r2.1.N,.fsl (eL rExpr r2.1.Args),.fsl (eL rStmt r4.1),.fsl (eL rStmt r6.1)]]⟩),(N0+6,some ⟨149,3,[[.int .i64 r2.1.Op,.int .i64 r2.1.N,.fsl (eL rExpr r2.1.Args)]]⟩)] M6) (by decide) (fun K hK=>?_) ?_
 .simp only[pickL,zJ,zL]
  have e0:=nQ w0 N0
  have e1:=nQ w0 (N0+6)
  refine m1 (j e0 (j e1 gs_W0)) ?_
  refine mc (j e0 (j e1 gs_W0)) (c41 (r0_:=r0_) (H:=hr5)) fun M5 fM5_0=>?_
  refine m1 (j e0 (j e1 (j gs_W0 (j @hoS @hoN)))) ?_
  refine mc (j e0 (j e1 (j gs_W0 (j @hoS @hoN)))) (hFr2 (r0_:=r0_) (H:=hr6)) fun M6 fM6_0=>?_
  refine m1 (j e0 (j e1 (j gs_W0 (j @hoS @hoN)))) ?_
  exact hK _ _ ⟨M5,M6,(by omega),(by omega),rfl,rfl⟩
 rintro a J ⟨M5,M6,fM5_0,fM6_0,rfl,rfl⟩
 obtain rfl:=oi H
 refine Kp [8] ?_
 have z0:=nQ w0 N0
 have z1:=nQ w0 (N0+6)
 refine gDrop Wre [(w0,some ⟨105,2,W0.set r0_ [.fsl (eL rU8 r6.2.b),.int .i64 r6.2.p]⟩),(N0,some ⟨151,8,[[.int .i64 2,.int .i64 0,.int .i64 0,.int .i64 r2.1.Op,.int .i64 r2.1.N,.fsl (eL rExpr r2.1.Args),.fsl (eL rStmt r4.1),.fsl (eL rStmt r6.1)]]⟩)] (zM (zM (AHeap.Sub.trans (AHeap.Sub.refl _) (zU rfl (by simp;try omega))))) ?_
 refine Wr ?_
 refine⟨[.agg [.int .i64 2,.int .i64 0,.int .i64 0,.int .i64 r2.1.Op,.int .i64 r2.1.N,.fsl (eL rExpr r2.1.Args),.fsl (eL rStmt r4.1),.fsl (eL rStmt r6.1)]],by simp[z0,z1,gs_W0],(fun o=>[N0].contains o),M6,by omega,?_,?_⟩
 .simp[eN,z0,z1,gs_W0]
 rw[cutD (L':=[(w0,some ⟨105,2,W0.set r0_ [.fsl (eL rU8 r6.2.b),.int .i64 r6.2.p]⟩)]) (by simp[z0,z1,gs_W0])]
 first|done|rfl|simp

theorem c116_oB {Fr2:gL6Rd->Int->Int->Int->Bool->Option ((List gStmt)×gL6Rd)}{Fr3:gL6Rd->Int->Int->Bool->Option (gStmt×gL6Rd)}{Fr5:gL6Rd->Int->Int->Int->Bool->Option ((List gStmt)×gL6Rd)}{Fr6:gL6Rd->Int->Int->Option ((List gStmt)×gL6Rd)}{Fr4:gL6Rd->Int->Int->Bool->Option ((List gStmt)×gL6Rd)}(hFr2:c116Q Fr2)(hFr3:c147Q Fr3)(hFr5:c116_oQ Fr5)(hFr6:c148Q Fr6)(hFr4:c129Q Fr4){p0:gL6Rd}{p1:Int}{p2:Int}{p3:Int}{p4:Bool}{r:(List gStmt)×gL6Rd}(H:jU Fr2 Fr3 Fr5 Fr6 Fr4 p0 p1 p2 p3 p4=some r){J:AHeap}{w0:Nat}{W0:List (List AV)}{r0_:Nat}(q0:J.objs w0=some ⟨105,2,W0⟩)(g0:W0[r0_]? =some [.fsl (eL rU8 p0.b),.int .i64 p0.p]):ACalls Tryz.prog G 116 [.ptr w0 r0_ 0,.int .i64 p1,.int .i64 p2,.int .i64 p3,.bool p4] J (fun v J'=>∃M n0:Nat,J.next<=M/\J.next<=n0/\n0<M/\v=.sl n0 0 r.1.length/\J'=hp J.objs [(w0,some ⟨105,2,W0.set r0_ [.fsl (eL rU8 r.2.b),.int .i64 r.2.p]⟩),(n0,some ⟨151,8,eL rStmt r.1⟩)] M):=by
 refine fr2 ([(w0,some ⟨105,2,W0⟩)]) (by simp[q0]) (fun hlt=>?_) ⟨_,func116,rfl,rfl⟩
 generalize J.next=N0 at hlt ⊢
 have lw0:w0<N0:=hlt _ (.head _) rfl
 have gs_W0:∀x,(W0.set r0_ x)[r0_]? =some x:=gsetW g0
 rw[<- kC g0]
 refine fnK tok func116 ntmps116 results116 ?_
 simp only[argsA,Nat.reduceAdd,hpN]
 unfold jU at H
 refine qB [0,1,2,3,4] gs_W0 ?_
 have q0:∀J i,bsA T 124 true i 0 [] J=some (.esl,J):=fun _ _=>rfl
 refine Sz tok [0] [0,1,2,3,4,11] gs_W0 q0 ?_
 refine Wsq [11] fun K1 hK1=>?_
 refine qB [0,1,2,3,4,11,12] gs_W0 ?_
 refine Wb ?_
 obtain⟨e1,hse1,H⟩:=bE H
 refine zR [0,1,2,3,4,11,12] (fun s a J=>∃M1 o1:Nat,N0<=M1/\N0<=o1/\o1<M1/\a=[(0,.ptr w0 r0_ 0),(1,.int .i64 p1),(2,.int .i64 p2),(3,.int .i64 p3),(4,.bool p4),(11,.sl o1 0 s.2.2.length),(12,.int .i64 s.1)]/\J=hp E0 [(w0,some ⟨105,2,W0.set r0_ [.fsl (eL rU8 s.2.1.b),.int .i64 s.2.1.p]⟩),(o1,some ⟨151,8,eL rStmt s.2.2⟩)] M1) (fun s x a J=>x=.exit 0/\Rc G 27 N0 (fun a J=>∃M2 o2:Nat,N0<=M2/\N0<=o2/\o2<M2/\a=[(11,.sl o2 0 s.2.length)]/\J=hp E0 [(w0,some ⟨105,2,W0.set r0_ [.fsl (eL rU8 s.1.b),.int .i64 s.1.p]⟩),(o2,some ⟨151,8,eL rStmt s.2⟩)] M2) (AAct.keep a [11]) J) hse1 ?_ ?_ ?_
 .refine kp [0,1,2,3,4,11,12] ?_
  refine gNilS zH 11 151 8 [(w0,some ⟨105,2,W0.set r0_ [.fsl (eL rU8 p0.b),.int .i64 p0.p]⟩),(N0+4,some ⟨151,8,eL rStmt ([]:List gStmt)⟩)] [(0,.ptr w0 r0_ 0),(1,.int .i64 p1),(2,.int .i64 p2),(3,.int .i64 p3),(4,.bool p4),(11,.sl (N0+4) 0 ([]:List gStmt).length),(12,.int .i64 0)] (by simp(disch:=omega)) (by simp(disch:=omega) [eN]) [0,1,2,3,4,11,12] rfl ?_
  exact R2 (N0+5) (N0+4)
 .clear H hse1
  rintro⟨s1,s2,s3⟩ fl a J H ⟨M1,o1,fM1_0,fM1_1,fM1_2,rfl,rfl⟩ K2 O2 hK2 hO2
  unfold oL at H;dsimp only at H
  refine Wsq [0,1,2,3,4,11,12] fun K3 hK3=>?_
  have e0:=nQ w0 o1
  refine qC [0,1,2,3,4,11,12,16] e0 gs_W0 ?_
  refine Ci H ?_ ?_<;>intro H
  .refine Js hK3 ?_
   refine Wsq [0,1,2,3,4,11,12] fun K4 hK4=>?_
   refine Wb ?_
   obtain⟨r6,hr6,H⟩:=bE H
   obtain⟨l7,hl7,H⟩:=bE H
   refine hG tok [] [0,1,2,3,4,11,12] (fun a J=>∃M3:Nat,M1+11<=M3/\a=[(0,.ptr w0 r0_ 0),(1,.int .i64 p1),(2,.int .i64 p2),(3,.int .i64 p3),(4,.bool p4),(11,.sl (M1+9) 0 l7.length),(12,.int .i64 s1)]/\J=hp E0 [(w0,some ⟨105,2,W0.set r0_ [.fsl (eL rU8 r6.2.b),.int .i64 r6.2.p]⟩),(M1+9,some ⟨151,8,eL rStmt l7⟩)] M3) (fun K hK=>?_) ?_
   .skip
    have e0:=nQ w0 o1
    have e1:=nQ w0 (M1+9)
    have e2:=nQ o1 (M1+9)
    refine m1 (j e0 (j e1 (j e2 (j gs_W0 (oE hl7))))) ?_
    refine mc (j e0 (j e1 (j e2 (j gs_W0 (oE hl7))))) (hFr4 (r0_:=r0_) (H:=hr6)) fun M3 fM3_0=>?_
    refine m1 (j e0 (j e1 (j e2 (j gs_W0 (j (oE hl7) (j @hoS @hoN)))))) ?_
    exact hK _ _ ⟨M3,(by omega),rfl,rfl⟩
   rintro a J ⟨M3,fM3_0,ha,rfl⟩
   refine hK4 _ _ ?_;rw[ha]
   refine Rc.mk ?_
   have e0:=nQ w0 (M1+9)
   obtain rfl:=oi H
   refine qJ (j e0 gs_W0) hK2 ?_
   exact R2 (M3+3) (M1+9)
  cases oj H
  refine zK (hO2 _ _ _ _ rfl ⟨rfl,?_⟩)
  refine kr ?_
  exact R2 (M1+3) o1
 intro x a J hx
 obtain⟨y4,y5⟩:=e1
 obtain⟨rfl,b,U,hr,M2,o2,fM2_0,fM2_1,fM2_2,rfl,rfl⟩:=hx
 (try dsimp only at H)
 show K1 _ _
 refine hK1 _ _ (zH hr ?_)
 refine Rc.mk ?_
 have e0:=nQ w0 o2
 refine qC [10] e0 gs_W0 ?_
 obtain rfl:=oi H
 refine Kp [10] ?_
 have z0:=nQ w0 o2
 exact V2 (j z0 gs_W0) (M2+2) o2

theorem c148B {Fr2:gL6Rd->Int->Int->Int->Bool->Option ((List gStmt)×gL6Rd)}{Fr3:gL6Rd->Int->Int->Bool->Option (gStmt×gL6Rd)}{Fr5:gL6Rd->Int->Int->Int->Bool->Option ((List gStmt)×gL6Rd)}{Fr6:gL6Rd->Int->Int->Option ((List gStmt)×gL6Rd)}{Fr4:gL6Rd->Int->Int->Bool->Option ((List gStmt)×gL6Rd)}(hFr2:c116Q Fr2)(hFr3:c147Q Fr3)(hFr5:c116_oQ Fr5)(hFr6:c148Q Fr6)(hFr4:c129Q Fr4){p0:gL6Rd}{p1:Int}{p2:Int}{r:(List gStmt)×gL6Rd}(H:tI Fr2 Fr3 Fr5 Fr6 Fr4 p0 p1 p2=some r){J:AHeap}{w0:Nat}{W0:List (List AV)}{r0_:Nat}(q0:J.objs w0=some ⟨105,2,W0⟩)(g0:W0[r0_]? =some [.fsl (eL rU8 p0.b),.int .i64 p0.p]):ACalls Tryz.prog G 148 [.ptr w0 r0_ 0,.int .i64 p1,.int .i64 p2] J (fun v J'=>∃M:Nat,J.next<=M/\v=.fsl (eL rStmt r.1)/\J'=hp J.objs [(w0,some ⟨105,2,W0.set r0_ [.fsl (eL rU8 r.2.b),.int .i64 r.2.p]⟩)] M):=by
 refine fr1 ([(w0,some ⟨105,2,W0⟩)]) (by simp[q0]) (fun hlt=>?_) ⟨_,func148,rfl,rfl⟩
 generalize J.next=N0 at hlt ⊢
 have lw0:w0<N0:=hlt _ (.head _) rfl
 have gs_W0:∀x,(W0.set r0_ x)[r0_]? =some x:=gsetW g0
 rw[<- kC g0]
 refine fnK tok func148 ntmps148 results148 ?_
 simp only[argsA,Nat.reduceAdd,hpN]
 unfold tI at H
 refine qB [0,1,2] gs_W0 ?_
 refine qB [0,1,2,7] gs_W0 ?_
 obtain⟨r1,hr1,H⟩:=bE H
 obtain⟨r2,hr2,H⟩:=bE H
 refine jC tok [] [0,7,8] (fun a J=>∃M1:Nat,∃M2 o1:Nat,N0+10<=M1/\M1<=M2/\M1<=o1/\o1<M2/\a=[(0,.ptr w0 r0_ 0),(7,.int .i64 3),(8,.sl o1 0 r2.1.length)]/\J=hp E0 [(w0,some ⟨105,2,W0.set r0_ [.fsl (eL rU8 r2.2.b),.int .i64 r2.2.p]⟩),(o1,some ⟨151,8,eL rStmt r2.1⟩)] M2) (fun K hK=>?_) ?_
 .skip
  refine m1 gs_W0 ?_
  refine mc gs_W0 (c41 (r0_:=r0_) (H:=hr1)) fun M1 fM1_0=>?_
  refine m1 (j gs_W0 (j @hoS @hoN)) ?_
  refine(hFr5 (W0:=W0.set r0_ [.fsl (eL rU8 r1.2.b),.int .i64 r1.2.p]) (r0_:=r0_) (H:=hr2) (by simp[gs_W0,hoS,hoN]) (by simp[gs_W0,hoS,hoN])).mono ?_;rintro _ _ ⟨M2,o1,fM2_0,fM2_1,fM2_2,rfl,rfl⟩;simp only[hpN] at fM2_0 fM2_1 fM2_2
  have eM2_0:=nQ o1 w0
  refine m1 (j gs_W0 (j @hoS (j @hoN eM2_0))) ?_
  exact hK _ _ ⟨M1,M2,o1,(by omega),(by omega),(by omega),(by omega),rfl,rfl⟩
 rintro a J ⟨M1,M2,o1,fM1_0,fM2_0,fM2_1,fM2_2,rfl,rfl⟩
 obtain⟨r3,hr3,H⟩:=bE H
 obtain⟨r4,hr4,H⟩:=bE H
 obtain⟨r5,hr5,H⟩:=bE H
 have e0:=nQ w0 o1
 have e1:=nQ w0 (M2+6)
 have e2:=nQ o1 (M2+6)
 refine Sx tok [] [0,7,8,9] (by intro K k;(repeat first|simp -dsimp -implicitDefEqProofs [e0,e1,e2,gs_W0]|refine(c168 hr3).app ?_|refine(c168 hr4).app ?_|refine(c167 hr5).app ?_);exact k) ?_
 have z0:=nQ w0 o1
 have z1:=nQ w0 (M2+6)
 have z2:=nQ o1 (M2+6)
 refine gFrz Wre 4 [M2+6] [(w0,some ⟨105,2,W0.set r0_ [.fsl (eL rU8 r2.2.b),.int .i64 r2.2.p]⟩),(o1,some ⟨151,8,eL rStmt r2.1⟩)] [(0,.ptr w0 r0_ 0),(7,.int .i64 3),(8,.sl o1 0 r2.1.length),(9,.fptr [.int .i64 1,.int .i64 3,.int .i64 0,.int .i64 r5.Op,.int .i64 r5.N,.fsl (eL rExpr r5.Args),.fsl [],.fsl []] 0)] (by simp[z0,z1,z2]) (cutD (by simp[z0,z1,z2])) ?_
 obtain⟨r6,hr6,H⟩:=bE H
 obtain⟨r7,hr7,H⟩:=bE H
 obtain⟨r8,hr8,H⟩:=bE H
 obtain⟨l9,hl9,H⟩:=bE H
 have q0:∀J i,bsA T 124 true i 1 [(0,.agg [.int .i64 1,.int .i64 3,.int .i64 0,.int .i64 r5.Op,.int .i64 r5.N,.fsl (eL rExpr r5.Args),.fsl [],.fsl []])] J=some (.fsl (eL rStmt ([(⟨1,3,0,r5,([]:List gStmt),([]:List gStmt)⟩:gStmt)]:List gStmt)),J):=by intro _ _;simp only[eL,List.map_cons,List.map_nil,xI];rfl
 refine AWP_syC tok tokM [9] [3,10,12,13] [0,1,2,7,8,9,3,4,5,6,10,11,12,13] [] [7,10] (fun a J=>∃M3:Nat,M2+22<=M3/\a=[(7,.int .i64 3),(10,.ptr (M2+20) 0 0)]/\J=hp E0 [(w0,some ⟨105,2,W0.set r0_ [.fsl (eL rU8 r6.2.b),.int .i64 r6.2.p]⟩),(M2+18,some ⟨151,8,eL rStmt l9⟩),(M2+20,some ⟨151,8,[[.int .i64 3,.int .i64 0,.int .i64 0,.int .i64 r8.Op,.int .i64 r8.N,.fsl (eL rExpr r8.Args),.sl (M2+18) 0 l9.length,.fsl []]]⟩)] M3) (by decide) (by kernel_rfl) (fun K hK=>?_) ?_
 .simp only[pickL,zJ,zL]
  have e0:=nQ w0 o1
  have e1:=nQ w0 (M2+18)
  have e2:=nQ w0 (M2+20)
  have e3:=nQ o1 (M2+18)
  have e4:=nQ o1 (M2+20)
  refine m1 (j e0 (j e1 (j e2 (j e3 (j e4 (j gs_W0 (j q0 (oE hl9)))))))) ?_
  refine Pc.mk (c168 hr3) (m1 (j e0 (j e1 (j e2 (j e3 (j e4 (j gs_W0 (j q0 (oE hl9)))))))) ?_)
  refine mc (j e0 (j e1 (j e2 (j e3 (j e4 (j gs_W0 (j q0 (oE hl9)))))))) (c41 (r0_:=r0_) (H:=hr6)) fun M3 fM3_0=>?_
  refine m1 (j e0 (j e1 (j e2 (j e3 (j e4 (j gs_W0 (j q0 (j (oE hl9) (j @hoS @hoN))))))))) ?_
  refine Pc.mk (c168 hr7) (m1 (j e0 (j e1 (j e2 (j e3 (j e4 (j gs_W0 (j q0 (j (oE hl9) (j @hoS @hoN))))))))) ?_)
  refine Pc.mk (c167 hr8) (m1 (j e0 (j e1 (j e2 (j e3 (j e4 (j gs_W0 (j q0 (j (oE hl9) (j @hoS @hoN))))))))) ?_)
  exact hK _ _ ⟨M3,(by omega),rfl,rfl⟩
 rintro a J ⟨M3,fM3_0,rfl,rfl⟩
 refine gP Wre (M2+20) 0 6 ?_
 refine gU Wre (M2+20) 0 6 ?_
 have z3:=nQ w0 (M2+20)
 have z4:=nQ w0 M3
 have z5:=nQ (M2+20) M3
 refine gFrz Wre 4 [M3,M2+20] [(w0,some ⟨105,2,W0.set r0_ [.fsl (eL rU8 r6.2.b),.int .i64 r6.2.p]⟩)] [(7,.int .i64 3),(10,.fptr [.int .i64 3,.int .i64 0,.int .i64 0,.int .i64 r8.Op,.int .i64 r8.N,.fsl (eL rExpr r8.Args),.fsl (eL rStmt l9),.fsl []] 0)] (by simp[z3,z4,z5]) (cutD (by simp[z3,z4,z5])) ?_
 obtain⟨r12,hr12,H⟩:=bE H
 have q1:∀J i,bsA T 124 true i 2 [(0,.agg [.int .i64 1,.int .i64 3,.int .i64 0,.int .i64 r12.Op,.int .i64 r12.N,.fsl (eL rExpr r12.Args),.fsl [],.fsl []]),(1,.agg [.int .i64 3,.int .i64 0,.int .i64 0,.int .i64 r8.Op,.int .i64 r8.N,.fsl (eL rExpr r8.Args),.fsl (eL rStmt l9),.fsl []])] J=some (.fsl (eL rStmt ([(⟨1,3,0,r12,([]:List gStmt),([]:List gStmt)⟩:gStmt),(⟨3,0,0,r8,l9,([]:List gStmt)⟩:gStmt)]:List gStmt)),J):=by intro _ _;simp only[eL,List.map_cons,List.map_nil,xI];rfl
 refine Sd tok tokM [4] [] [0,1,2,3,4,5] [6] (by
  intro K k
  simp only[pickL,zJ,zL]
  repeat first|simp -dsimp -implicitDefEqProofs [gs_W0,q1]|refine Pc.mk (c168 hr12) ?_
  exact k) ?_
 obtain rfl:=oi H
 refine Kp [6] ?_
 exact V1 gs_W0 (M3+7)

theorem c129B {Fr2:gL6Rd->Int->Int->Int->Bool->Option ((List gStmt)×gL6Rd)}{Fr3:gL6Rd->Int->Int->Bool->Option (gStmt×gL6Rd)}{Fr5:gL6Rd->Int->Int->Int->Bool->Option ((List gStmt)×gL6Rd)}{Fr6:gL6Rd->Int->Int->Option ((List gStmt)×gL6Rd)}{Fr4:gL6Rd->Int->Int->Bool->Option ((List gStmt)×gL6Rd)}(hFr2:c116Q Fr2)(hFr3:c147Q Fr3)(hFr5:c116_oQ Fr5)(hFr6:c148Q Fr6)(hFr4:c129Q Fr4){p0:gL6Rd}{p1:Int}{p2:Int}{p3:Bool}{r:(List gStmt)×gL6Rd}(H:tH Fr2 Fr3 Fr5 Fr6 Fr4 p0 p1 p2 p3=some r){J:AHeap}{w0:Nat}{W0:List (List AV)}{r0_:Nat}(q0:J.objs w0=some ⟨105,2,W0⟩)(g0:W0[r0_]? =some [.fsl (eL rU8 p0.b),.int .i64 p0.p]):ACalls Tryz.prog G 129 [.ptr w0 r0_ 0,.int .i64 p1,.int .i64 p2,.bool p3] J (fun v J'=>∃M:Nat,J.next<=M/\v=.fsl (eL rStmt r.1)/\J'=hp J.objs [(w0,some ⟨105,2,W0.set r0_ [.fsl (eL rU8 r.2.b),.int .i64 r.2.p]⟩)] M):=by
 refine fr1 ([(w0,some ⟨105,2,W0⟩)]) (by simp[q0]) (fun hlt=>?_) ⟨_,func129,rfl,rfl⟩
 generalize J.next=N0 at hlt ⊢
 have lw0:w0<N0:=hlt _ (.head _) rfl
 have gs_W0:∀x,(W0.set r0_ x)[r0_]? =some x:=gsetW g0
 rw[<- kC g0]
 refine fnK tok func129 ntmps129 results129 ?_
 simp only[argsA,Nat.reduceAdd,hpN]
 unfold tH at H
 refine qB [0,1,2,3] gs_W0 ?_
 obtain⟨flj1,hflj1,H⟩:=bE H
 refine kP (kN fun K1 hK1=>?_)
 have hJ1:∀(j1:gL6Rd) a J,flj1=.next j1->Rc G 57 N0 (fun a J=>∃M1:Nat,N0<=M1/\a=[(0,.ptr w0 r0_ 0)]/\J=hp E0 [(w0,some ⟨105,2,W0.set r0_ [.fsl (eL rU8 j1.b),.int .i64 j1.p]⟩)] M1) (AAct.keep a [0]) J->K1 a J:=by
  rintro j1 a J hfl ⟨b,U,hr,M1,fM1_0,rfl,rfl⟩
  subst hfl;dsimp only at H
  refine hK1 _ _ (kG [0] (Wre hr ?_))
  obtain⟨r2,hr2,H⟩:=bE H
  obtain⟨r3,hr3,H⟩:=bE H
  have q0:∀J i,bsA T 124 true i 1 [(0,.agg [.int .i64 7,.int .i64 0,.int .i64 0,.int .i64 r3.1.Op,.int .i64 r3.1.N,.fsl (eL rExpr r3.1.Args),.fsl [],.fsl []])] J=some (.fsl (eL rStmt ([(⟨7,0,0,r3.1,([]:List gStmt),([]:List gStmt)⟩:gStmt)]:List gStmt)),J):=by intro _ _;simp only[eL,List.map_cons,List.map_nil,xI];rfl
  refine Sm tok [6] [8] (M1+8) (by
   intro K k
   refine m2 gs_W0 q0 ?_
   refine mc (j gs_W0 q0) (c41 (r0_:=r0_) (H:=hr2)) fun M2 fM2_0=>?_
   refine m1 (j gs_W0 (j q0 (j @hoS @hoN))) ?_
   refine mc (j gs_W0 (j q0 (j @hoS @hoN))) (c150 (r0_:=r0_) (H:=hr3)) fun M3 fM3_0=>?_
   refine m1 (j gs_W0 (j q0 (j @hoS @hoN))) ?_
   exact k M3 (by omega)) fun M3 fM3_0=>?_
  obtain rfl:=oi H
  refine Kp [8] ?_
  exact V1 gs_W0 M3
 have Gj1:=H;replace H:=hflj1
 obtain⟨r4,hr4,H⟩:=bE H
 refine Sm tok [] [0,1,2,3,10] (N0+3) (by
  intro K k
  refine m1 gs_W0 ?_
  refine mc gs_W0 (c41 (r0_:=r0_) (H:=hr4)) fun M4 fM4_0=>?_
  refine m1 (j gs_W0 (j @hoS @hoN)) ?_
  exact k M4 (by omega)) fun M4 fM4_0=>?_
 refine Wb ?_
 obtain⟨j2,hj2,H⟩:=bE H
 refine kP (kN fun K3 hK3=>?_)
 have hJ2:∀a J,Rc G 57 N0 (fun a J=>∃M5:Nat,N0<=M5/\a=[(0,.ptr w0 r0_ 0),(1,.int .i64 p1),(2,.int .i64 p2),(3,.bool p3),(10,.int .i64 r4.1),(11,.bool j2)]/\J=hp E0 [(w0,some ⟨105,2,W0.set r0_ [.fsl (eL rU8 r4.2.b),.int .i64 r4.2.p]⟩)] M5) (a.keep [0,1,2,3,10,11]) J->K3 a J:=by
  rintro a J ⟨b,U,hr,M5,fM5_0,rfl,rfl⟩
  refine hK3 _ _ (kG [0,1,2,3,10,11] (Wre hr ?_))
  refine Ci H ?_ ?_<;>intro H
  .obtain⟨r6,hr6,H⟩:=bE H
   have q1:∀J i,bsA T 124 true i 1 [(0,.agg [.int .i64 r6.1.Kind,.int .i64 r6.1.Var,.int .i64 r6.1.Box,.int .i64 r6.1.Expr.Op,.int .i64 r6.1.Expr.N,.fsl (eL rExpr r6.1.Expr.Args),.fsl (eL rStmt r6.1.Body),.fsl (eL rStmt r6.1.Else)])] J=some (.fsl (eL rStmt ([r6.1]:List gStmt)),J):=by intro _ _;simp only[eL,List.map_cons,List.map_nil,xI];rfl
   refine Sm tok [2] [8] (M5+4) (by
    intro K k
    refine m2 gs_W0 q1 ?_
    refine mc (j gs_W0 q1) (c146 (r0_:=r0_) (H:=hr6)) fun M6 fM6_0=>?_
    refine m1 (j gs_W0 (j q1 (j @hoS @hoN))) ?_
    exact k M6 (by omega)) fun M6 fM6_0=>?_
   obtain⟨z,hz,H⟩:=bE H
   obtain rfl:=oi H;dsimp only at Gj1;obtain rfl:=oi Gj1;have H:=hz
   obtain rfl:=oi H
   refine Kp [8] ?_
   exact V1 gs_W0 M6
  refine qB [0,1,2,3,10,17] gs_W0 ?_
  refine Ci H ?_ ?_<;>intro H
  .refine qB [0,1,2,3,20] gs_W0 ?_
   refine Ci H ?_ ?_<;>intro H
   .obtain⟨r7,hr7,H⟩:=bE H
    have q2:∀J i,bsA T 124 true i 1 [(0,.agg [.int .i64 r7.1.Kind,.int .i64 r7.1.Var,.int .i64 r7.1.Box,.int .i64 r7.1.Expr.Op,.int .i64 r7.1.Expr.N,.fsl (eL rExpr r7.1.Expr.Args),.fsl (eL rStmt r7.1.Body),.fsl (eL rStmt r7.1.Else)])] J=some (.fsl (eL rStmt ([r7.1]:List gStmt)),J):=by intro _ _;simp only[eL,List.map_cons,List.map_nil,xI];rfl
    refine Sm tok [5] [8] (M5+11) (by
     intro K k
     refine m2 gs_W0 q2 ?_
     refine mc (j gs_W0 q2) (hFr3 (r0_:=r0_) (H:=hr7)) fun M7 fM7_0=>?_
     refine m1 (j gs_W0 (j q2 (j @hoS @hoN))) ?_
     exact k M7 (by omega)) fun M7 fM7_0=>?_
    obtain⟨z,hz,H⟩:=bE H
    obtain rfl:=oi H;dsimp only at Gj1;obtain rfl:=oi Gj1;have H:=hz
    obtain rfl:=oi H
    refine Kp [8] ?_
    exact V1 gs_W0 M7
   refine Wsk ?_
   show K1 _ _
   refine kE [0] fun a' ha=>?_
   replace H:=oi H
   refine hJ1 _ _ _ H.symm ?_;rw[ha]
   exact R1 (M5+4)
  refine qB [0,1,2,3,10,27] gs_W0 ?_
  refine Ci H ?_ ?_<;>intro H
  .obtain⟨g8,hg8,H⟩:=bE H
   refine qF tok [0,1,2,33] ([(0,.ptr w0 r0_ 0),(1,.int .i64 p1),(2,.int .i64 p2),(33,.bool g8)]) (hp E0 [(w0,some ⟨105,2,W0.set r0_ [.fsl (eL rU8 r4.2.b),.int .i64 r4.2.p]⟩)] (M5+9)) (by
    intro K k
    refine m1 gs_W0 ?_
    cases hbg8:igt p2 0
    .cases oj (ifF hbg8 hg8)
     exact m2 gs_W0 hbg8 k
    cases oj (ifT hbg8 hg8)
    refine m2 gs_W0 hbg8 ?_
    exact k) ?_
   refine Ci H ?_ ?_<;>intro H
   .obtain⟨r9,hr9,H⟩:=bE H
    refine Sm tok [] [8] (M5+14) (by
     intro K k
     refine m1 gs_W0 ?_
     refine mc gs_W0 (hFr6 (r0_:=r0_) (H:=hr9)) fun M8 fM8_0=>?_
     refine m1 (j gs_W0 (j @hoS @hoN)) ?_
     exact k M8 (by omega)) fun M8 fM8_0=>?_
    obtain⟨z,hz,H⟩:=bE H
    obtain rfl:=oi H;dsimp only at Gj1;obtain rfl:=oi Gj1;have H:=hz
    obtain rfl:=oi H
    refine Kp [8] ?_
    exact V1 gs_W0 M8
   refine Wsk ?_
   show K1 _ _
   refine kE [0] fun a' ha=>?_
   replace H:=oi H
   refine hJ1 _ _ _ H.symm ?_;rw[ha]
   exact R1 (M5+9)
  obtain⟨j3,hj3,H⟩:=bE H
  refine kP (kN fun K2 hK2=>?_)
  have hJ3:∀a J,Rc G 57 N0 (fun a J=>∃M9:Nat,N0<=M9/\a=[(0,.ptr w0 r0_ 0),(1,.int .i64 p1),(10,.int .i64 r4.1),(38,.bool j3)]/\J=hp E0 [(w0,some ⟨105,2,W0.set r0_ [.fsl (eL rU8 r4.2.b),.int .i64 r4.2.p]⟩)] M9) (a.keep [0,1,10,38]) J->K2 a J:=by
   rintro a J ⟨b,U,hr,M9,fM9_0,rfl,rfl⟩
   refine hK2 _ _ (kG [0,1,10,38] (Wre hr ?_))
   refine Ci H ?_ ?_<;>intro H
   .obtain⟨r11,hr11,H⟩:=bE H
    have q3:∀J i,bsA T 124 true i 1 [(0,.agg [.int .i64 r11.1.Kind,.int .i64 r11.1.Var,.int .i64 r11.1.Box,.int .i64 r11.1.Expr.Op,.int .i64 r11.1.Expr.N,.fsl (eL rExpr r11.1.Expr.Args),.fsl (eL rStmt r11.1.Body),.fsl (eL rStmt r11.1.Else)])] J=some (.fsl (eL rStmt ([r11.1]:List gStmt)),J):=by intro _ _;simp only[eL,List.map_cons,List.map_nil,xI];rfl
    refine Sm tok [3] [8] (M9+5) (by
     intro K k
     refine m2 gs_W0 q3 ?_
     refine mc (j gs_W0 q3) (c149 (r0_:=r0_) (H:=hr11)) fun M10 fM10_0=>?_
     refine m1 (j gs_W0 (j q3 (j @hoS @hoN))) ?_
     exact k M10 (by omega)) fun M10 fM10_0=>?_
    obtain⟨z,hz,H⟩:=bE H
    obtain rfl:=oi H;dsimp only at Gj1;obtain rfl:=oi Gj1;have H:=hz
    obtain rfl:=oi H
    refine Kp [8] ?_
    exact V1 gs_W0 M10
   refine qB [0,46] gs_W0 ?_
   refine Ci H ?_ ?_<;>intro H
   .have q4:∀J i,bsA T 124 true i 1 [(0,.agg [.int .i64 6,.int .i64 0,.int .i64 0,.int .i64 0,.int .i64 0,.fsl [],.fsl [],.fsl []])] J=some (.fsl (eL rStmt ([(⟨6,0,0,(⟨0,0,([]:List gExpr)⟩:gExpr),([]:List gStmt),([]:List gStmt)⟩:gStmt)]:List gStmt)),J):=by intro _ _;simp only[eL,List.map_cons,List.map_nil,xI];rfl
    refine Sz tok [1] [8] gs_W0 q4 ?_
    obtain⟨z,hz,H⟩:=bE H
    cases oj H;dsimp only at Gj1;obtain rfl:=oi Gj1;have H:=hz
    cases oj H
    refine Kp [8] ?_
    exact V1 gs_W0 (M9+5)
   refine Wsk ?_
   show K1 _ _
   refine kE [0] fun a' ha=>?_
   replace H:=oi H
   refine hJ1 _ _ _ H.symm ?_;rw[ha]
   exact R1 (M9+2)
  replace H:=hj3
  refine qB [0,1,10,38] gs_W0 ?_
  refine Ci H ?_ ?_<;>intro H
  .refine Wsk ?_
   show K2 _ _
   refine kE [0,1,10,38] fun a' ha=>?_
   cases oj H
   refine hJ3 _ _ ?_;rw[ha]
   exact R1 (M5+6)
  refine qB [0,1,10,38] gs_W0 ?_
  refine Ci H ?_ ?_<;>intro H
  .refine Wsk ?_
   show K2 _ _
   refine kE [0,1,10,38] fun a' ha=>?_
   cases oj H
   refine hJ3 _ _ ?_;rw[ha]
   exact R1 (M5+8)
  refine Rt tok [] [0,1,10,38] (by intro K k;simp -dsimp -implicitDefEqProofs [gs_W0];exact k) fun a ha=>?_
  cases oj H
  refine hJ3 _ _ ?_;rw[ha]
  exact R1 (M5+10)
 replace H:=hj2
 refine qB [0,1,2,3,10,11] gs_W0 ?_
 refine Ci H ?_ ?_<;>intro H
 .refine Wsk ?_
  show K3 _ _
  refine kE [0,1,2,3,10,11] fun a' ha=>?_
  cases oj H
  refine hJ2 _ _ ?_;rw[ha]
  exact R1 (M4+2)
 refine Rt tok [] [0,1,2,3,10,11] (by intro K k;simp -dsimp -implicitDefEqProofs [gs_W0];exact k) fun a ha=>?_
 cases oj H
 refine hJ2 _ _ ?_;rw[ha]
 exact R1 (M4+4)

theorem c116R:∀n:Nat,c116Q ((zC n).1)/\c147Q ((zC n).2.1)/\c116_oQ ((zC n).2.2.1)/\c148Q ((zC n).2.2.2.1)/\c129Q ((zC n).2.2.2.2):=by
 intro n;induction n with
 |zero=>exact⟨by intro p0 p1 p2 p3 p4 r H;exact absurd H (by simp[zC]),by intro p0 p1 p2 p3 r H;exact absurd H (by simp[zC]),by intro p0 p1 p2 p3 p4 r H;exact absurd H (by simp[zC]),by intro p0 p1 p2 r H;exact absurd H (by simp[zC]),by intro p0 p1 p2 p3 r H;exact absurd H (by simp[zC])⟩
 |succ n ih=>exact⟨by intro p0 p1 p2 p3 p4 r H;exact c116B (hFr2:=ih.1) (hFr3:=ih.2.1) (hFr5:=ih.2.2.1) (hFr6:=ih.2.2.2.1) (hFr4:=ih.2.2.2.2) H,by intro p0 p1 p2 p3 r H;exact c147B (hFr2:=ih.1) (hFr3:=ih.2.1) (hFr5:=ih.2.2.1) (hFr6:=ih.2.2.2.1) (hFr4:=ih.2.2.2.2) H,by intro p0 p1 p2 p3 p4 r H;exact c116_oB (hFr2:=ih.1) (hFr3:=ih.2.1) (hFr5:=ih.2.2.1) (hFr6:=ih.2.2.2.1) (hFr4:=ih.2.2.2.2) H,by intro p0 p1 p2 r H;exact c148B (hFr2:=ih.1) (hFr3:=ih.2.1) (hFr5:=ih.2.2.1) (hFr6:=ih.2.2.2.1) (hFr4:=ih.2.2.2.2) H,by intro p0 p1 p2 p3 r H;exact c129B (hFr2:=ih.1) (hFr3:=ih.2.1) (hFr5:=ih.2.2.1) (hFr6:=ih.2.2.2.1) (hFr4:=ih.2.2.2.2) H⟩

theorem c116 {p0:gL6Rd}{p1:Int}{p2:Int}{p3:Int}{p4:Bool}{r:(List gStmt)×gL6Rd}(H:dJ p0 p1 p2 p3 p4=some r){J:AHeap}{w0:Nat}{W0:List (List AV)}{r0_:Nat}(q0:J.objs w0=some ⟨105,2,W0⟩)(g0:W0[r0_]? =some [.fsl (eL rU8 p0.b),.int .i64 p0.p]):ACalls Tryz.prog G 116 [.ptr w0 r0_ 0,.int .i64 p1,.int .i64 p2,.int .i64 p3,.bool p4] J (fun v J'=>∃M:Nat,J.next<=M/\v=.fsl (eL rStmt r.1)/\J'=hp J.objs [(w0,some ⟨105,2,W0.set r0_ [.fsl (eL rU8 r.2.b),.int .i64 r.2.p]⟩)] M):=by
 unfold dJ at H
 obtain⟨n,H⟩:=tU H
 exact(c116R n).1 H q0 g0

abbrev c117Q (F:(List gStmt)->Option (Int)):Prop:=∀{p0:List gStmt} {r:Int} (H:F p0=some r),APure Tryz.prog G 117 [.fsl (eL rStmt p0)] (.int .i64 r)


theorem c117B {Fr7:(List gStmt)->Option (Int)}(hFr7:c117Q Fr7){p0:List gStmt}{r:Int}(H:jG Fr7 p0=some r):APure Tryz.prog G 117 [.fsl (eL rStmt p0)] (.int .i64 r):=by
 refine qK func117 ntmps117 results117 fun N0=>?_
 unfold jG at H
 refine qA [0] ?_
 refine qA [0,3] ?_
 refine Wsq [3] fun K1 hK1=>?_
 refine qA [0,3,4] ?_
 refine Wb ?_
 obtain⟨e1,hse1,H⟩:=bE H
 refine zR [0,3,4] (fun s a J=>∃M1:Nat,N0<=M1/\a=[(0,.fsl (eL rStmt p0)),(3,.int .i64 s.1),(4,.int .i64 s.2)]/\J=hp E0 [] M1) (fun s x a J=>x=.exit 0/\Rc G 28 N0 (fun a J=>∃M2:Nat,N0<=M2/\a=[(3,.int .i64 s)]/\J=hp E0 [] M2) (AAct.keep a [3]) J) hse1 ?_ ?_ ?_
 .refine kp [0,3,4] ?_
  exact R1 (N0+3)
 .clear H hse1
  rintro⟨s1,s2⟩ fl a J H ⟨M1,fM1_0,rfl,rfl⟩ K2 O2 hK2 hO2
  unfold uQ at H;dsimp only at H
  refine Wsq [0,3,4] fun K3 hK3=>?_
  refine qA [0,3,4,8] ?_
  refine Ci H ?_ ?_<;>intro H
  .refine Js hK3 ?_
   refine Wsq [0,3,4] fun K4 hK4=>?_
   refine Wb ?_
   obtain⟨v4,hv4,H⟩:=bE H
   obtain⟨r5,hr5,H⟩:=bE H
   obtain⟨r6,hr6,H⟩:=bE H
   refine oF tok tokM [] [] [0,1,2,3,4,5,6,7,8,9,10,11,12,13,14,15,16] [0,3,4] (fun a J=>a=[(0,.fsl (eL rStmt p0)),(3,.int .i64 (iadd .i64 (iadd .i64 (iadd .i64 s1 1) r5) r6)),(4,.int .i64 s2)]/\J=hp E0 [] (M1+21)) (by decide) (fun K hK=>?_) ?_
   .simp only[pickL,zJ,zL]
    refine m1 (ix124 hv4) ?_
    refine Pc.mk (hFr7 hr5) (m1 (ix124 hv4) ?_)
    refine Pc.mk (hFr7 hr6) (m1 (ix124 hv4) ?_)
    exact hK _ _ ⟨rfl,rfl⟩
   rintro a J ⟨ha,rfl⟩
   refine hK4 _ _ ?_;rw[ha]
   refine Rc.mk ?_
   obtain rfl:=oi H
   refine qI hK2 ?_
   exact R1 (M1+24)
  cases oj H
  refine zK (hO2 _ _ _ _ rfl ⟨rfl,?_⟩)
  refine kr ?_
  exact R1 (M1+4)
 intro x a J hx
 obtain⟨y3,rfl⟩:∃x,x=e1:=⟨_,rfl⟩
 obtain⟨rfl,b,U,hr,M2,fM2_0,rfl,rfl⟩:=hx
 (try dsimp only at H)
 show K1 _ _
 refine hK1 _ _ (zH hr ?_)
 refine Rc.mk ?_
 refine qA [2] ?_
 cases oj H;exact W4

theorem c117R:∀n:Nat,c117Q (kX n):=by
 intro n;induction n with
 |zero=>exact by intro p0 r H;exact absurd H (by simp[kX])
 |succ n ih=>exact by intro p0 r H;exact c117B (hFr7:=ih) H

theorem c117 {p0:List gStmt}{r:Int}(H:jQ p0=some r):APure Tryz.prog G 117 [.fsl (eL rStmt p0)] (.int .i64 r):=by
 unfold jQ at H
 obtain⟨n,H⟩:=tU H
 exact(c117R n) H

theorem c100 {p0:gL6Rd}{p1:Int}{r:(List gStmt)×gL6Rd}(H:qQ p0 p1=some r){J:AHeap}{w0:Nat}{W0:List (List AV)}{r0_:Nat}(q0:J.objs w0=some ⟨105,2,W0⟩)(g0:W0[r0_]? =some [.fsl (eL rU8 p0.b),.int .i64 p0.p]):ACalls Tryz.prog G 100 [.ptr w0 r0_ 0,.int .i64 p1] J (fun v J'=>∃M:Nat,J.next<=M/\v=.fsl (eL rStmt r.1)/\J'=hp J.objs [(w0,some ⟨105,2,W0.set r0_ [.fsl (eL rU8 r.2.b),.int .i64 r.2.p]⟩)] M):=by
 refine fr1 ([(w0,some ⟨105,2,W0⟩)]) (by simp[q0]) (fun hlt=>?_) ⟨_,func100,rfl,rfl⟩
 generalize J.next=N0 at hlt ⊢
 have lw0:w0<N0:=hlt _ (.head _) rfl
 have gs_W0:∀x,(W0.set r0_ x)[r0_]? =some x:=gsetW g0
 rw[<- kC g0]
 refine fnK tok func100 ntmps100 results100 ?_
 simp only[argsA,Nat.reduceAdd,hpN]
 unfold qQ at H
 refine qB [0,1] gs_W0 ?_
 obtain⟨r1,hr1,H⟩:=bE H
 obtain⟨r2,hr2,H⟩:=bE H
 refine Sm tok [] [5] (N0+8) (by
  intro K k
  refine m1 gs_W0 ?_
  refine mc gs_W0 (c41 (r0_:=r0_) (H:=hr1)) fun M1 fM1_0=>?_
  refine m1 (j gs_W0 (j @hoS @hoN)) ?_
  refine mc (j gs_W0 (j @hoS @hoN)) (c116 (r0_:=r0_) (H:=hr2)) fun M2 fM2_0=>?_
  refine m1 (j gs_W0 (j @hoS @hoN)) ?_
  exact k M2 (by omega)) fun M2 fM2_0=>?_
 refine Wsq [5] fun K1 hK1=>?_
 refine Wb ?_
 obtain⟨e1,hse1,H⟩:=bE H
 refine zR [5] (fun s a J=>∃M3:Nat,N0<=M3/\a=[(5,.fsl (eL rStmt s.1))]/\J=hp E0 [(w0,some ⟨105,2,W0.set r0_ [.fsl (eL rU8 s.2.b),.int .i64 s.2.p]⟩)] M3) (fun s x a J=>x=.exit 0/\Rc G 21 N0 (fun a J=>∃M4:Nat,N0<=M4/\a=[(5,.fsl (eL rStmt s.1))]/\J=hp E0 [(w0,some ⟨105,2,W0.set r0_ [.fsl (eL rU8 s.2.b),.int .i64 s.2.p]⟩)] M4) (AAct.keep a [5]) J) hse1 ?_ ?_ ?_
 .refine kp [5] ?_
  exact R1 M2
 .clear H hse1
  rintro⟨s3,s4⟩ fl a J H ⟨M3,fM3_0,rfl,rfl⟩ K2 O2 hK2 hO2
  unfold nB at H;dsimp only at H
  refine Wsq [5] fun K3 hK3=>?_
  obtain⟨r7,hr7,H⟩:=bE H
  refine qE [5,14] gs_W0 (c117 hr7) ?_
  refine Ci H ?_ ?_<;>intro H
  .refine Js hK3 ?_
   refine Wb ?_
   obtain⟨l8,hl8,H⟩:=bE H
   obtain rfl:=oi H
   refine qJ (j gs_W0 (cuth_124 hl8)) hK2 ?_
   exact R1 (M3+9)
  cases oj H
  refine zK (hO2 _ _ _ _ rfl ⟨rfl,?_⟩)
  refine kr ?_
  exact R1 (M3+3)
 intro x a J hx
 obtain⟨y5,y6⟩:=e1
 obtain⟨rfl,b,U,hr,M4,fM4_0,rfl,rfl⟩:=hx
 (try dsimp only at H)
 show K1 _ _
 refine hK1 _ _ (zH hr ?_)
 refine Rc.mk ?_
 refine qB [4] gs_W0 ?_
 obtain rfl:=oi H
 refine Kp [4] ?_
 exact V1 gs_W0 (M4+2)

theorem c66 {p0:Int}{p1:Int}{p2:Int}{r:Bool}(H:kW p0 p1 p2=some r):APure Tryz.prog G 66 [.int .i64 p0,.int .i64 p1,.int .i64 p2] (.bool r):=by
 refine qK func66 ntmps66 results66 fun N0=>?_
 unfold kW at H
 refine qA [0,1,2] ?_
 obtain⟨g1,hg1,H⟩:=bE H
 refine qF tok [6] ([(6,.bool g1)]) (hp E0 [] (N0+10)) (by
  intro K k
  refine m0 ?_
  cases hbg1:ige p0 p1
  .cases oj (ifF hbg1 hg1)
   exact m1 hbg1 k
  cases oj (ifT hbg1 hg1)
  refine m1 hbg1 ?_
  exact k) ?_
 cases oj H;exact W4

theorem c164 {p0:gStmt}{p1:Bool}{r:Bool}(H:yR p0 p1=some r):APure Tryz.prog G 164 [.agg [.int .i64 p0.Kind,.int .i64 p0.Var,.int .i64 p0.Box,.int .i64 p0.Expr.Op,.int .i64 p0.Expr.N,.fsl (eL rExpr p0.Expr.Args),.fsl (eL rStmt p0.Body),.fsl (eL rStmt p0.Else)],.bool p1] (.bool r):=by
 refine qK func164 ntmps164 results164 fun N0=>?_
 unfold yR at H
 refine S0 tok [0] [1,2] ?_
 refine Wsq [2] fun K1 hK1=>?_
 refine qA [2,5] ?_
 refine Ci H ?_ ?_<;>intro H
 .obtain⟨r1,hr1,H⟩:=bE H
  refine qD [4] (c66 hr1) ?_
  cases oj H;exact W4
 refine Js hK1 ?_
 refine qA [4] ?_
 cases oj H;exact W4

theorem c165 {p0:gStmt}{p1:Bool}{r:Bool}(H:yS p0 p1=some r):APure Tryz.prog G 165 [.agg [.int .i64 p0.Kind,.int .i64 p0.Var,.int .i64 p0.Box,.int .i64 p0.Expr.Op,.int .i64 p0.Expr.N,.fsl (eL rExpr p0.Expr.Args),.fsl (eL rStmt p0.Body),.fsl (eL rStmt p0.Else)],.bool p1] (.bool r):=by
 refine qK func165 ntmps165 results165 fun N0=>?_
 unfold yS at H
 refine S0 tok [0] [1,2] ?_
 refine Wsq [2] fun K1 hK1=>?_
 refine qA [2,5] ?_
 refine Ci H ?_ ?_<;>intro H
 .obtain⟨r1,hr1,H⟩:=bE H
  refine qD [4] (c66 hr1) ?_
  cases oj H;exact W4
 refine Js hK1 ?_
 refine qA [4] ?_
 cases oj H;exact W4

theorem c136 {p0:Int}{r:Bool}(H:wK p0=some r):APure Tryz.prog G 136 [.int .i64 p0] (.bool r):=by
 refine qK func136 ntmps136 results136 fun N0=>?_
 unfold wK at H
 refine qA [0] ?_
 obtain⟨r1,hr1,H⟩:=bE H
 refine qD [2] (c66 hr1) ?_
 cases oj H;exact W4

abbrev c179Q (F:gExpr->Int->Option (Bool)):Prop:=∀{p0:gExpr} {p1:Int} {r:Bool} (H:F p0 p1=some r),APure Tryz.prog G 179 [.agg [.int .i64 p0.Op,.int .i64 p0.N,.fsl (eL rExpr p0.Args)],.int .i64 p1] (.bool r)


theorem c179B {Fr8:gExpr->Int->Option (Bool)}(hFr8:c179Q Fr8){p0:gExpr}{p1:Int}{r:Bool}(H:fK Fr8 p0 p1=some r):APure Tryz.prog G 179 [.agg [.int .i64 p0.Op,.int .i64 p0.N,.fsl (eL rExpr p0.Args)],.int .i64 p1] (.bool r):=by
 refine qK func179 ntmps179 results179 fun N0=>?_
 unfold fK at H
 refine S0 tok [0] [1,2] ?_
 refine Wsq [1,2] fun K1 hK1=>?_
 refine qA [1,2,6] ?_
 refine Ci H ?_ ?_<;>intro H
 .refine qA [4] ?_
  cases oj H;exact W4
 refine Js hK1 ?_
 refine Wsq [1,2] fun K2 hK2=>?_
 refine qA [1,2,9] ?_
 refine Ci H ?_ ?_<;>intro H
 .obtain⟨r1,hr1,H⟩:=bE H
  obtain⟨g2,hg2,H⟩:=bE H
  refine qF tok [4] ([(4,.bool g2)]) (hp E0 [] (N0+17)) (by
   intro K k
   refine m0 ?_
   refine(c66 hr1).app (m0 ?_)
   cases hbg2:r1
   .cases oj (ifF hbg2 hg2)
    exact m1 hbg2 k
   cases oj (ifT hbg2 hg2)
   refine m1 hbg2 ?_
   exact k) ?_
  cases oj H;exact W4
 refine Js hK2 ?_
 refine Wsq [1,2] fun K3 hK3=>?_
 refine qA [1,2,21] ?_
 refine Ci H ?_ ?_<;>intro H
 .obtain⟨r3,hr3,H⟩:=bE H
  obtain⟨g4,hg4,H⟩:=bE H
  refine qF tok [4] ([(4,.bool g4)]) (hp E0 [] (N0+20)) (by
   intro K k
   refine m0 ?_
   refine(c66 hr3).app (m0 ?_)
   cases hbg4:r3
   .cases oj (ifF hbg4 hg4)
    exact m1 hbg4 k
   cases oj (ifT hbg4 hg4)
   refine m1 hbg4 ?_
   exact k) ?_
  cases oj H;exact W4
 refine Js hK3 ?_
 obtain⟨r5,hr5,H⟩:=bE H
 obtain⟨g6,hg6,H⟩:=bE H
 obtain⟨g7,hg7,H⟩:=bE H
 obtain⟨g10,hg10,H⟩:=bE H
 obtain⟨g13,hg13,H⟩:=bE H
 refine qF tok [4] ([(4,.bool g13)]) (hp E0 [] (N0+43)) (by
  intro K k
  refine m0 ?_
  refine(c136 hr5).app (m0 ?_)
  cases hbg6:r5
  .cases oj (ifF hbg6 hg6)
   cases oj (ifF rfl hg7)
   cases oj (ifF rfl hg10)
   cases oj (ifF rfl hg13)
   exact m1 hbg6 k
  cases oj (ifT hbg6 hg6)
  refine m1 hbg6 ?_
  cases hbg7:(ieq p0.N 0)
  .cases oj (ifF hbg7 hg7)
   cases oj (ifF rfl hg10)
   cases oj (ifF rfl hg13)
   exact m2 hbg6 hbg7 k
  cases oj (ifT hbg7 hg7)
  refine m2 hbg6 hbg7 ?_
  cases hbg10:(ieq (ilen p0.Args) 2)
  .cases oj (ifF hbg10 hg10)
   cases oj (ifF rfl hg13)
   exact m1 (j hbg6 (j hbg7 hbg10)) k
  replace hg10:=ifT hbg10 hg10
  obtain⟨v8,hv8,hg10⟩:=bE hg10
  obtain⟨r9,hr9,hg10⟩:=bE hg10
  obtain rfl:=oi hg10
  refine m1 (j hbg6 (j hbg7 (j hbg10 (ix147 hv8)))) ?_
  refine(hFr8 hr9).app (m1 (j hbg6 (j hbg7 (j hbg10 (ix147 hv8)))) ?_)
  cases hbg13:r9
  .cases oj (ifF hbg13 hg13)
   exact m1 (j hbg6 (j hbg7 (j hbg10 (j (ix147 hv8) hbg13)))) k
  replace hg13:=ifT hbg13 hg13
  obtain⟨v11,hv11,hg13⟩:=bE hg13
  obtain⟨r12,hr12,hg13⟩:=bE hg13
  cases oj hg13
  refine m1 (j hbg6 (j hbg7 (j hbg10 (j (ix147 hv8) (j hbg13 (ix147 hv11)))))) ?_
  refine(hFr8 hr12).app (m1 (j hbg6 (j hbg7 (j hbg10 (j (ix147 hv8) (j hbg13 (ix147 hv11)))))) ?_)
  exact k) ?_
 cases oj H;exact W4

theorem c179R:∀n:Nat,c179Q (hP n):=by
 intro n;induction n with
 |zero=>exact by intro p0 p1 r H;exact absurd H (by simp[hP])
 |succ n ih=>exact by intro p0 p1 r H;exact c179B (hFr8:=ih) H

theorem c179 {p0:gExpr}{p1:Int}{r:Bool}(H:s_l4Ok p0 p1=some r):APure Tryz.prog G 179 [.agg [.int .i64 p0.Op,.int .i64 p0.N,.fsl (eL rExpr p0.Args)],.int .i64 p1] (.bool r):=by
 unfold s_l4Ok at H
 obtain⟨n,H⟩:=tU H
 exact(c179R n) H

theorem c166 {p0:gExpr}{r:Bool}(H:jH p0=some r):APure Tryz.prog G 166 [.agg [.int .i64 p0.Op,.int .i64 p0.N,.fsl (eL rExpr p0.Args)]] (.bool r):=by
 refine qK func166 ntmps166 results166 fun N0=>?_
 unfold jH at H
 refine S0 tok [0] [1] ?_
 obtain⟨r1,hr1,H⟩:=bE H
 refine qD [2] (c179 hr1) ?_
 cases oj H;exact W4

theorem c178 {p0:gExpr}{r:Bool}(H:jP p0=some r):APure Tryz.prog G 178 [.agg [.int .i64 p0.Op,.int .i64 p0.N,.fsl (eL rExpr p0.Args)]] (.bool r):=by
 refine qK func178 ntmps178 results178 fun N0=>?_
 unfold jP at H
 refine S0 tok [0] [1] ?_
 obtain⟨g1,hg1,H⟩:=bE H
 obtain⟨g2,hg2,H⟩:=bE H
 refine qF tok [2] ([(2,.bool g2)]) (hp E0 [] (N0+17)) (by
  intro K k
  refine m0 ?_
  cases hbg1:ieq p0.Op 0
  .cases oj (ifF hbg1 hg1)
   cases oj (ifF rfl hg2)
   exact m1 hbg1 k
  cases oj (ifT hbg1 hg1)
  refine m1 hbg1 ?_
  cases hbg2:(ieq p0.N 0)
  .cases oj (ifF hbg2 hg2)
   exact m2 hbg1 hbg2 k
  cases oj (ifT hbg2 hg2)
  refine m2 hbg1 hbg2 ?_
  exact k) ?_
 cases oj H;exact W4

theorem c163 {p0:gStmt}{r:Bool}(H:jF p0=some r):APure Tryz.prog G 163 [.agg [.int .i64 p0.Kind,.int .i64 p0.Var,.int .i64 p0.Box,.int .i64 p0.Expr.Op,.int .i64 p0.Expr.N,.fsl (eL rExpr p0.Expr.Args),.fsl (eL rStmt p0.Body),.fsl (eL rStmt p0.Else)]] (.bool r):=by
 refine qK func163 ntmps163 results163 fun N0=>?_
 unfold jF at H
 refine S0 tok [0] [1] ?_
 refine Wsq [1] fun K1 hK1=>?_
 obtain⟨g1,hg1,H⟩:=bE H
 refine qF tok [1,12] ([(1,.fptr [.int .i64 p0.Kind,.int .i64 p0.Var,.int .i64 p0.Box,.int .i64 p0.Expr.Op,.int .i64 p0.Expr.N,.fsl (eL rExpr p0.Expr.Args),.fsl (eL rStmt p0.Body),.fsl (eL rStmt p0.Else)] 0),(12,.bool g1)]) (hp E0 [] (N0+12)) (by
  intro K k
  refine m0 ?_
  cases hbg1:igt (ilen p0.Body) 0
  .cases oj (ifF hbg1 hg1)
   exact m1 hbg1 k
  cases oj (ifT hbg1 hg1)
  refine m1 hbg1 ?_
  exact k) ?_
 refine Ci H ?_ ?_<;>intro H
 .refine qA [2] ?_
  cases oj H;exact W4
 refine Js hK1 ?_
 refine Wsq [] fun K2 hK2=>?_
 refine qA [1,14] ?_
 refine Wb ?_
 refine qA [1,14,15] ?_
 refine Ci H ?_ ?_<;>intro H
 .obtain⟨r2,hr2,H⟩:=bE H
  obtain⟨g4,hg4,H⟩:=bE H
  obtain⟨g6,hg6,H⟩:=bE H
  refine qF tok [2] ([(2,.bool g6)]) (hp E0 [] (N0+28)) (by
   intro K k
   refine m0 ?_
   refine(c164 hr2).app (m0 ?_)
   cases hbg4:r2
   .cases oj (ifF hbg4 hg4)
    cases oj (ifF rfl hg6)
    exact m1 hbg4 k
   replace hg4:=ifT hbg4 hg4
   obtain⟨r3,hr3,hg4⟩:=bE hg4
   obtain rfl:=oi hg4
   refine m1 hbg4 ?_
   refine(c165 hr3).app (m1 hbg4 ?_)
   cases hbg6:r3
   .cases oj (ifF hbg6 hg6)
    exact m2 hbg4 hbg6 k
   replace hg6:=ifT hbg6 hg6
   obtain⟨r5,hr5,hg6⟩:=bE hg6
   cases oj hg6
   refine m2 hbg4 hbg6 ?_
   refine(c166 hr5).app (m2 hbg4 hbg6 ?_)
   exact k) ?_
  cases oj H;exact W4
 refine qA [1,14,28] ?_
 refine Ci H ?_ ?_<;>intro H
 .obtain⟨r7,hr7,H⟩:=bE H
  obtain⟨g9,hg9,H⟩:=bE H
  obtain⟨g11,hg11,H⟩:=bE H
  refine qF tok [2] ([(2,.bool g11)]) (hp E0 [] (N0+30)) (by
   intro K k
   refine m0 ?_
   refine(c164 hr7).app (m0 ?_)
   cases hbg9:r7
   .cases oj (ifF hbg9 hg9)
    cases oj (ifF rfl hg11)
    exact m1 hbg9 k
   replace hg9:=ifT hbg9 hg9
   obtain⟨r8,hr8,hg9⟩:=bE hg9
   obtain rfl:=oi hg9
   refine m1 hbg9 ?_
   refine(c165 hr8).app (m1 hbg9 ?_)
   cases hbg11:r8
   .cases oj (ifF hbg11 hg11)
    exact m2 hbg9 hbg11 k
   replace hg11:=ifT hbg11 hg11
   obtain⟨r10,hr10,hg11⟩:=bE hg11
   cases oj hg11
   refine m2 hbg9 hbg11 ?_
   refine(c166 hr10).app (m2 hbg9 hbg11 ?_)
   exact k) ?_
  cases oj H;exact W4
 refine qA [1,14,41] ?_
 refine Ci H ?_ ?_<;>intro H
 .obtain⟨r12,hr12,H⟩:=bE H
  obtain⟨g14,hg14,H⟩:=bE H
  obtain⟨g16,hg16,H⟩:=bE H
  refine qF tok [2] ([(2,.bool g16)]) (hp E0 [] (N0+32)) (by
   intro K k
   refine m0 ?_
   refine(c164 hr12).app (m0 ?_)
   cases hbg14:r12
   .cases oj (ifF hbg14 hg14)
    cases oj (ifF rfl hg16)
    exact m1 hbg14 k
   replace hg14:=ifT hbg14 hg14
   obtain⟨r13,hr13,hg14⟩:=bE hg14
   obtain rfl:=oi hg14
   refine m1 hbg14 ?_
   refine(c165 hr13).app (m1 hbg14 ?_)
   cases hbg16:r13
   .cases oj (ifF hbg16 hg16)
    exact m2 hbg14 hbg16 k
   replace hg16:=ifT hbg16 hg16
   obtain⟨r15,hr15,hg16⟩:=bE hg16
   cases oj hg16
   refine m2 hbg14 hbg16 ?_
   refine(c178 hr15).app (m2 hbg14 hbg16 ?_)
   exact k) ?_
  cases oj H;exact W4
 refine qA [1,14,54] ?_
 refine Ci H ?_ ?_<;>intro H
 .obtain⟨r17,hr17,H⟩:=bE H
  obtain⟨g19,hg19,H⟩:=bE H
  obtain⟨g21,hg21,H⟩:=bE H
  refine qF tok [2] ([(2,.bool g21)]) (hp E0 [] (N0+34)) (by
   intro K k
   refine m0 ?_
   refine(c164 hr17).app (m0 ?_)
   cases hbg19:r17
   .cases oj (ifF hbg19 hg19)
    cases oj (ifF rfl hg21)
    exact m1 hbg19 k
   replace hg19:=ifT hbg19 hg19
   obtain⟨r18,hr18,hg19⟩:=bE hg19
   obtain rfl:=oi hg19
   refine m1 hbg19 ?_
   refine(c165 hr18).app (m1 hbg19 ?_)
   cases hbg21:r18
   .cases oj (ifF hbg21 hg21)
    exact m2 hbg19 hbg21 k
   replace hg21:=ifT hbg21 hg21
   obtain⟨r20,hr20,hg21⟩:=bE hg21
   cases oj hg21
   refine m2 hbg19 hbg21 ?_
   refine(c178 hr20).app (m2 hbg19 hbg21 ?_)
   exact k) ?_
  cases oj H;exact W4
 refine qA [1,67] ?_
 refine Ci H ?_ ?_<;>intro H
 .obtain⟨r22,hr22,H⟩:=bE H
  obtain⟨g24,hg24,H⟩:=bE H
  obtain⟨g26,hg26,H⟩:=bE H
  refine qF tok [2] ([(2,.bool g26)]) (hp E0 [] (N0+36)) (by
   intro K k
   refine m0 ?_
   refine(c164 hr22).app (m0 ?_)
   cases hbg24:r22
   .cases oj (ifF hbg24 hg24)
    cases oj (ifF rfl hg26)
    exact m1 hbg24 k
   replace hg24:=ifT hbg24 hg24
   obtain⟨r23,hr23,hg24⟩:=bE hg24
   obtain rfl:=oi hg24
   refine m1 hbg24 ?_
   refine(c165 hr23).app (m1 hbg24 ?_)
   cases hbg26:r23
   .cases oj (ifF hbg26 hg26)
    exact m2 hbg24 hbg26 k
   replace hg26:=ifT hbg26 hg26
   obtain⟨r25,hr25,hg26⟩:=bE hg26
   cases oj hg26
   refine m2 hbg24 hbg26 ?_
   refine(c166 hr25).app (m2 hbg24 hbg26 ?_)
   exact k) ?_
  cases oj H;exact W4
 refine Js hK2 ?_
 refine qA [2] ?_
 cases oj H;exact W4

abbrev c127Q (F:(List gStmt)->Int->Option (Bool)):Prop:=∀{p0:List gStmt} {p1:Int} {r:Bool} (H:F p0 p1=some r),APure Tryz.prog G 127 [.fsl (eL rStmt p0),.int .i64 p1] (.bool r)


abbrev c142Q (F:gStmt->Int->Option (Bool)):Prop:=∀{p0:gStmt} {p1:Int} {r:Bool} (H:F p0 p1=some r),APure Tryz.prog G 142 [.agg [.int .i64 p0.Kind,.int .i64 p0.Var,.int .i64 p0.Box,.int .i64 p0.Expr.Op,.int .i64 p0.Expr.N,.fsl (eL rExpr p0.Expr.Args),.fsl (eL rStmt p0.Body),.fsl (eL rStmt p0.Else)],.int .i64 p1] (.bool r)


theorem c127B {Fr9:(List gStmt)->Int->Option (Bool)}{Fr10:gStmt->Int->Option (Bool)}(hFr9:c127Q Fr9)(hFr10:c142Q Fr10){p0:List gStmt}{p1:Int}{r:Bool}(H:wI Fr9 Fr10 p0 p1=some r):APure Tryz.prog G 127 [.fsl (eL rStmt p0),.int .i64 p1] (.bool r):=by
 refine qK func127 ntmps127 results127 fun N0=>?_
 unfold wI at H
 refine qA [0,1] ?_
 refine Wsq [] fun K1 hK1=>?_
 refine qA [0,1,5] ?_
 refine Wb ?_
 obtain⟨e1,hse1,H⟩:=bE H
 refine zR [0,1,5] (fun s a J=>∃M1:Nat,N0<=M1/\a=[(0,.fsl (eL rStmt p0)),(1,.int .i64 p1),(5,.int .i64 s)]/\J=hp E0 [] M1) (fun e x a J=>match e with|.inl s=>x=.exit 0/\Rc G 19 N0 (fun a J=>∃M2:Nat,N0<=M2/\a=[]/\J=hp E0 [] M2) (AAct.keep a []) J|.inr s=>x=.ret/\∃vs,resA T J a [.tmp 4]=some vs/\∃d,thawA (fun _=>true) J d (tupA vs)=.bool s) hse1 ?_ ?_ ?_
 .refine kp [0,1,5] ?_
  exact R1 (N0+2)
 .clear H hse1
  rintro s1 fl a J H ⟨M1,fM1_0,rfl,rfl⟩ K2 O2 hK2 hO2
  unfold sV at H;dsimp only at H
  refine Wsq [0,1,5] fun K3 hK3=>?_
  refine qA [0,1,5,9] ?_
  refine Ci H ?_ ?_<;>intro H
  .refine Js hK3 ?_
   refine Wsq [0,1,5] fun K4 hK4=>?_
   refine Wb ?_
   obtain⟨v2,hv2,H⟩:=bE H
   obtain⟨r3,hr3,H⟩:=bE H
   refine qE [0,1,5,18] (ix124 hv2) (hFr10 hr3) ?_
   refine Ci H ?_ ?_<;>intro H
   .refine qA [4] ?_
    cases oj H
    refine Kp [4] ?_
    refine Wr (hO2 _ _ _ _ rfl ⟨rfl,?_⟩)
    exact⟨[.bool false],by simp,4,by simp[eN]⟩
   refine Js hK4 ?_
   obtain rfl:=oi H
   refine qI hK2 ?_
   exact R1 (M1+14)
  cases oj H
  refine zK (hO2 _ _ _ _ rfl ⟨rfl,?_⟩)
  refine kr ?_
  exact R1 (M1+4)
 intro x a J hx
 rcases e1 with⟨⟩|r0
 .obtain⟨rfl,b,U,hr,M2,fM2_0,rfl,rfl⟩:=hx
  (try dsimp only at H)
  show K1 _ _
  refine hK1 _ _ (zH hr ?_)
  refine Rc.mk ?_
  refine qA [4] ?_
  cases oj H;exact W4
 obtain⟨rfl,hx2⟩:=hx
 (try dsimp only at H)
 cases oj H;first|exact hx2|(simp only[List.set_set] at hx2 ⊢;exact hx2)

theorem c142B {Fr9:(List gStmt)->Int->Option (Bool)}{Fr10:gStmt->Int->Option (Bool)}(hFr9:c127Q Fr9)(hFr10:c142Q Fr10){p0:gStmt}{p1:Int}{r:Bool}(H:mD Fr9 Fr10 p0 p1=some r):APure Tryz.prog G 142 [.agg [.int .i64 p0.Kind,.int .i64 p0.Var,.int .i64 p0.Box,.int .i64 p0.Expr.Op,.int .i64 p0.Expr.N,.fsl (eL rExpr p0.Expr.Args),.fsl (eL rStmt p0.Body),.fsl (eL rStmt p0.Else)],.int .i64 p1] (.bool r):=by
 refine qK func142 ntmps142 results142 fun N0=>?_
 unfold mD at H
 refine S0 tok [0] [1,2] ?_
 refine Wsq [1,2] fun K1 hK1=>?_
 obtain⟨g1,hg1,H⟩:=bE H
 refine qF tok [1,2,12] ([(1,.int .i64 p1),(2,.fptr [.int .i64 p0.Kind,.int .i64 p0.Var,.int .i64 p0.Box,.int .i64 p0.Expr.Op,.int .i64 p0.Expr.N,.fsl (eL rExpr p0.Expr.Args),.fsl (eL rStmt p0.Body),.fsl (eL rStmt p0.Else)] 0),(12,.bool g1)]) (hp E0 [] (N0+10)) (by
  intro K k
  refine m0 ?_
  cases hbg1:ine p0.Kind 2
  .cases oj (ifF hbg1 hg1)
   exact m1 hbg1 k
  cases oj (ifT hbg1 hg1)
  refine m1 hbg1 ?_
  exact k) ?_
 refine Ci H ?_ ?_<;>intro H
 .obtain⟨r2,hr2,H⟩:=bE H
  refine qD [4] (c163 hr2) ?_
  cases oj H;exact W4
 refine Js hK1 ?_
 refine Wsq [1,2] fun K2 hK2=>?_
 obtain⟨g4,hg4,H⟩:=bE H
 refine qF tok [1,2,27] ([(1,.int .i64 p1),(2,.fptr [.int .i64 p0.Kind,.int .i64 p0.Var,.int .i64 p0.Box,.int .i64 p0.Expr.Op,.int .i64 p0.Expr.N,.fsl (eL rExpr p0.Expr.Args),.fsl (eL rStmt p0.Body),.fsl (eL rStmt p0.Else)] 0),(27,.bool g4)]) (hp E0 [] (N0+23)) (by
  intro K k
  refine m0 ?_
  cases hbg4:ilt p1 1
  .replace hg4:=ifF hbg4 hg4
   obtain⟨g3,hg3,hg4⟩:=bE hg4
   cases oj hg4
   refine m1 hbg4 ?_
   cases hbg3:ieq p0.Kind 3
   .cases oj (ifF hbg3 hg3)
    exact m2 hbg4 hbg3 k
   cases oj (ifT hbg3 hg3)
   exact m2 hbg4 hbg3 k
  cases oj (ifT hbg4 hg4)
  refine m1 hbg4 ?_
  exact k) ?_
 refine Ci H ?_ ?_<;>intro H
 .refine qA [4] ?_
  cases oj H;exact W4
 refine Js hK2 ?_
 obtain⟨r5,hr5,H⟩:=bE H
 obtain⟨g7,hg7,H⟩:=bE H
 obtain⟨g9,hg9,H⟩:=bE H
 obtain⟨g11,hg11,H⟩:=bE H
 obtain⟨g13,hg13,H⟩:=bE H
 refine qF tok [4] ([(4,.bool g13)]) (hp E0 [] (N0+49)) (by
  intro K k
  refine m0 ?_
  refine(c164 hr5).app (m0 ?_)
  cases hbg7:r5
  .cases oj (ifF hbg7 hg7)
   cases oj (ifF rfl hg9)
   cases oj (ifF rfl hg11)
   cases oj (ifF rfl hg13)
   exact m1 hbg7 k
  replace hg7:=ifT hbg7 hg7
  obtain⟨r6,hr6,hg7⟩:=bE hg7
  obtain rfl:=oi hg7
  refine m1 hbg7 ?_
  refine(c165 hr6).app (m1 hbg7 ?_)
  cases hbg9:r6
  .cases oj (ifF hbg9 hg9)
   cases oj (ifF rfl hg11)
   cases oj (ifF rfl hg13)
   exact m2 hbg7 hbg9 k
  replace hg9:=ifT hbg9 hg9
  obtain⟨r8,hr8,hg9⟩:=bE hg9
  obtain rfl:=oi hg9
  refine m2 hbg7 hbg9 ?_
  refine(c166 hr8).app (m2 hbg7 hbg9 ?_)
  cases hbg11:r8
  .cases oj (ifF hbg11 hg11)
   cases oj (ifF rfl hg13)
   exact m1 (j hbg7 (j hbg9 hbg11)) k
  replace hg11:=ifT hbg11 hg11
  obtain⟨r10,hr10,hg11⟩:=bE hg11
  obtain rfl:=oi hg11
  refine m1 (j hbg7 (j hbg9 hbg11)) ?_
  refine(hFr9 hr10).app (m1 (j hbg7 (j hbg9 hbg11)) ?_)
  cases hbg13:r10
  .cases oj (ifF hbg13 hg13)
   exact m1 (j hbg7 (j hbg9 (j hbg11 hbg13))) k
  replace hg13:=ifT hbg13 hg13
  obtain⟨r12,hr12,hg13⟩:=bE hg13
  cases oj hg13
  refine m1 (j hbg7 (j hbg9 (j hbg11 hbg13))) ?_
  refine(hFr9 hr12).app (m1 (j hbg7 (j hbg9 (j hbg11 hbg13))) ?_)
  exact k) ?_
 cases oj H;exact W4

theorem c127R:∀n:Nat,c127Q ((kD n).1)/\c142Q ((kD n).2):=by
 intro n;induction n with
 |zero=>exact⟨by intro p0 p1 r H;exact absurd H (by simp[kD]),by intro p0 p1 r H;exact absurd H (by simp[kD])⟩
 |succ n ih=>exact⟨by intro p0 p1 r H;exact c127B (hFr9:=ih.1) (hFr10:=ih.2) H,by intro p0 p1 r H;exact c142B (hFr9:=ih.1) (hFr10:=ih.2) H⟩

theorem c127 {p0:List gStmt}{p1:Int}{r:Bool}(H:nO p0 p1=some r):APure Tryz.prog G 127 [.fsl (eL rStmt p0),.int .i64 p1] (.bool r):=by
 unfold nO at H
 obtain⟨n,H⟩:=tU H
 exact(c127R n).1 H

theorem c114 {p0:List gStmt}{r:Bool}(H:vY p0=some r):APure Tryz.prog G 114 [.fsl (eL rStmt p0)] (.bool r):=by
 refine qK func114 ntmps114 results114 fun N0=>?_
 unfold vY at H
 refine qA [0] ?_
 obtain⟨r1,hr1,H⟩:=bE H
 obtain⟨g3,hg3,H⟩:=bE H
 refine qF tok [2] ([(2,.bool g3)]) (hp E0 [] (N0+9)) (by
  intro K k
  refine m0 ?_
  refine(c127 hr1).app (m0 ?_)
  cases hbg3:r1
  .cases oj (ifF hbg3 hg3)
   exact m1 hbg3 k
  replace hg3:=ifT hbg3 hg3
  obtain⟨r2,hr2,hg3⟩:=bE hg3
  cases oj hg3
  refine m1 hbg3 ?_
  refine(c117 hr2).app (m1 hbg3 ?_)
  exact k) ?_
 cases oj H;exact W4

abbrev c143Q (F:gExpr->Int->Option ((List gQuad))):Prop:=∀{p0:gExpr} {p1:Int} {r:List gQuad} (H:F p0 p1=some r),APure Tryz.prog G 143 [.agg [.int .i64 p0.Op,.int .i64 p0.N,.fsl (eL rExpr p0.Args)],.int .i64 p1] (.fsl (eL rQuad r))


abbrev c143_oQ (F:gExpr->Int->Option ((List gQuad))):Prop:=∀{p0:gExpr} {p1:Int} {r:List gQuad} (H:F p0 p1=some r) {J:AHeap},ACalls Tryz.prog G 143 [.agg [.int .i64 p0.Op,.int .i64 p0.N,.fsl (eL rExpr p0.Args)],.int .i64 p1] J (fun v J'=>∃M n0:Nat,J.next<=M/\J.next<=n0/\n0<M/\v=.sl n0 0 r.length/\J'=hp J.objs [(n0,some ⟨36,5,eL rQuad r⟩)] M)


theorem c143B {Fr11:gExpr->Int->Option ((List gQuad))}{Fr12:gExpr->Int->Option ((List gQuad))}(hFr11:c143Q Fr11)(hFr12:c143_oQ Fr12){p0:gExpr}{p1:Int}{r:List gQuad}(H:tQ Fr11 Fr12 p0 p1=some r):APure Tryz.prog G 143 [.agg [.int .i64 p0.Op,.int .i64 p0.N,.fsl (eL rExpr p0.Args)],.int .i64 p1] (.fsl (eL rQuad r)):=by
 refine qK func143 ntmps143 results143 fun N0=>?_
 unfold tQ at H
 refine S0 tok [0] [1,2] ?_
 refine Wsq [1,2] fun K1 hK1=>?_
 refine qA [1,2,8] ?_
 refine Ci H ?_ ?_<;>intro H
 .have q0:∀J i,bsA T 34 true i 1 [(0,.agg [.int .i64 1,.int .i64 p1,.int .i64 0,.int .i64 0,.int .i64 p0.N])] J=some (.fsl (eL rQuad ([(⟨1,p1,0,0,p0.N⟩:gQuad)]:List gQuad)),J):=fun _ _=>rfl
  refine Sy tok [4] [4] q0 ?_
  cases oj H;exact W4
 refine Js hK1 ?_
 refine Wsq [1,2] fun K2 hK2=>?_
 refine qA [1,2,16] ?_
 refine Ci H ?_ ?_<;>intro H
 .have q1:∀J i,bsA T 34 true i 1 [(0,.agg [.int .i64 2,.int .i64 p1,.int .i64 p0.N,.int .i64 0,.int .i64 0])] J=some (.fsl (eL rQuad ([(⟨2,p1,p0.N,0,0⟩:gQuad)]:List gQuad)),J):=fun _ _=>rfl
  refine Sy tok [4] [4] q1 ?_
  cases oj H;exact W4
 refine Js hK2 ?_
 obtain⟨v1,hv1,H⟩:=bE H
 obtain⟨v2,hv2,H⟩:=bE H
 obtain⟨r3,hr3,H⟩:=bE H
 obtain⟨r4,hr4,H⟩:=bE H
 obtain⟨l5,hl5,H⟩:=bE H
 refine gO tok tokM [] [5,13] [0,1,2,3,4,6,7,8,9,10,11,5,12,13,14] [1,2,5] (fun a J=>∃M1 o1:Nat,N0+23<=M1/\N0+23<=o1/\o1<M1/\a=[(1,.int .i64 p1),(2,.fptr [.int .i64 p0.Op,.int .i64 p0.N,.fsl (eL rExpr p0.Args)] 0),(5,.sl (N0+21) 0 l5.length)]/\J=hp E0 [(N0+21,some ⟨36,5,eL rQuad l5⟩)] M1) (by decide) (fun K hK=>?_) ?_
 .simp only[pickL,zJ,zL]
  refine m1 (j (ix147 hv1) (j (ix147 hv2) (app34 hl5))) ?_
  refine mo (hFr12 (H:=hr3)) fun M1 o1 fM1_0 fM1_1 fM1_2=>?_
  have eM1_0:=nQ o1 (N0+21)
  refine m1 (j (ix147 hv1) (j (ix147 hv2) (j (app34 hl5) (j eM1_0 (j @hoS @hoN))))) ?_
  refine Pc.mk (hFr11 hr4) (m1 (j (ix147 hv1) (j (ix147 hv2) (j (app34 hl5) (j eM1_0 (j @hoS @hoN))))) ?_)
  exact hK _ _ ⟨M1,o1,(by omega),(by omega),(by omega),rfl,rfl⟩
 rintro a J ⟨M1,o1,fM1_0,fM1_1,fM1_2,rfl,rfl⟩
 obtain⟨l6,hl6,H⟩:=bE H
 have q2:∀J i,bsA T 34 true i 1 [(0,.agg [.int .i64 3,.int .i64 p1,.int .i64 p1,.int .i64 (iadd .i64 p1 1),.int .i64 p0.Op])] J=some (.fsl (eL rQuad ([(⟨3,p1,p1,iadd .i64 p1 1,p0.Op⟩:gQuad)]:List gQuad)),J):=fun _ _=>rfl
 have e0:=nQ (N0+21) (M1+9)
 have e1:=nQ (N0+12) M1
 refine Sy tok [8] [4] (j e0 (j e1 (j q2 (app34 hl6)))) ?_
 refine gFrz Wre 4 [M1+9] [] [(4,.fsl (eL rQuad l6))] (by simp) (cutD (by simp)) ?_
 cases oj H;exact W4

theorem c143_oB {Fr11:gExpr->Int->Option ((List gQuad))}{Fr12:gExpr->Int->Option ((List gQuad))}(hFr11:c143Q Fr11)(hFr12:c143_oQ Fr12){p0:gExpr}{p1:Int}{r:List gQuad}(H:wE Fr11 Fr12 p0 p1=some r){J:AHeap}:ACalls Tryz.prog G 143 [.agg [.int .i64 p0.Op,.int .i64 p0.N,.fsl (eL rExpr p0.Args)],.int .i64 p1] J (fun v J'=>∃M n0:Nat,J.next<=M/\J.next<=n0/\n0<M/\v=.sl n0 0 r.length/\J'=hp J.objs [(n0,some ⟨36,5,eL rQuad r⟩)] M):=by
 refine fr2 [] (by simp) (fun hlt=>?_) ⟨_,func143,rfl,rfl⟩
 generalize J.next=N0 at hlt ⊢
 refine fnK tok func143 ntmps143 results143 ?_
 simp only[argsA,Nat.reduceAdd,hpN]
 unfold wE at H
 refine S0 tok [0] [1,2] ?_
 refine Wsq [1,2] fun K1 hK1=>?_
 refine qA [1,2,8] ?_
 refine Ci H ?_ ?_<;>intro H
 .obtain⟨l1,hl1,H⟩:=bE H
  have q0:∀J i,bsA T 34 false i 1 [(0,.agg [.int .i64 1,.int .i64 p1,.int .i64 0,.int .i64 0,.int .i64 p0.N])] J=some (.sl i 0 (List.length l1),J.put i ⟨36,5,eL rQuad l1⟩):=by rw[<- Option.some.inj hl1];exact fun _ _=>rfl
  refine qB [4] q0 ?_
  obtain rfl:=oi H
  refine Kp [4] ?_
  exact V2 j0 (N0+11) (N0+9)
 refine Js hK1 ?_
 refine Wsq [1,2] fun K2 hK2=>?_
 refine qA [1,2,16] ?_
 refine Ci H ?_ ?_<;>intro H
 .obtain⟨l2,hl2,H⟩:=bE H
  have q1:∀J i,bsA T 34 false i 1 [(0,.agg [.int .i64 2,.int .i64 p1,.int .i64 p0.N,.int .i64 0,.int .i64 0])] J=some (.sl i 0 (List.length l2),J.put i ⟨36,5,eL rQuad l2⟩):=by rw[<- Option.some.inj hl2];exact fun _ _=>rfl
  refine qB [4] q1 ?_
  obtain rfl:=oi H
  refine Kp [4] ?_
  exact V2 j0 (N0+14) (N0+12)
 refine Js hK2 ?_
 obtain⟨v3,hv3,H⟩:=bE H
 obtain⟨v4,hv4,H⟩:=bE H
 obtain⟨r5,hr5,H⟩:=bE H
 obtain⟨r6,hr6,H⟩:=bE H
 obtain⟨l7,hl7,H⟩:=bE H
 refine gO tok tokM [] [5,13] [0,1,2,3,4,6,7,8,9,10,11,5,12,13,14] [1,2,5] (fun a J=>∃M1 o1:Nat,N0+23<=M1/\N0+23<=o1/\o1<M1/\a=[(1,.int .i64 p1),(2,.fptr [.int .i64 p0.Op,.int .i64 p0.N,.fsl (eL rExpr p0.Args)] 0),(5,.sl (N0+21) 0 l7.length)]/\J=hp E0 [(N0+21,some ⟨36,5,eL rQuad l7⟩)] M1) (by decide) (fun K hK=>?_) ?_
 .simp only[pickL,zJ,zL]
  refine m1 (j (ix147 hv3) (j (ix147 hv4) (app34 hl7))) ?_
  refine mo (hFr12 (H:=hr5)) fun M1 o1 fM1_0 fM1_1 fM1_2=>?_
  have eM1_0:=nQ o1 (N0+21)
  refine m1 (j (ix147 hv3) (j (ix147 hv4) (j (app34 hl7) (j eM1_0 (j @hoS @hoN))))) ?_
  refine Pc.mk (hFr11 hr6) (m1 (j (ix147 hv3) (j (ix147 hv4) (j (app34 hl7) (j eM1_0 (j @hoS @hoN))))) ?_)
  exact hK _ _ ⟨M1,o1,(by omega),(by omega),(by omega),rfl,rfl⟩
 rintro a J ⟨M1,o1,fM1_0,fM1_1,fM1_2,rfl,rfl⟩
 obtain⟨l8,hl8,H⟩:=bE H
 have q2:∀J i,bsA T 34 true i 1 [(0,.agg [.int .i64 3,.int .i64 p1,.int .i64 p1,.int .i64 (iadd .i64 p1 1),.int .i64 p0.Op])] J=some (.fsl (eL rQuad ([(⟨3,p1,p1,iadd .i64 p1 1,p0.Op⟩:gQuad)]:List gQuad)),J):=fun _ _=>rfl
 have e0:=nQ (N0+21) (M1+9)
 have e1:=nQ (N0+12) M1
 refine Sy tok [8] [4] (j e0 (j e1 (j q2 (app34 hl8)))) ?_
 obtain rfl:=oi H
 refine Kp [4] ?_
 exact V2 j0 (M1+11) (M1+9)

theorem c143R:∀n:Nat,c143Q ((kO n).1)/\c143_oQ ((kO n).2):=by
 intro n;induction n with
 |zero=>exact⟨by intro p0 p1 r H;exact absurd H (by simp[kO]),by intro p0 p1 r H;exact absurd H (by simp[kO])⟩
 |succ n ih=>exact⟨by intro p0 p1 r H;exact c143B (hFr11:=ih.1) (hFr12:=ih.2) H,by intro p0 p1 r H;exact c143_oB (hFr11:=ih.1) (hFr12:=ih.2) H⟩

theorem c143_o {p0:gExpr}{p1:Int}{r:List gQuad}(H:wZ p0 p1=some r){J:AHeap}:ACalls Tryz.prog G 143 [.agg [.int .i64 p0.Op,.int .i64 p0.N,.fsl (eL rExpr p0.Args)],.int .i64 p1] J (fun v J'=>∃M n0:Nat,J.next<=M/\J.next<=n0/\n0<M/\v=.sl n0 0 r.length/\J'=hp J.objs [(n0,some ⟨36,5,eL rQuad r⟩)] M):=by
 unfold wZ at H
 obtain⟨n,H⟩:=tU H
 exact(c143R n).2 H

abbrev c115Q (F:(List gStmt)->Int->Option ((List gQuad))):Prop:=∀{p0:List gStmt} {p1:Int} {r:List gQuad} (H:F p0 p1=some r),APure Tryz.prog G 115 [.fsl (eL rStmt p0),.int .i64 p1] (.fsl (eL rQuad r))


abbrev c144Q (F:gStmt->Int->Option ((List gQuad))):Prop:=∀{p0:gStmt} {p1:Int} {r:List gQuad} (H:F p0 p1=some r),APure Tryz.prog G 144 [.agg [.int .i64 p0.Kind,.int .i64 p0.Var,.int .i64 p0.Box,.int .i64 p0.Expr.Op,.int .i64 p0.Expr.N,.fsl (eL rExpr p0.Expr.Args),.fsl (eL rStmt p0.Body),.fsl (eL rStmt p0.Else)],.int .i64 p1] (.fsl (eL rQuad r))


abbrev c145Q (F:gStmt->Int->Option ((List gQuad))):Prop:=∀{p0:gStmt} {p1:Int} {r:List gQuad} (H:F p0 p1=some r),APure Tryz.prog G 145 [.agg [.int .i64 p0.Kind,.int .i64 p0.Var,.int .i64 p0.Box,.int .i64 p0.Expr.Op,.int .i64 p0.Expr.N,.fsl (eL rExpr p0.Expr.Args),.fsl (eL rStmt p0.Body),.fsl (eL rStmt p0.Else)],.int .i64 p1] (.fsl (eL rQuad r))


abbrev c128Q (F:gStmt->Int->Option ((List gQuad))):Prop:=∀{p0:gStmt} {p1:Int} {r:List gQuad} (H:F p0 p1=some r),APure Tryz.prog G 128 [.agg [.int .i64 p0.Kind,.int .i64 p0.Var,.int .i64 p0.Box,.int .i64 p0.Expr.Op,.int .i64 p0.Expr.N,.fsl (eL rExpr p0.Expr.Args),.fsl (eL rStmt p0.Body),.fsl (eL rStmt p0.Else)],.int .i64 p1] (.fsl (eL rQuad r))


theorem c115B {Fr13:(List gStmt)->Int->Option ((List gQuad))}{Fr14:gStmt->Int->Option ((List gQuad))}{Fr15:gStmt->Int->Option ((List gQuad))}{Fr16:gStmt->Int->Option ((List gQuad))}(hFr13:c115Q Fr13)(hFr14:c144Q Fr14)(hFr15:c145Q Fr15)(hFr16:c128Q Fr16){p0:List gStmt}{p1:Int}{r:List gQuad}(H:tP Fr13 Fr14 Fr15 Fr16 p0 p1=some r):APure Tryz.prog G 115 [.fsl (eL rStmt p0),.int .i64 p1] (.fsl (eL rQuad r)):=by
 refine qK func115 ntmps115 results115 fun N0=>?_
 unfold tP at H
 refine qA [0,1] ?_
 have q0:∀J i,bsA T 34 true i 0 [] J=some (.esl,J):=fun _ _=>rfl
 refine Sy tok [0] [0,1,5] q0 ?_
 refine Wsq [5] fun K1 hK1=>?_
 refine qA [0,1,5,6] ?_
 refine Wb ?_
 obtain⟨e1,hse1,H⟩:=bE H
 refine zR [0,1,5,6] (fun s a J=>∃M1 o1:Nat,N0<=M1/\N0<=o1/\o1<M1/\a=[(0,.fsl (eL rStmt p0)),(1,.int .i64 p1),(5,.sl o1 0 s.2.length),(6,.int .i64 s.1)]/\J=hp E0 [(o1,some ⟨36,5,eL rQuad s.2⟩)] M1) (fun s x a J=>x=.exit 0/\Rc G 26 N0 (fun a J=>∃M2 o2:Nat,N0<=M2/\N0<=o2/\o2<M2/\a=[(5,.sl o2 0 s.length)]/\J=hp E0 [(o2,some ⟨36,5,eL rQuad s⟩)] M2) (AAct.keep a [5]) J) hse1 ?_ ?_ ?_
 .refine kp [0,1,5,6] ?_
  refine gNilS zH 5 36 5 [(N0+4,some ⟨36,5,eL rQuad ([]:List gQuad)⟩)] [(0,.fsl (eL rStmt p0)),(1,.int .i64 p1),(5,.sl (N0+4) 0 ([]:List gQuad).length),(6,.int .i64 0)] (by simp(disch:=omega)) (by simp(disch:=omega) [eN]) [0,1,5,6] rfl ?_
  exact R2 (N0+5) (N0+4)
 .clear H hse1
  rintro⟨s1,s2⟩ fl a J H ⟨M1,o1,fM1_0,fM1_1,fM1_2,rfl,rfl⟩ K2 O2 hK2 hO2
  unfold vX at H;dsimp only at H
  refine Wsq [0,1,5,6] fun K3 hK3=>?_
  refine qA [0,1,5,6,11] ?_
  refine Ci H ?_ ?_<;>intro H
  .refine Js hK3 ?_
   refine Wsq [0,1,5,6] fun K4 hK4=>?_
   refine Wb ?_
   obtain⟨v4,hv4,H⟩:=bE H
   obtain⟨r5,hr5,H⟩:=bE H
   obtain⟨l6,hl6,H⟩:=bE H
   have e0:=nQ o1 (M1+14)
   refine Rt tok [] [0,1,5,6] (by intro K k;(repeat first|simp -dsimp -implicitDefEqProofs [e0,ix124 hv4,app34 hl6]|refine(hFr16 hr5).app ?_);exact k) fun a ha=>?_
   refine hK4 _ _ ?_;rw[ha]
   refine Rc.mk ?_
   obtain rfl:=oi H
   refine qI hK2 ?_
   exact R2 (M1+19) (M1+14)
  cases oj H
  refine zK (hO2 _ _ _ _ rfl ⟨rfl,?_⟩)
  refine kr ?_
  exact R2 (M1+4) o1
 intro x a J hx
 obtain⟨y3,rfl⟩:∃x,x=e1:=⟨_,rfl⟩
 obtain⟨rfl,b,U,hr,M2,o2,fM2_0,fM2_1,fM2_2,rfl,rfl⟩:=hx
 (try dsimp only at H)
 show K1 _ _
 refine hK1 _ _ (zH hr ?_)
 refine Rc.mk ?_
 refine qA [4] ?_
 cases oj H;exact W4

theorem c144B {Fr13:(List gStmt)->Int->Option ((List gQuad))}{Fr14:gStmt->Int->Option ((List gQuad))}{Fr15:gStmt->Int->Option ((List gQuad))}{Fr16:gStmt->Int->Option ((List gQuad))}(hFr13:c115Q Fr13)(hFr14:c144Q Fr14)(hFr15:c145Q Fr15)(hFr16:c128Q Fr16){p0:gStmt}{p1:Int}{r:List gQuad}(H:mC Fr13 Fr14 Fr15 Fr16 p0 p1=some r):APure Tryz.prog G 144 [.agg [.int .i64 p0.Kind,.int .i64 p0.Var,.int .i64 p0.Box,.int .i64 p0.Expr.Op,.int .i64 p0.Expr.N,.fsl (eL rExpr p0.Expr.Args),.fsl (eL rStmt p0.Body),.fsl (eL rStmt p0.Else)],.int .i64 p1] (.fsl (eL rQuad r)):=by
 refine qK func144 ntmps144 results144 fun N0=>?_
 unfold mC at H
 refine S0 tok [0] [1,2] ?_
 obtain⟨r1,hr1,H⟩:=bE H
 refine jC tok [] [1,2,5] (fun a J=>∃M1 o1:Nat,N0+6<=M1/\N0+6<=o1/\o1<M1/\a=[(1,.int .i64 p1),(2,.fptr [.int .i64 p0.Kind,.int .i64 p0.Var,.int .i64 p0.Box,.int .i64 p0.Expr.Op,.int .i64 p0.Expr.N,.fsl (eL rExpr p0.Expr.Args),.fsl (eL rStmt p0.Body),.fsl (eL rStmt p0.Else)] 0),(5,.sl o1 0 r1.length)]/\J=hp E0 [(o1,some ⟨36,5,eL rQuad r1⟩)] M1) (fun K hK=>?_) ?_
 .skip
  refine m0 ?_
  refine mo (c143_o (H:=hr1)) fun M1 o1 fM1_0 fM1_1 fM1_2=>?_
  refine m2 @hoS @hoN ?_
  exact hK _ _ ⟨M1,o1,(by omega),(by omega),(by omega),rfl,rfl⟩
 rintro a J ⟨M1,o1,fM1_0,fM1_1,fM1_2,rfl,rfl⟩
 obtain⟨r2,hr2,H⟩:=bE H
 refine qD [1,2,5,6] (hFr13 hr2) ?_
 refine qA [2,5,6,7] ?_
 refine Wsq [2,5,6,7] fun K1 hK1=>?_
 refine qA [2,5,6,7,31] ?_
 refine Ci H ?_ ?_<;>intro H
 .obtain⟨l3,hl3,H⟩:=bE H
  have q0:∀J i,bsA T 34 true i 1 [(0,.agg [.int .i64 5,.int .i64 0,.int .i64 4,.int .i64 0,.int .i64 (iadd .i64 (iadd .i64 (iadd .i64 p1 (ilen r1)) 1) (ilen r2))])] J=some (.fsl (eL rQuad ([(⟨5,0,4,0,iadd .i64 (iadd .i64 (iadd .i64 p1 (ilen r1)) 1) (ilen r2)⟩:gQuad)]:List gQuad)),J):=fun _ _=>rfl
  have e0:=nQ o1 (M1+26)
  refine Sy tok [3] [5,6] (j e0 (j q0 (app34 hl3))) ?_
  obtain⟨l4,hl4,H⟩:=bE H
  refine qB [4] (app34 hl4) ?_
  refine gFrz Wre 4 [M1+30] [] [(4,.fsl (eL rQuad l4))] (by simp) (cutD (by simp)) ?_
  cases oj H;exact W4
 refine Js hK1 ?_
 obtain⟨r5,hr5,H⟩:=bE H
 refine qD [5,6,7,8] (hFr13 hr5) ?_
 obtain⟨l6,hl6,H⟩:=bE H
 have q1:∀J i,bsA T 34 true i 1 [(0,.agg [.int .i64 5,.int .i64 0,.int .i64 4,.int .i64 0,.int .i64 (iadd .i64 (iadd .i64 (iadd .i64 (iadd .i64 p1 (ilen r1)) 1) (ilen r2)) 1)])] J=some (.fsl (eL rQuad ([(⟨5,0,4,0,iadd .i64 (iadd .i64 (iadd .i64 (iadd .i64 p1 (ilen r1)) 1) (ilen r2)) 1⟩:gQuad)]:List gQuad)),J):=fun _ _=>rfl
 have e0:=nQ o1 (M1+33)
 refine Sy tok [4] [5,6,7,8] (j e0 (j q1 (app34 hl6))) ?_
 obtain⟨l7,hl7,H⟩:=bE H
 refine qB [5,7,8] (app34 hl7) ?_
 obtain⟨l8,hl8,H⟩:=bE H
 have q2:∀J i,bsA T 34 true i 1 [(0,.agg [.int .i64 4,.int .i64 0,.int .i64 0,.int .i64 0,.int .i64 (iadd .i64 (iadd .i64 (iadd .i64 (iadd .i64 (iadd .i64 p1 (ilen r1)) 1) (ilen r2)) 1) (ilen r5))])] J=some (.fsl (eL rQuad ([(⟨4,0,0,0,iadd .i64 (iadd .i64 (iadd .i64 (iadd .i64 (iadd .i64 p1 (ilen r1)) 1) (ilen r2)) 1) (ilen r5)⟩:gQuad)]:List gQuad)),J):=fun _ _=>rfl
 refine Sz tok [7] [5,8] q2 (app34 hl8) ?_
 obtain⟨l9,hl9,H⟩:=bE H
 refine qB [4] (app34 hl9) ?_
 refine gFrz Wre 4 [M1+51] [] [(4,.fsl (eL rQuad l9))] (by simp) (cutD (by simp)) ?_
 cases oj H;exact W4

theorem c145B {Fr13:(List gStmt)->Int->Option ((List gQuad))}{Fr14:gStmt->Int->Option ((List gQuad))}{Fr15:gStmt->Int->Option ((List gQuad))}{Fr16:gStmt->Int->Option ((List gQuad))}(hFr13:c115Q Fr13)(hFr14:c144Q Fr14)(hFr15:c145Q Fr15)(hFr16:c128Q Fr16){p0:gStmt}{p1:Int}{r:List gQuad}(H:vW Fr13 Fr14 Fr15 Fr16 p0 p1=some r):APure Tryz.prog G 145 [.agg [.int .i64 p0.Kind,.int .i64 p0.Var,.int .i64 p0.Box,.int .i64 p0.Expr.Op,.int .i64 p0.Expr.N,.fsl (eL rExpr p0.Expr.Args),.fsl (eL rStmt p0.Body),.fsl (eL rStmt p0.Else)],.int .i64 p1] (.fsl (eL rQuad r)):=by
 refine qK func145 ntmps145 results145 fun N0=>?_
 unfold vW at H
 refine S0 tok [0] [1,2] ?_
 obtain⟨r1,hr1,H⟩:=bE H
 refine jC tok [] [1,2,5] (fun a J=>∃M1 o1:Nat,N0+6<=M1/\N0+6<=o1/\o1<M1/\a=[(1,.int .i64 p1),(2,.fptr [.int .i64 p0.Kind,.int .i64 p0.Var,.int .i64 p0.Box,.int .i64 p0.Expr.Op,.int .i64 p0.Expr.N,.fsl (eL rExpr p0.Expr.Args),.fsl (eL rStmt p0.Body),.fsl (eL rStmt p0.Else)] 0),(5,.sl o1 0 r1.length)]/\J=hp E0 [(o1,some ⟨36,5,eL rQuad r1⟩)] M1) (fun K hK=>?_) ?_
 .skip
  refine m0 ?_
  refine mo (c143_o (H:=hr1)) fun M1 o1 fM1_0 fM1_1 fM1_2=>?_
  refine m2 @hoS @hoN ?_
  exact hK _ _ ⟨M1,o1,(by omega),(by omega),(by omega),rfl,rfl⟩
 rintro a J ⟨M1,o1,fM1_0,fM1_1,fM1_2,rfl,rfl⟩
 obtain⟨r2,hr2,H⟩:=bE H
 refine qD [1,5,6] (hFr13 hr2) ?_
 obtain⟨l3,hl3,H⟩:=bE H
 have q0:∀J i,bsA T 34 true i 1 [(0,.agg [.int .i64 5,.int .i64 0,.int .i64 4,.int .i64 0,.int .i64 (iadd .i64 (iadd .i64 (iadd .i64 (iadd .i64 p1 (ilen r1)) 1) (ilen r2)) 1)])] J=some (.fsl (eL rQuad ([(⟨5,0,4,0,iadd .i64 (iadd .i64 (iadd .i64 (iadd .i64 p1 (ilen r1)) 1) (ilen r2)) 1⟩:gQuad)]:List gQuad)),J):=fun _ _=>rfl
 have e0:=nQ o1 (M1+21)
 refine Sy tok [11] [1,5,6] (j e0 (j q0 (app34 hl3))) ?_
 obtain⟨l4,hl4,H⟩:=bE H
 refine qB [1,5] (app34 hl4) ?_
 obtain⟨l5,hl5,H⟩:=bE H
 have q1:∀J i,bsA T 34 true i 1 [(0,.agg [.int .i64 4,.int .i64 0,.int .i64 0,.int .i64 0,.int .i64 p1])] J=some (.fsl (eL rQuad ([(⟨4,0,0,0,p1⟩:gQuad)]:List gQuad)),J):=fun _ _=>rfl
 refine Sz tok [3] [4] q1 (app34 hl5) ?_
 refine gFrz Wre 4 [M1+31] [] [(4,.fsl (eL rQuad l5))] (by simp) (cutD (by simp)) ?_
 cases oj H;exact W4

theorem c128B {Fr13:(List gStmt)->Int->Option ((List gQuad))}{Fr14:gStmt->Int->Option ((List gQuad))}{Fr15:gStmt->Int->Option ((List gQuad))}{Fr16:gStmt->Int->Option ((List gQuad))}(hFr13:c115Q Fr13)(hFr14:c144Q Fr14)(hFr15:c145Q Fr15)(hFr16:c128Q Fr16){p0:gStmt}{p1:Int}{r:List gQuad}(H:tO Fr13 Fr14 Fr15 Fr16 p0 p1=some r):APure Tryz.prog G 128 [.agg [.int .i64 p0.Kind,.int .i64 p0.Var,.int .i64 p0.Box,.int .i64 p0.Expr.Op,.int .i64 p0.Expr.N,.fsl (eL rExpr p0.Expr.Args),.fsl (eL rStmt p0.Body),.fsl (eL rStmt p0.Else)],.int .i64 p1] (.fsl (eL rQuad r)):=by
 refine qK func128 ntmps128 results128 fun N0=>?_
 unfold tO at H
 refine S0 tok [0] [1,2] ?_
 obtain⟨r1,hr1,H⟩:=bE H
 refine jC tok [] [1,2,5] (fun a J=>∃M1 o1:Nat,N0+6<=M1/\N0+6<=o1/\o1<M1/\a=[(1,.int .i64 p1),(2,.fptr [.int .i64 p0.Kind,.int .i64 p0.Var,.int .i64 p0.Box,.int .i64 p0.Expr.Op,.int .i64 p0.Expr.N,.fsl (eL rExpr p0.Expr.Args),.fsl (eL rStmt p0.Body),.fsl (eL rStmt p0.Else)] 0),(5,.sl o1 0 r1.length)]/\J=hp E0 [(o1,some ⟨36,5,eL rQuad r1⟩)] M1) (fun K hK=>?_) ?_
 .skip
  refine m0 ?_
  refine mo (c143_o (H:=hr1)) fun M1 o1 fM1_0 fM1_1 fM1_2=>?_
  refine m2 @hoS @hoN ?_
  exact hK _ _ ⟨M1,o1,(by omega),(by omega),(by omega),rfl,rfl⟩
 rintro a J ⟨M1,o1,fM1_0,fM1_1,fM1_2,rfl,rfl⟩
 refine Wsq [] fun K1 hK1=>?_
 refine qA [1,2,5,10] ?_
 refine Wb ?_
 refine qA [1,2,5,10,11] ?_
 refine Ci H ?_ ?_<;>intro H
 .obtain⟨r2,hr2,H⟩:=bE H
  refine qD [4] (hFr14 hr2) ?_
  cases oj H;exact W4
 refine qA [1,2,5,10,16] ?_
 refine Ci H ?_ ?_<;>intro H
 .obtain⟨r3,hr3,H⟩:=bE H
  refine qD [4] (hFr15 hr3) ?_
  cases oj H;exact W4
 refine qA [2,5,10,21] ?_
 refine Ci H ?_ ?_<;>intro H
 .obtain⟨l4,hl4,H⟩:=bE H
  have q0:∀J i,bsA T 34 true i 1 [(0,.agg [.int .i64 2,.int .i64 p0.Var,.int .i64 4,.int .i64 0,.int .i64 0])] J=some (.fsl (eL rQuad ([(⟨2,p0.Var,4,0,0⟩:gQuad)]:List gQuad)),J):=fun _ _=>rfl
  have e0:=nQ o1 (M1+13)
  refine Sy tok [4] [4] (j e0 (j q0 (app34 hl4))) ?_
  refine gFrz Wre 4 [M1+13] [] [(4,.fsl (eL rQuad l4))] (by simp) (cutD (by simp)) ?_
  cases oj H;exact W4
 refine qA [2,5,10,29] ?_
 refine Ci H ?_ ?_<;>intro H
 .obtain⟨l5,hl5,H⟩:=bE H
  have q1:∀J i,bsA T 34 true i 1 [(0,.agg [.int .i64 6,.int .i64 0,.int .i64 4,.int .i64 0,.int .i64 p0.Box])] J=some (.fsl (eL rQuad ([(⟨6,0,4,0,p0.Box⟩:gQuad)]:List gQuad)),J):=fun _ _=>rfl
  have e0:=nQ o1 (M1+15)
  refine Sy tok [4] [4] (j e0 (j q1 (app34 hl5))) ?_
  refine gFrz Wre 4 [M1+15] [] [(4,.fsl (eL rQuad l5))] (by simp) (cutD (by simp)) ?_
  cases oj H;exact W4
 refine qA [2,5,10,37] ?_
 refine Ci H ?_ ?_<;>intro H
 .obtain⟨l6,hl6,H⟩:=bE H
  have q2:∀J i,bsA T 34 true i 1 [(0,.agg [.int .i64 9,.int .i64 0,.int .i64 4,.int .i64 0,.int .i64 0])] J=some (.fsl (eL rQuad ([(⟨9,0,4,0,0⟩:gQuad)]:List gQuad)),J):=fun _ _=>rfl
  have e0:=nQ o1 (M1+15)
  refine Sy tok [2] [4] (j e0 (j q2 (app34 hl6))) ?_
  refine gFrz Wre 4 [M1+15] [] [(4,.fsl (eL rQuad l6))] (by simp) (cutD (by simp)) ?_
  cases oj H;exact W4
 refine qA [2,43] ?_
 refine Ci H ?_ ?_<;>intro H
 .have q3:∀J i,bsA T 34 true i 1 [(0,.agg [.int .i64 7,.int .i64 p0.Var,.int .i64 0,.int .i64 0,.int .i64 p0.Box])] J=some (.fsl (eL rQuad ([(⟨7,p0.Var,0,0,p0.Box⟩:gQuad)]:List gQuad)),J):=fun _ _=>rfl
  refine Sy tok [5] [4] q3 ?_
  cases oj H;exact W4
 refine Js hK1 ?_
 have q4:∀J i,bsA T 34 true i 1 [(0,.agg [.int .i64 8,.int .i64 0,.int .i64 0,.int .i64 0,.int .i64 0])] J=some (.fsl (eL rQuad ([(⟨8,0,0,0,0⟩:gQuad)]:List gQuad)),J):=fun _ _=>rfl
 refine Sy tok [1] [4] q4 ?_
 cases oj H;exact W4

theorem c115R:∀n:Nat,c115Q ((zN n).1)/\c144Q ((zN n).2.1)/\c145Q ((zN n).2.2.1)/\c128Q ((zN n).2.2.2):=by
 intro n;induction n with
 |zero=>exact⟨by intro p0 p1 r H;exact absurd H (by simp[zN]),by intro p0 p1 r H;exact absurd H (by simp[zN]),by intro p0 p1 r H;exact absurd H (by simp[zN]),by intro p0 p1 r H;exact absurd H (by simp[zN])⟩
 |succ n ih=>exact⟨by intro p0 p1 r H;exact c115B (hFr13:=ih.1) (hFr14:=ih.2.1) (hFr15:=ih.2.2.1) (hFr16:=ih.2.2.2) H,by intro p0 p1 r H;exact c144B (hFr13:=ih.1) (hFr14:=ih.2.1) (hFr15:=ih.2.2.1) (hFr16:=ih.2.2.2) H,by intro p0 p1 r H;exact c145B (hFr13:=ih.1) (hFr14:=ih.2.1) (hFr15:=ih.2.2.1) (hFr16:=ih.2.2.2) H,by intro p0 p1 r H;exact c128B (hFr13:=ih.1) (hFr14:=ih.2.1) (hFr15:=ih.2.2.1) (hFr16:=ih.2.2.2) H⟩

theorem c128 {p0:gStmt}{p1:Int}{r:List gQuad}(H:fQ p0 p1=some r):APure Tryz.prog G 128 [.agg [.int .i64 p0.Kind,.int .i64 p0.Var,.int .i64 p0.Box,.int .i64 p0.Expr.Op,.int .i64 p0.Expr.N,.fsl (eL rExpr p0.Expr.Args),.fsl (eL rStmt p0.Body),.fsl (eL rStmt p0.Else)],.int .i64 p1] (.fsl (eL rQuad r)):=by
 unfold fQ at H
 obtain⟨n,H⟩:=tU H
 exact(c115R n).2.2.2 H

theorem c115_o {p0:List gStmt}{p1:Int}{r:List gQuad}(H:nN p0 p1=some r){J:AHeap}:ACalls Tryz.prog G 115 [.fsl (eL rStmt p0),.int .i64 p1] J (fun v J'=>∃M n0:Nat,J.next<=M/\J.next<=n0/\n0<M/\v=.sl n0 0 r.length/\J'=hp J.objs [(n0,some ⟨36,5,eL rQuad r⟩)] M):=by
 refine fr2 [] (by simp) (fun hlt=>?_) ⟨_,func115,rfl,rfl⟩
 generalize J.next=N0 at hlt ⊢
 refine fnK tok func115 ntmps115 results115 ?_
 simp only[argsA,Nat.reduceAdd,hpN]
 unfold nN at H
 refine qA [0,1] ?_
 have q0:∀J i,bsA T 34 true i 0 [] J=some (.esl,J):=fun _ _=>rfl
 refine Sy tok [0] [0,1,5] q0 ?_
 refine Wsq [5] fun K1 hK1=>?_
 refine qA [0,1,5,6] ?_
 refine Wb ?_
 obtain⟨e1,hse1,H⟩:=bE H
 refine zR [0,1,5,6] (fun s a J=>∃M1 o1:Nat,N0<=M1/\N0<=o1/\o1<M1/\a=[(0,.fsl (eL rStmt p0)),(1,.int .i64 p1),(5,.sl o1 0 s.2.length),(6,.int .i64 s.1)]/\J=hp E0 [(o1,some ⟨36,5,eL rQuad s.2⟩)] M1) (fun s x a J=>x=.exit 0/\Rc G 26 N0 (fun a J=>∃M2 o2:Nat,N0<=M2/\N0<=o2/\o2<M2/\a=[(5,.sl o2 0 s.length)]/\J=hp E0 [(o2,some ⟨36,5,eL rQuad s⟩)] M2) (AAct.keep a [5]) J) hse1 ?_ ?_ ?_
 .refine kp [0,1,5,6] ?_
  refine gNilS zH 5 36 5 [(N0+4,some ⟨36,5,eL rQuad ([]:List gQuad)⟩)] [(0,.fsl (eL rStmt p0)),(1,.int .i64 p1),(5,.sl (N0+4) 0 ([]:List gQuad).length),(6,.int .i64 0)] (by simp(disch:=omega)) (by simp(disch:=omega) [eN]) [0,1,5,6] rfl ?_
  exact R2 (N0+5) (N0+4)
 .clear H hse1
  rintro⟨s1,s2⟩ fl a J H ⟨M1,o1,fM1_0,fM1_1,fM1_2,rfl,rfl⟩ K2 O2 hK2 hO2
  unfold sU at H;dsimp only at H
  refine Wsq [0,1,5,6] fun K3 hK3=>?_
  refine qA [0,1,5,6,11] ?_
  refine Ci H ?_ ?_<;>intro H
  .refine Js hK3 ?_
   refine Wsq [0,1,5,6] fun K4 hK4=>?_
   refine Wb ?_
   obtain⟨v4,hv4,H⟩:=bE H
   obtain⟨r5,hr5,H⟩:=bE H
   obtain⟨l6,hl6,H⟩:=bE H
   have e0:=nQ o1 (M1+14)
   refine Rt tok [] [0,1,5,6] (by intro K k;(repeat first|simp -dsimp -implicitDefEqProofs [e0,ix124 hv4,app34 hl6]|refine(c128 hr5).app ?_);exact k) fun a ha=>?_
   refine hK4 _ _ ?_;rw[ha]
   refine Rc.mk ?_
   obtain rfl:=oi H
   refine qI hK2 ?_
   exact R2 (M1+19) (M1+14)
  cases oj H
  refine zK (hO2 _ _ _ _ rfl ⟨rfl,?_⟩)
  refine kr ?_
  exact R2 (M1+4) o1
 intro x a J hx
 obtain⟨y3,rfl⟩:∃x,x=e1:=⟨_,rfl⟩
 obtain⟨rfl,b,U,hr,M2,o2,fM2_0,fM2_1,fM2_2,rfl,rfl⟩:=hx
 (try dsimp only at H)
 show K1 _ _
 refine hK1 _ _ (zH hr ?_)
 refine Rc.mk ?_
 refine qA [4] ?_
 obtain rfl:=oi H
 refine Kp [4] ?_
 exact V2 j0 (M2+2) o2

theorem c99 {p0:List gStmt}{r:(List gQuad)×Bool}(H:wM p0=some r):APure Tryz.prog G 99 [.fsl (eL rStmt p0)] (.tup [.fsl (eL rQuad r.1),.bool r.2]):=by
 refine qK func99 ntmps99 results99 fun N0=>?_
 unfold wM at H
 refine qA [0] ?_
 refine Wsq [0] fun K1 hK1=>?_
 obtain⟨r1,hr1,H⟩:=bE H
 refine qD [0,6] (c114 hr1) ?_
 refine Ci H ?_ ?_<;>intro H
 .have q0:∀J i,bsA T 34 true i 0 [] J=some (.esl,J):=fun _ _=>rfl
  refine Sy tok [0] [2,3] q0 ?_
  cases oj H;exact W4
 refine Js hK1 ?_
 obtain⟨r2,hr2,H⟩:=bE H
 obtain⟨l3,hl3,H⟩:=bE H
 have q1:∀J i,bsA T 34 true i 1 [(0,.agg [.int .i64 10,.int .i64 0,.int .i64 0,.int .i64 0,.int .i64 0])] J=some (.fsl (eL rQuad ([(⟨10,0,0,0,0⟩:gQuad)]:List gQuad)),J):=fun _ _=>rfl
 refine jC tok [3] [2,3] (fun a J=>∃M1 o1:Nat,N0+12<=M1/\N0+12<=o1/\o1<M1/\a=[(2,.sl (N0+9) 0 l3.length),(3,.bool true)]/\J=hp E0 [(N0+9,some ⟨36,5,eL rQuad l3⟩)] M1) (fun K hK=>?_) ?_
 .skip
  refine m2 q1 (app34 hl3) ?_
  refine mo (c115_o (H:=hr2)) fun M1 o1 fM1_0 fM1_1 fM1_2=>?_
  have eM1_0:=nQ o1 (N0+9)
  refine m1 (j q1 (j (app34 hl3) (j eM1_0 (j @hoS @hoN)))) ?_
  exact hK _ _ ⟨M1,o1,(by omega),(by omega),(by omega),rfl,rfl⟩
 rintro a J ⟨M1,o1,fM1_0,fM1_1,fM1_2,rfl,rfl⟩
 refine gFrz Wre 4 [N0+9] [] [(2,.fsl (eL rQuad l3)),(3,.bool true)] (by simp) (cutD (by simp)) ?_
 cases oj H;exact W4

theorem c162 {p0:Int}{p1:Bool}{r:Bool}(H:sK p0 p1=some r):APure Tryz.prog G 162 [.int .i64 p0,.bool p1] (.bool r):=by
 refine qK func162 ntmps162 results162 fun N0=>?_
 unfold sK at H
 refine qA [0,1] ?_
 refine Wsq [0] fun K1 hK1=>?_
 refine qA [0,5] ?_
 refine Ci H ?_ ?_<;>intro H
 .obtain⟨r1,hr1,H⟩:=bE H
  refine qD [4] (c66 hr1) ?_
  cases oj H;exact W4
 refine Js hK1 ?_
 refine qA [4] ?_
 cases oj H;exact W4

theorem c135 {p0:gQuad}{p1:Bool}{p2:Bool}{p3:Bool}{r:Bool}(H:yG p0 p1 p2 p3=some r):APure Tryz.prog G 135 [.agg [.int .i64 p0.Op,.int .i64 p0.Dst,.int .i64 p0.A,.int .i64 p0.B,.int .i64 p0.N],.bool p1,.bool p2,.bool p3] (.bool r):=by
 refine qK func135 ntmps135 results135 fun N0=>?_
 unfold yG at H
 refine S0 tok [0] [1,2,3,4] ?_
 obtain⟨r1,hr1,H⟩:=bE H
 obtain⟨g3,hg3,H⟩:=bE H
 obtain⟨g5,hg5,H⟩:=bE H
 refine qF tok [8] ([(8,.bool g5)]) (hp E0 [] (N0+19)) (by
  intro K k
  refine m0 ?_
  refine(c162 hr1).app (m0 ?_)
  cases hbg3:r1
  .cases oj (ifF hbg3 hg3)
   cases oj (ifF rfl hg5)
   exact m1 hbg3 k
  replace hg3:=ifT hbg3 hg3
  obtain⟨r2,hr2,hg3⟩:=bE hg3
  obtain rfl:=oi hg3
  refine m1 hbg3 ?_
  refine(c162 hr2).app (m1 hbg3 ?_)
  cases hbg5:r2
  .cases oj (ifF hbg5 hg5)
   exact m2 hbg3 hbg5 k
  replace hg5:=ifT hbg5 hg5
  obtain⟨r4,hr4,hg5⟩:=bE hg5
  cases oj hg5
  refine m2 hbg3 hbg5 ?_
  refine(c162 hr4).app (m2 hbg3 hbg5 ?_)
  exact k) ?_
 cases oj H;exact W4

theorem c106 {p0:Int}{r:Bool}(H:kV p0=some r):APure Tryz.prog G 106 [.int .i64 p0] (.bool r):=by
 refine qK func106 ntmps106 results106 fun N0=>?_
 unfold kV at H
 refine qA [0] ?_
 obtain⟨r1,hr1,H⟩:=bE H
 refine qD [2] (c66 hr1) ?_
 cases oj H;exact W4

theorem c119 {p0:gQuad}{p1:Int}{r:Bool}(H:yU p0 p1=some r):APure Tryz.prog G 119 [.agg [.int .i64 p0.Op,.int .i64 p0.Dst,.int .i64 p0.A,.int .i64 p0.B,.int .i64 p0.N],.int .i64 p1] (.bool r):=by
 refine qK func119 ntmps119 results119 fun N0=>?_
 unfold yU at H
 refine S0 tok [0] [1,2] ?_
 refine Wsq [] fun K1 hK1=>?_
 refine qA [1,2,6] ?_
 refine Wb ?_
 refine qA [1,2,6,7] ?_
 refine Ci H ?_ ?_<;>intro H
 .obtain⟨r1,hr1,H⟩:=bE H
  obtain⟨g3,hg3,H⟩:=bE H
  refine qF tok [4] ([(4,.bool g3)]) (hp E0 [] (N0+14)) (by
   intro K k
   refine m0 ?_
   refine(c135 hr1).app (m0 ?_)
   cases hbg3:r1
   .cases oj (ifF hbg3 hg3)
    exact m1 hbg3 k
   replace hg3:=ifT hbg3 hg3
   obtain⟨r2,hr2,hg3⟩:=bE hg3
   cases oj hg3
   refine m1 hbg3 ?_
   refine(c106 hr2).app (m1 hbg3 ?_)
   exact k) ?_
  cases oj H;exact W4
 refine qA [1,2,6,16] ?_
 refine Ci H ?_ ?_<;>intro H
 .obtain⟨r4,hr4,H⟩:=bE H
  obtain⟨g5,hg5,H⟩:=bE H
  refine qF tok [4] ([(4,.bool g5)]) (hp E0 [] (N0+16)) (by
   intro K k
   refine m0 ?_
   refine(c135 hr4).app (m0 ?_)
   cases hbg5:r4
   .cases oj (ifF hbg5 hg5)
    exact m1 hbg5 k
   cases oj (ifT hbg5 hg5)
   refine m1 hbg5 ?_
   exact k) ?_
  cases oj H;exact W4
 refine qA [1,2,6,25] ?_
 refine Ci H ?_ ?_<;>intro H
 .obtain⟨r6,hr6,H⟩:=bE H
  obtain⟨g8,hg8,H⟩:=bE H
  refine qF tok [4] ([(4,.bool g8)]) (hp E0 [] (N0+18)) (by
   intro K k
   refine m0 ?_
   refine(c135 hr6).app (m0 ?_)
   cases hbg8:r6
   .cases oj (ifF hbg8 hg8)
    exact m1 hbg8 k
   replace hg8:=ifT hbg8 hg8
   obtain⟨r7,hr7,hg8⟩:=bE hg8
   cases oj hg8
   refine m1 hbg8 ?_
   refine(c136 hr7).app (m1 hbg8 ?_)
   exact k) ?_
  cases oj H;exact W4
 refine qA [1,2,6,34] ?_
 refine Ci H ?_ ?_<;>intro H
 .obtain⟨r9,hr9,H⟩:=bE H
  obtain⟨g10,hg10,H⟩:=bE H
  obtain⟨g11,hg11,H⟩:=bE H
  refine qF tok [4] ([(4,.bool g11)]) (hp E0 [] (N0+26)) (by
   intro K k
   refine m0 ?_
   refine(c135 hr9).app (m0 ?_)
   cases hbg10:r9
   .cases oj (ifF hbg10 hg10)
    cases oj (ifF rfl hg11)
    exact m1 hbg10 k
   cases oj (ifT hbg10 hg10)
   refine m1 hbg10 ?_
   cases hbg11:(ige p0.N 0)
   .cases oj (ifF hbg11 hg11)
    exact m2 hbg10 hbg11 k
   cases oj (ifT hbg11 hg11)
   refine m2 hbg10 hbg11 ?_
   exact k) ?_
  cases oj H;exact W4
 refine qA [1,2,6,49] ?_
 refine Ci H ?_ ?_<;>intro H
 .obtain⟨r12,hr12,H⟩:=bE H
  obtain⟨g13,hg13,H⟩:=bE H
  obtain⟨g14,hg14,H⟩:=bE H
  refine qF tok [4] ([(4,.bool g14)]) (hp E0 [] (N0+28)) (by
   intro K k
   refine m0 ?_
   refine(c135 hr12).app (m0 ?_)
   cases hbg13:r12
   .cases oj (ifF hbg13 hg13)
    cases oj (ifF rfl hg14)
    exact m1 hbg13 k
   cases oj (ifT hbg13 hg13)
   refine m1 hbg13 ?_
   cases hbg14:(ige p0.N 0)
   .cases oj (ifF hbg14 hg14)
    exact m2 hbg13 hbg14 k
   cases oj (ifT hbg14 hg14)
   refine m2 hbg13 hbg14 ?_
   exact k) ?_
  cases oj H;exact W4
 refine qA [2,6,64] ?_
 refine Ci H ?_ ?_<;>intro H
 .obtain⟨r15,hr15,H⟩:=bE H
  obtain⟨g17,hg17,H⟩:=bE H
  refine qF tok [4] ([(4,.bool g17)]) (hp E0 [] (N0+24)) (by
   intro K k
   refine m0 ?_
   refine(c135 hr15).app (m0 ?_)
   cases hbg17:r15
   .cases oj (ifF hbg17 hg17)
    exact m1 hbg17 k
   replace hg17:=ifT hbg17 hg17
   obtain⟨r16,hr16,hg17⟩:=bE hg17
   cases oj hg17
   refine m1 hbg17 ?_
   refine(c66 hr16).app (m1 hbg17 ?_)
   exact k) ?_
  cases oj H;exact W4
 refine qA [2,6,73] ?_
 refine Ci H ?_ ?_<;>intro H
 .obtain⟨r18,hr18,H⟩:=bE H
  obtain⟨g20,hg20,H⟩:=bE H
  refine qF tok [4] ([(4,.bool g20)]) (hp E0 [] (N0+26)) (by
   intro K k
   refine m0 ?_
   refine(c135 hr18).app (m0 ?_)
   cases hbg20:r18
   .cases oj (ifF hbg20 hg20)
    exact m1 hbg20 k
   replace hg20:=ifT hbg20 hg20
   obtain⟨r19,hr19,hg20⟩:=bE hg20
   cases oj hg20
   refine m1 hbg20 ?_
   refine(c66 hr19).app (m1 hbg20 ?_)
   exact k) ?_
  cases oj H;exact W4
 refine qA [2,6,82] ?_
 refine Ci H ?_ ?_<;>intro H
 .obtain⟨r21,hr21,H⟩:=bE H
  obtain⟨g22,hg22,H⟩:=bE H
  refine qF tok [4] ([(4,.bool g22)]) (hp E0 [] (N0+28)) (by
   intro K k
   refine m0 ?_
   refine(c135 hr21).app (m0 ?_)
   cases hbg22:r21
   .cases oj (ifF hbg22 hg22)
    exact m1 hbg22 k
   cases oj (ifT hbg22 hg22)
   refine m1 hbg22 ?_
   exact k) ?_
  cases oj H;exact W4
 obtain⟨j1,hj1,H⟩:=bE H
 refine kP (kN fun K2 hK2=>?_)
 have hJ1:∀a J,Rc G 101 N0 (fun a J=>∃M1:Nat,N0<=M1/\a=[(2,.fptr [.int .i64 p0.Op,.int .i64 p0.Dst,.int .i64 p0.A,.int .i64 p0.B,.int .i64 p0.N] 0),(91,.bool j1)]/\J=hp E0 [] M1) (a.keep [2,91]) J->K2 a J:=by
  rintro a J ⟨b,U,hr,M1,fM1_0,rfl,rfl⟩
  refine hK2 _ _ (kG [2,91] (Wre hr ?_))
  refine Ci H ?_ ?_<;>intro H
  .obtain⟨r24,hr24,H⟩:=bE H
   obtain⟨g25,hg25,H⟩:=bE H
   refine qF tok [4] ([(4,.bool g25)]) (hp E0 [] (M1+8)) (by
    intro K k
    refine m0 ?_
    refine(c135 hr24).app (m0 ?_)
    cases hbg25:r24
    .cases oj (ifF hbg25 hg25)
     exact m1 hbg25 k
    cases oj (ifT hbg25 hg25)
    refine m1 hbg25 ?_
    exact k) ?_
   cases oj H;exact W4
  refine Js hK1 ?_
  refine qA [4] ?_
  cases oj H;exact W4
 replace H:=hj1
 refine qA [2,6,91] ?_
 refine Ci H ?_ ?_<;>intro H
 .refine Wsk ?_
  show K2 _ _
  refine kE [2,91] fun a' ha=>?_
  cases oj H
  refine hJ1 _ _ ?_;rw[ha]
  exact R1 (N0+22)
 refine Rt0 tok [] [2,91] fun a ha=>?_
 cases oj H
 refine hJ1 _ _ ?_;rw[ha]
 exact R1 (N0+24)

theorem c103 {p0:List gQuad}{r:Bool}(H:kB p0=some r):APure Tryz.prog G 103 [.fsl (eL rQuad p0)] (.bool r):=by
 refine qK func103 ntmps103 results103 fun N0=>?_
 unfold kB at H
 refine qA [0] ?_
 refine qA [0,3] ?_
 refine Wsq [0,3] fun K1 hK1=>?_
 obtain⟨r1,hr1,H⟩:=bE H
 refine qD [0,3,9] (c66 hr1) ?_
 refine Ci H ?_ ?_<;>intro H
 .refine qA [2] ?_
  cases oj H;exact W4
 refine Js hK1 ?_
 refine Wsq [0,3] fun K2 hK2=>?_
 refine qA [0,3,4] ?_
 refine Wb ?_
 obtain⟨e1,hse1,H⟩:=bE H
 refine zR [0,3,4] (fun s a J=>∃M1:Nat,N0<=M1/\a=[(0,.fsl (eL rQuad p0)),(3,.int .i64 (ilen p0)),(4,.int .i64 s)]/\J=hp E0 [] M1) (fun e x a J=>match e with|.inl s=>x=.exit 0/\Rc G 38 N0 (fun a J=>∃M2:Nat,N0<=M2/\a=[(0,.fsl (eL rQuad p0)),(3,.int .i64 (ilen p0))]/\J=hp E0 [] M2) (AAct.keep a [0,3]) J|.inr s=>x=.ret/\∃vs,resA T J a [.tmp 2]=some vs/\∃d,thawA (fun _=>true) J d (tupA vs)=.bool s) hse1 ?_ ?_ ?_
 .refine kp [0,3,4] ?_
  exact R1 (N0+8)
 .clear H hse1
  rintro s2 fl a J H ⟨M1,fM1_0,rfl,rfl⟩ K3 O3 hK3 hO3
  unfold kT at H;dsimp only at H
  refine Wsq [0,3,4] fun K4 hK4=>?_
  refine qA [0,3,4,12] ?_
  refine Ci H ?_ ?_<;>intro H
  .refine Js hK4 ?_
   refine Wsq [0,3,4] fun K5 hK5=>?_
   refine Wb ?_
   obtain⟨v3,hv3,H⟩:=bE H
   obtain⟨r4,hr4,H⟩:=bE H
   refine qE [0,3,4,21] (ix34 hv3) (c119 hr4) ?_
   refine Ci H ?_ ?_<;>intro H
   .refine qA [2] ?_
    cases oj H
    refine Kp [2] ?_
    refine Wr (hO3 _ _ _ _ rfl ⟨rfl,?_⟩)
    exact⟨[.bool false],by simp,4,by simp[eN]⟩
   refine Js hK5 ?_
   obtain rfl:=oi H
   refine qI hK3 ?_
   exact R1 (M1+13)
  cases oj H
  refine zK (hO3 _ _ _ _ rfl ⟨rfl,?_⟩)
  refine kr ?_
  exact R1 (M1+3)
 intro x a J hx
 rcases e1 with⟨⟩|r0
 .obtain⟨rfl,b,U,hr,M2,fM2_0,rfl,rfl⟩:=hx
  (try dsimp only at H)
  show K2 _ _
  refine hK2 _ _ (zH hr ?_)
  refine Rc.mk ?_
  obtain⟨v5,hv5,H⟩:=bE H
  obtain⟨g6,hg6,H⟩:=bE H
  refine qF tok [2] ([(2,.bool g6)]) (hp E0 [] (M2+17)) (by
   intro K k
   refine m1 (ix34 hv5) ?_
   cases hbg6:ieq v5.Op 10
   .cases oj (ifF hbg6 hg6)
    exact m2 (ix34 hv5) hbg6 k
   cases oj (ifT hbg6 hg6)
   refine m2 (ix34 hv5) hbg6 ?_
   exact k) ?_
  cases oj H;exact W4
 obtain⟨rfl,hx2⟩:=hx
 (try dsimp only at H)
 cases oj H;first|exact hx2|(simp only[List.set_set] at hx2 ⊢;exact hx2)

theorem c176 {p0:List gQuad}{p1:Int}{r:List Int}(H:wA p0 p1=some r):APure Tryz.prog G 176 [.fsl (eL rQuad p0),.int .i64 p1] (.fsl (eL rI r)):=by
 refine qK func176 ntmps176 results176 fun N0=>?_
 unfold wA at H
 refine qA [0,1] ?_
 obtain⟨v1,hv1,H⟩:=bE H
 refine qB [1,5] (ix34 hv1) ?_
 refine Wsq [1] fun K1 hK1=>?_
 refine Wb ?_
 refine qA [1,5,10] ?_
 refine Ci H ?_ ?_<;>intro H
 .have q0:∀J i,bsA T 23 true i 0 [] J=some (.esl,J):=fun _ _=>rfl
  refine Sy tok [0] [4] q0 ?_
  cases oj H;exact W4
 refine qA [1,5,15] ?_
 refine Ci H ?_ ?_<;>intro H
 .have q1:∀J i,bsA T 23 true i 1 [(0,.int .i64 v1.N)] J=some (.fsl (eL rI ([v1.N]:List Int)),J):=fun _ _=>rfl
  refine Sy tok [2] [4] q1 ?_
  cases oj H;exact W4
 obtain⟨g2,hg2,H⟩:=bE H
 refine qF tok [1,5,22] ([(1,.int .i64 p1),(5,.ptr (N0+5) 0 0),(22,.bool g2)]) (hp E0 [(N0+5,some ⟨36,5,[[.int .i64 v1.Op,.int .i64 v1.Dst,.int .i64 v1.A,.int .i64 v1.B,.int .i64 v1.N]]⟩)] (N0+26)) (by
  intro K k
  refine m0 ?_
  cases hbg2:ieq v1.Op 5
  .cases oj (ifF hbg2 hg2)
   exact m1 hbg2 k
  cases oj (ifT hbg2 hg2)
  refine m1 hbg2 ?_
  exact k) ?_
 refine Ci H ?_ ?_<;>intro H
 .have q2:∀J i,bsA T 23 true i 2 [(0,.int .i64 v1.N),(1,.int .i64 (iadd .i64 p1 1))] J=some (.fsl (eL rI ([v1.N,iadd .i64 p1 1]:List Int)),J):=fun _ _=>rfl
  refine Sy tok [4] [4] q2 ?_
  cases oj H;exact W4
 obtain⟨g3,hg3,H⟩:=bE H
 refine qF tok [1,5,38] ([(1,.int .i64 p1),(5,.ptr (N0+5) 0 0),(38,.bool g3)]) (hp E0 [(N0+5,some ⟨36,5,[[.int .i64 v1.Op,.int .i64 v1.Dst,.int .i64 v1.A,.int .i64 v1.B,.int .i64 v1.N]]⟩)] (N0+37)) (by
  intro K k
  refine m0 ?_
  cases hbg3:ieq v1.Op 5
  .cases oj (ifF hbg3 hg3)
   exact m1 hbg3 k
  cases oj (ifT hbg3 hg3)
  refine m1 hbg3 ?_
  exact k) ?_
 refine Ci H ?_ ?_<;>intro H
 .have q3:∀J i,bsA T 23 true i 2 [(0,.int .i64 (iadd .i64 p1 1)),(1,.int .i64 v1.N)] J=some (.fsl (eL rI ([iadd .i64 p1 1,v1.N]:List Int)),J):=fun _ _=>rfl
  refine Sy tok [4] [4] q3 ?_
  cases oj H;exact W4
 refine Js hK1 ?_
 have q4:∀J i,bsA T 23 true i 1 [(0,.int .i64 (iadd .i64 p1 1))] J=some (.fsl (eL rI ([iadd .i64 p1 1]:List Int)),J):=fun _ _=>rfl
 refine Sy tok [2] [4] q4 ?_
 cases oj H;exact W4
end Go.Proofs.YtolmjhgondilhaaGreat
