/- The contracts of functions of the program (BXDeadRegs): each computes what its mirror computes. No conditions. -/
import Derived.Test.YtnaikeccpnadgaaGreatNBNDeadRegs
import Derived.Test.YtnaikeccpnadgaaGreatNBT3
set_option linter.unusedSimpArgs false
set_option linter.unusedVariables false
set_option maxRecDepth 20000
set_option maxHeartbeats 4000000
namespace Go.Proofs.YtnaikeccpnadgaaGreat
open Go Go.Abs Go.RowKit Tryz

theorem c80 {p0:List gQuad}{p1:List Int}{p2:Int}{r:Int}(H:wM p0 p1 p2=some r):APure Tryz.prog G 80 [.fsl (eL rQuad p0),.fsl (eL kV p1),.int .i64 p2] (.int .u16 r):=by
 refine qK func80 ntmps80 results80 fun N0=>?_
 unfold wM at H
 refine qA [0,1,2] ?_
 refine qA [0,1,2,7] ?_
 refine Wsq [7] fun K1 hK1=>?_
 obtain⟨v1,hv1,H⟩:=bE H
 obtain⟨r2,hr2,H⟩:=bE H
 refine qE [1,7,15,16,17] (ix34 hv1) (c92 hr2) ?_
 refine Wb ?_
 obtain⟨e1,hse1,H⟩:=bE H
 refine zS [1,7,15,16,17] (fun s a J=>∃M1:Nat,N0<=M1/\a=[(1,.fsl (eL kV p1)),(7,.int .u16 s.1),(15,.fsl (eL rI r2)),(16,.int .i64 (ilen r2)),(17,.int .i64 s.2)]/\J=hp E0 [] M1) (fun s x a J=>x=.exit 0/\Rc G 29 N0 (fun a J=>∃M2:Nat,N0<=M2/\a=[(7,.int .u16 s)]/\J=hp E0 [] M2) (AAct.keep a [7]) J) hse1 ?_ ?_ ?_
 .refine kp [1,7,15,16,17] ?_
  exact R1 (N0+10)
 .clear H hse1
  rintro⟨s3,s4⟩ fl a J H ⟨M1,fM1_0,rfl,rfl⟩ K2 O2 hK2 hO2
  unfold vT at H;dsimp only at H
  refine qA [1,7,15,16,17,18] ?_
  refine Wsq [1,7,15,16,17] fun K3 hK3=>?_
  refine Ci H ?_ ?_<;>intro H
  .refine Js hK3 ?_
   refine Wsq [1,7,15,16,17] fun K4 hK4=>?_
   refine Wb ?_
   obtain⟨v6,hv6,H⟩:=bE H
   refine qB [1,7,9,15,16,17] (ix23 hv6) ?_
   obtain⟨v7,hv7,H⟩:=bE H
   refine qH (ix71 hv7) hK4 ?_
   obtain rfl:=oi H
   refine qI hK2 ?_
   exact R1 (M1+13)
  cases oj H
  refine zH (hO2 _ _ _ _ rfl ⟨rfl,?_⟩)
  refine kr ?_
  exact R1 (M1+1)
 intro x a J hx
 obtain⟨y5,rfl⟩:∃x,x=e1:=⟨_,rfl⟩
 obtain⟨rfl,b,U,hr,M2,fM2_0,rfl,rfl⟩:=hx
 (try dsimp only at H)
 show K1 _ _
 refine hK1 _ _ (zI hr ?_)
 refine Rc.mk ?_
 refine qA [6] ?_
 cases oj H;exact W4

theorem c79 {p0:gQuad}{r:Int}(H:fU p0=some r):APure Tryz.prog G 79 [.agg [.int .i64 p0.Op,.int .i64 p0.Dst,.int .i64 p0.A,.int .i64 p0.B,.int .i64 p0.N]] (.int .i64 r):=by
 refine qK func79 ntmps79 results79 fun N0=>?_
 unfold fU at H
 refine S0 tok [0] [1] ?_
 refine Wsq [] fun K1 hK1=>?_
 refine qA [1,4] ?_
 refine Wb ?_
 obtain⟨j1,hj1,H⟩:=bE H
 refine kS (kM fun K2 hK2=>?_)
 have hJ1:∀a J,Rc G 12 N0 (fun a J=>∃M1:Nat,N0<=M1/\a=[(1,.fptr [.int .i64 p0.Op,.int .i64 p0.Dst,.int .i64 p0.A,.int .i64 p0.B,.int .i64 p0.N] 0),(5,.bool j1)]/\J=hp E0 [] M1) (a.keep [1,5]) J->K2 a J:=by
  rintro a J ⟨b,U,hr,M1,fM1_0,rfl,rfl⟩
  refine hK2 _ _ (kG [1,5] (Wre hr ?_))
  refine Ci H ?_ ?_<;>intro H
  .refine qA [2] ?_
   cases oj H;exact W4
  refine Js hK1 ?_
  refine qA [2] ?_
  cases oj H;exact W4
 replace H:=hj1
 refine qA [1,4,5] ?_
 refine Ci H ?_ ?_<;>intro H
 .refine Wsk ?_
  show K2 _ _
  refine kE [1,5] fun a' ha=>?_
  cases oj H
  refine hJ1 _ _ ?_;rw[ha]
  exact R1 (N0+6)
 refine qA [1,4,5] ?_
 refine Ci H ?_ ?_<;>intro H
 .refine Wsk ?_
  show K2 _ _
  refine kE [1,5] fun a' ha=>?_
  cases oj H
  refine hJ1 _ _ ?_;rw[ha]
  exact R1 (N0+8)
 refine qA [1,4,5] ?_
 refine Ci H ?_ ?_<;>intro H
 .refine Wsk ?_
  show K2 _ _
  refine kE [1,5] fun a' ha=>?_
  cases oj H
  refine hJ1 _ _ ?_;rw[ha]
  exact R1 (N0+10)
 refine Rt0 tok [] [1,5] fun a ha=>?_
 cases oj H
 refine hJ1 _ _ ?_;rw[ha]
 exact R1 (N0+12)

theorem c58 {p0:gQuad}{r:Int}(H:cL p0=some r):APure Tryz.prog G 58 [.agg [.int .i64 p0.Op,.int .i64 p0.Dst,.int .i64 p0.A,.int .i64 p0.B,.int .i64 p0.N]] (.int .u16 r):=by
 refine qK func58 ntmps58 results58 fun N0=>?_
 unfold cL at H
 refine S0 tok [0] [1] ?_
 refine Wsq [] fun K1 hK1=>?_
 refine qA [1,4] ?_
 refine Wb ?_
 obtain⟨j1,hj1,H⟩:=bE H
 refine kS (kM fun K2 hK2=>?_)
 have hJ1:∀a J,Rc G 22 N0 (fun a J=>∃M1:Nat,N0<=M1/\a=[(1,.fptr [.int .i64 p0.Op,.int .i64 p0.Dst,.int .i64 p0.A,.int .i64 p0.B,.int .i64 p0.N] 0),(4,.int .i64 p0.Op),(5,.bool j1)]/\J=hp E0 [] M1) (a.keep [1,4,5]) J->K2 a J:=by
  rintro a J ⟨b,U,hr,M1,fM1_0,rfl,rfl⟩
  refine hK2 _ _ (kG [1,4,5] (Wre hr ?_))
  refine Ci H ?_ ?_<;>intro H
  .obtain⟨v2,hv2,H⟩:=bE H
   refine qB [2] hv2 ?_
   cases oj H;exact W4
  refine qA [1,13] ?_
  refine Ci H ?_ ?_<;>intro H
  .obtain⟨v3,hv3,H⟩:=bE H
   obtain⟨v4,hv4,H⟩:=bE H
   refine Sd tok tokM [] [] [0,1,2,3,4,5,6,7] [2] (by
    intro K k
    simp only[pickL,zN,zO]
    refine m2 hv3 hv4 ?_
    exact k) ?_
   cases oj H;exact W4
  refine Js hK1 ?_
  refine qA [2] ?_
  cases oj H;exact W4
 replace H:=hj1
 refine qA [1,4,5] ?_
 refine Ci H ?_ ?_<;>intro H
 .refine Wsk ?_
  show K2 _ _
  refine kE [1,4,5] fun a' ha=>?_
  cases oj H
  refine hJ1 _ _ ?_;rw[ha]
  exact R1 (N0+6)
 refine qA [1,4,5] ?_
 refine Ci H ?_ ?_<;>intro H
 .refine Wsk ?_
  show K2 _ _
  refine kE [1,4,5] fun a' ha=>?_
  cases oj H
  refine hJ1 _ _ ?_;rw[ha]
  exact R1 (N0+8)
 refine qA [1,4,5] ?_
 refine Ci H ?_ ?_<;>intro H
 .refine Wsk ?_
  show K2 _ _
  refine kE [1,4,5] fun a' ha=>?_
  cases oj H
  refine hJ1 _ _ ?_;rw[ha]
  exact R1 (N0+10)
 refine Rt0 tok [] [1,4,5] fun a ha=>?_
 cases oj H
 refine hJ1 _ _ ?_;rw[ha]
 exact R1 (N0+12)

theorem c52 {p0:List gQuad}{r:List Int}(H:yP p0=some r):APure Tryz.prog G 52 [.fsl (eL rQuad p0)] (.fsl (eL kV r)):=by
 refine qK func52 ntmps52 results52 fun N0=>?_
 unfold yP at H
 refine qA [0] ?_
 obtain⟨l1,hl1,H⟩:=bE H
 refine qB [0,3] (mak71 hl1) ?_
 refine Wsq [3] fun K1 hK1=>?_
 refine qA [0,3,4] ?_
 refine Wb ?_
 obtain⟨e3,hse3,H⟩:=bE H
 refine zS [0,3,4] (fun s a J=>∃M1 o1:Nat,N0<=M1/\N0<=o1/\o1<M1/\a=[(0,.fsl (eL rQuad p0)),(3,.sl o1 0 s.2.length),(4,.bool s.1)]/\J=hp E0 [(o1,some ⟨74,1,eL kV s.2⟩)] M1) (fun s x a J=>x=.exit 0/\Rc G 52 N0 (fun a J=>∃M2 o2:Nat,N0<=M2/\N0<=o2/\o2<M2/\a=[(3,.sl o2 0 s.length)]/\J=hp E0 [(o2,some ⟨74,1,eL kV s⟩)] M2) (AAct.keep a [3]) J) hse3 ?_ ?_ ?_
 .refine kp [0,3,4] ?_
  exact R2 (N0+6) (N0+3)
 .clear H hse3
  rintro⟨s2,s3⟩ fl a J H ⟨M1,o1,fM1_0,fM1_1,fM1_2,rfl,rfl⟩ K2 O2 hK2 hO2
  unfold qX at H;dsimp only at H
  refine Wsq [0,3] fun K3 hK3=>?_
  refine qA [0,3,11] ?_
  refine Ci H ?_ ?_<;>intro H
  .refine Js hK3 ?_
   refine Wb ?_
   refine qA [0,3,4] ?_
   refine qA [0,3,4,5] ?_
   refine Wb ?_
   obtain⟨e2,hse2,H⟩:=bE H
   refine zS [0,3,4,5] (fun s a J=>∃M3 o3:Nat,N0<=M3/\N0<=o3/\o3<M3/\a=[(0,.fsl (eL rQuad p0)),(3,.sl o3 0 s.2.2.length),(4,.bool s.1),(5,.int .i64 s.2.1)]/\J=hp E0 [(o3,some ⟨74,1,eL kV s.2.2⟩)] M3) (fun s x a J=>x=.exit 2/\Rc G 52 N0 (fun a J=>∃M4 o4:Nat,N0<=M4/\N0<=o4/\o4<M4/\a=[(0,.fsl (eL rQuad p0)),(3,.sl o4 0 s.2.length),(4,.bool s.1)]/\J=hp E0 [(o4,some ⟨74,1,eL kV s.2⟩)] M4) (AAct.keep a [0,3,4]) J) hse2 ?_ ?_ ?_
   .refine kp [0,3,4,5] ?_
    exact R2 (M1+6) o1
   .clear H hse2
    rintro⟨s5,s6,s7⟩ fl a J H ⟨M3,o3,fM3_0,fM3_1,fM3_2,rfl,rfl⟩ K4 O4 hK4 hO4
    unfold vU at H;dsimp only at H
    refine Wsq [0,3,4,5] fun K5 hK5=>?_
    refine qA [0,3,4,5,16] ?_
    refine Ci H ?_ ?_<;>intro H
    .refine Js hK5 ?_
     refine Wsq [0,3,4,5] fun K6 hK6=>?_
     refine Wb ?_
     obtain⟨r10,hr10,H⟩:=bE H
     refine jJ tok [] [0,3,4,5,6] (fun a J=>a=[(0,.fsl (eL rQuad p0)),(3,.sl o3 0 s7.length),(4,.bool s5),(5,.int .i64 s6),(6,.int .u16 r10)]/\J=hp E0 [(o3,some ⟨74,1,eL kV s7⟩)] (M3+7)) (fun K hK=>?_) ?_
     .skip
      refine m0 ?_
      refine(borrow 8 (c80 hr10) (by simp) rfl).mono ?_;rintro _ _ ⟨rfl,rfl⟩;try simp -dsimp -implicitDefEqProofs
      exact hK _ _ ⟨rfl,rfl⟩
     rintro a J ⟨rfl,rfl⟩
     obtain⟨j1,hj1,H⟩:=bE H
     refine kS (kM fun K7 hK7=>?_)
     have hJ1:∀a J,Rc G 52 N0 (fun a J=>∃M5:Nat,N0<=M5/\o3<M5/\a=[(0,.fsl (eL rQuad p0)),(3,.sl o3 0 s7.length),(4,.bool s5),(5,.int .i64 s6),(6,.int .u16 j1)]/\J=hp E0 [(o3,some ⟨74,1,eL kV s7⟩)] M5) (a.keep [0,3,4,5,6]) J->K7 a J:=by
      rintro a J ⟨b,U,hr,M5,fM5_0,fM5_1,rfl,rfl⟩
      refine hK7 _ _ (kG [0,3,4,5,6] (Wre hr ?_))
      obtain⟨v12,hv12,H⟩:=bE H
      obtain⟨r13,hr13,H⟩:=bE H
      refine qE [0,3,4,5,6] (ix34 hv12) (c58 hr13) ?_
      obtain⟨v14,hv14,H⟩:=bE H
      refine qC [0,3,4,5,6,46] (ixo71 hv14) ((zG hv14).2.2) ?_
      refine Ci H ?_ ?_<;>intro H
      .obtain⟨l15,hl15,H⟩:=bE H
       refine qB [0,3,5] (j (ixo71 hv14) (j ((zG hv14).2.2) ((setx_iff.1 hl15).2.symm))) ?_
       try rw[<- zE hl15]
       refine qG hK6 ?_
       obtain rfl:=oi H
       refine qI hK4 ?_
       exact R2 (M5+23) o3
      refine Js hK6 ?_
      obtain rfl:=oi H
      refine qI hK4 ?_
      exact R2 (M5+17) o3
     replace H:=hj1
     obtain⟨v16,hv16,H⟩:=bE H
     obtain⟨r17,hr17,H⟩:=bE H
     refine qE [0,3,4,5,6,7] (ix34 hv16) (c79 hr17) ?_
     refine qA [0,3,4,5,6,7,29] ?_
     refine Ci H ?_ ?_<;>intro H
     .obtain⟨v18,hv18,H⟩:=bE H
      refine Rt tok [] [0,3,4,5,6] (by intro K k;simp -dsimp -implicitDefEqProofs [hv18];exact k) fun a ha=>?_
      cases oj H
      refine hJ1 _ _ ?_;rw[ha]
      exact R1 (M3+20)
     refine Wsk ?_
     show K7 _ _
     refine kE [0,3,4,5,6] fun a' ha=>?_
     cases oj H
     refine hJ1 _ _ ?_;rw[ha]
     exact R1 (M3+15)
    cases oj H
    refine zH (hO4 _ _ _ _ rfl ⟨rfl,?_⟩)
    refine kr ?_
    exact R2 (M3+2) o3
   intro x a J hx
   obtain⟨y8,y9⟩:=e2
   obtain⟨rfl,b,U,hr,M4,o4,fM4_0,fM4_1,fM4_2,rfl,rfl⟩:=hx
   (try dsimp only at H)
   show K2 _ _
   cases oj H
   refine hK2 _ _ _ rfl (zI hr ?_)
   exact R2 M4 o4
  cases oj H
  refine zH (hO2 _ _ _ _ rfl ⟨rfl,?_⟩)
  refine kr ?_
  exact R2 (M1+1) o1
 intro x a J hx
 obtain⟨y4,rfl⟩:∃x,x=e3:=⟨_,rfl⟩
 obtain⟨rfl,b,U,hr,M2,o2,fM2_0,fM2_1,fM2_2,rfl,rfl⟩:=hx
 (try dsimp only at H)
 show K1 _ _
 refine hK1 _ _ (zI hr ?_)
 refine Rc.mk ?_
 refine qA [2] ?_
 cases oj H;exact W4

theorem c81 {p0:Int}{p1:Int}{r:Bool}(H:jY p0 p1=some r):APure Tryz.prog G 81 [.int .u16 p0,.int .i64 p1] (.bool r):=by
 refine qK func81 ntmps81 results81 fun N0=>?_
 unfold jY at H
 refine qA [0,1] ?_
 obtain⟨v1,hv1,H⟩:=bE H
 refine qB [4] hv1 ?_
 cases oj H;exact W4

theorem c48 {p0:List gQuad}{r:List Int}(H:qY p0=some r):APure Tryz.prog G 48 [.fsl (eL rQuad p0)] (.fsl (eL rI r)):=by
 refine qK func48 ntmps48 results48 fun N0=>?_
 unfold qY at H
 refine qA [0] ?_
 refine qA [0,3] ?_
 obtain⟨r1,hr1,H⟩:=bE H
 refine qD [0,3,4] (c52 hr1) ?_
 refine Wsq [3] fun K1 hK1=>?_
 refine qA [0,3,4,10,11,12] ?_
 refine Wb ?_
 obtain⟨e1,hse1,H⟩:=bE H
 refine zS [0,3,4,10,11,12] (fun s a J=>∃M1 o1:Nat,N0<=M1/\N0<=o1/\o1<M1/\a=[(0,.fsl (eL rQuad p0)),(3,.sl o1 0 s.2.length),(4,.fsl (eL kV r1)),(10,.fsl (eL rQuad p0)),(11,.int .i64 (ilen p0)),(12,.int .i64 s.1)]/\J=hp E0 [(o1,some ⟨3,1,eL rI s.2⟩)] M1) (fun s x a J=>x=.exit 0/\Rc G 41 N0 (fun a J=>∃M2 o2:Nat,N0<=M2/\N0<=o2/\o2<M2/\a=[(3,.sl o2 0 s.length)]/\J=hp E0 [(o2,some ⟨3,1,eL rI s⟩)] M2) (AAct.keep a [3]) J) hse1 ?_ ?_ ?_
 .refine kp [0,3,4,10,11,12] ?_
  refine gNilS zI 3 3 1 [(N0+8,some ⟨3,1,eL rI ([]:List Int)⟩)] [(0,.fsl (eL rQuad p0)),(3,.sl (N0+8) 0 ([]:List Int).length),(4,.fsl (eL kV r1)),(10,.fsl (eL rQuad p0)),(11,.int .i64 (ilen p0)),(12,.int .i64 0)] (by simp(disch:=omega)) (by simp(disch:=omega) [eN]) [0,3,4,10,11,12] rfl ?_
  exact R2 (N0+9) (N0+8)
 .clear H hse1
  rintro⟨s2,s3⟩ fl a J H ⟨M1,o1,fM1_0,fM1_1,fM1_2,rfl,rfl⟩ K2 O2 hK2 hO2
  unfold xV at H;dsimp only at H
  refine qA [0,3,4,10,11,12,13] ?_
  refine Wsq [0,3,4,10,11,12] fun K3 hK3=>?_
  refine Ci H ?_ ?_<;>intro H
  .refine Js hK3 ?_
   refine Wsq [0,3,4,10,11,12] fun K4 hK4=>?_
   refine Wb ?_
   obtain⟨v5,hv5,H⟩:=bE H
   have e0:=nQ o1 (M1+4)
   refine qC [0,3,4,5,6,10,11,12] e0 (ix34 hv5) ?_
   obtain⟨r6,hr6,H⟩:=bE H
   have e0:=nQ o1 (M1+4)
   refine qE [0,3,4,5,6,7,10,11,12] e0 (c79 hr6) ?_
   obtain⟨g7,hg7,H⟩:=bE H
   obtain⟨g10,hg10,H⟩:=bE H
   refine qF tok [0,3,4,5,10,11,12,34] ([(0,.fsl (eL rQuad p0)),(3,.sl o1 0 s3.length),(4,.fsl (eL kV r1)),(5,.int .i64 s2),(10,.fsl (eL rQuad p0)),(11,.int .i64 (ilen p0)),(12,.int .i64 s2),(34,.bool g10)]) (hp E0 [(o1,some ⟨3,1,eL rI s3⟩),(M1+4,some ⟨68,5,[[.int .i64 v5.Op,.int .i64 v5.Dst,.int .i64 v5.A,.int .i64 v5.B,.int .i64 v5.N]]⟩)] (M1+26)) (by
    intro K k
    have e0:=nQ o1 (M1+4)
    refine m1 e0 ?_
    cases hbg7:ige r6 0
    .cases oj (ifF hbg7 hg7)
     cases oj (ifF rfl hg10)
     exact m2 e0 hbg7 k
    cases oj (ifT hbg7 hg7)
    refine m2 e0 hbg7 ?_
    cases hbg10:(ine v5.Op 7)
    .cases oj (ifF hbg10 hg10)
     exact m1 (j e0 (j hbg7 hbg10)) k
    replace hg10:=ifT hbg10 hg10
    obtain⟨r8,hr8,hg10⟩:=bE hg10
    obtain⟨r9,hr9,hg10⟩:=bE hg10
    cases oj hg10
    refine m1 (j e0 (j hbg7 hbg10)) ?_
    refine(c80 hr8).app (m1 (j e0 (j hbg7 hbg10)) ?_)
    refine(c81 hr9).app (m1 (j e0 (j hbg7 hbg10)) ?_)
    exact k) ?_
   refine Ci H ?_ ?_<;>intro H
   .obtain⟨l11,hl11,H⟩:=bE H
    have q0:∀J i,bsA T 23 true i 1 [(0,.int .i64 s2)] J=some (.fsl (eL rI ([s2]:List Int)),J):=fun _ _=>rfl
    have e0:=nQ o1 (M1+4)
    have e1:=nQ o1 (M1+29)
    refine Rb tok [2] (j e0 (j e1 (j q0 (app23 hl11)))) hK4 ?_
    obtain rfl:=oi H
    refine qI hK2 ?_
    exact Rc.fin (AHeap.Sub.trans (zK (AHeap.Sub.refl _)) (zT rfl (by simp;try omega))) ⟨M1+33,(M1+29),(by omega),(by omega),(by omega),rfl,rfl⟩
   refine Js hK4 ?_
   have e0:=nQ o1 (M1+4)
   obtain rfl:=oi H
   refine qJ e0 hK2 ?_
   exact Rc.fin (zK (AHeap.Sub.trans (AHeap.Sub.refl _) (zT rfl (by simp;try omega)))) ⟨M1+28,o1,(by omega),(by omega),(by omega),rfl,rfl⟩
  cases oj H
  refine zH (hO2 _ _ _ _ rfl ⟨rfl,?_⟩)
  refine kr ?_
  exact R2 (M1+1) o1
 intro x a J hx
 obtain⟨y4,rfl⟩:∃x,x=e1:=⟨_,rfl⟩
 obtain⟨rfl,b,U,hr,M2,o2,fM2_0,fM2_1,fM2_2,rfl,rfl⟩:=hx
 (try dsimp only at H)
 show K1 _ _
 refine hK1 _ _ (zI hr ?_)
 refine Rc.mk ?_
 refine qA [2] ?_
 cases oj H;exact W4

theorem c47_o {p0:List gQuad}{r:List gQuad}(H:kI p0=some r){J:AHeap}:ACalls Tryz.prog G 47 [.fsl (eL rQuad p0)] J (fun v J'=>∃M n0:Nat,J.next<=M/\J.next<=n0/\n0<M/\v=.sl n0 0 r.length/\J'=hp J.objs [(n0,some ⟨68,5,eL rQuad r⟩)] M):=by
 refine fr2 [] (by simp) (fun hlt=>?_) ⟨_,func47,rfl,rfl⟩
 generalize J.next=N0 at hlt ⊢
 refine fnK tok func47 ntmps47 results47 ?_
 simp only[argsA,Nat.reduceAdd,hpN]
 unfold kI at H
 refine qA [0] ?_
 refine Wsq [0] fun K1 hK1=>?_
 refine AWP_isnil tok [4,0] ([(0,.fsl (eL rQuad p0))]) rfl rfl (by decide) (by decide) (by decide) (fun _=>rfl) (fun n0=>?_) ?_
 .replace n0:p0=[]:=fW n0
  replace H:(if true=true then   some ([]:List gQuad) else   (appx 40 ([]:List gQuad) p0).bind fun l2=>   some l2:Option ((List gQuad)))=some r:=by simpa [n0,appx] using H
  refine Ci H ?_ ?_<;>intro H
  .refine qA [2] ?_
   cases oj H
   refine Kp [2] ?_
   refine gNilS Wre 2 68 5 [(N0+2,some ⟨68,5,eL rQuad ([]:List gQuad)⟩)] [(2,.sl (N0+2) 0 ([]:List gQuad).length)] (by simp(disch:=omega)) (by simp(disch:=omega) [eN]) [2] rfl ?_
   exact V2 j0 (N0+3) (N0+2)
  refine Js hK1 ?_
  obtain⟨l2,hl2,H⟩:=bE H
  have q2:∀J i,bsA T 34 true i 0 [] J=some (.esl,J):=fun _ _=>rfl
  refine Sz tok [0] [2] q2 (appe34 hl2) ?_
  obtain rfl:=oi H
  refine Kp [2] ?_
  exact V2 j0 (N0+5) (N0+3)
 .
  refine Ci H ?_ ?_<;>intro H
  .refine qA [2] ?_
   cases oj H
   refine Kp [2] ?_
   refine gNilS Wre 2 68 5 [(N0+2,some ⟨68,5,eL rQuad ([]:List gQuad)⟩)] [(2,.sl (N0+2) 0 ([]:List gQuad).length)] (by simp(disch:=omega)) (by simp(disch:=omega) [eN]) [2] rfl ?_
   exact V2 j0 (N0+3) (N0+2)
  refine Js hK1 ?_
  obtain⟨l1,hl1,H⟩:=bE H
  have q1:∀J i,bsA T 34 true i 0 [] J=some (.esl,J):=fun _ _=>rfl
  refine Sz tok [0] [2] q1 (appe34 hl1) ?_
  obtain rfl:=oi H
  refine Kp [2] ?_
  exact V2 j0 (N0+5) (N0+3)

theorem c17 {p0:List gQuad}{r:(List gQuad)×Bool}(H:wN p0=some r):APure Tryz.prog G 17 [.fsl (eL rQuad p0)] (.tup [.fsl (eL rQuad r.1),.bool r.2]):=by
 refine qK func17 ntmps17 results17 fun N0=>?_
 unfold wN at H
 refine qA [0] ?_
 refine Wsq [0] fun K1 hK1=>?_
 obtain⟨r1,hr1,H⟩:=bE H
 refine qD [0,9] (c46 hr1) ?_
 refine Ci H ?_ ?_<;>intro H
 .refine qA [2,3] ?_
  cases oj H;exact W4
 refine Js hK1 ?_
 obtain⟨r2,hr2,H⟩:=bE H
 refine jJ tok [] [0,4] (fun a J=>∃M1 o1:Nat,N0+8<=M1/\N0+8<=o1/\o1<M1/\a=[(0,.fsl (eL rQuad p0)),(4,.sl o1 0 r2.length)]/\J=hp E0 [(o1,some ⟨68,5,eL rQuad r2⟩)] M1) (fun K hK=>?_) ?_
 .skip
  refine m0 ?_
  refine mo (c47_o (H:=hr2)) fun M1 o1 fM1_0 fM1_1 fM1_2=>?_
  refine m2 @hoS @hoN ?_
  exact hK _ _ ⟨M1,o1,(by omega),(by omega),(by omega),rfl,rfl⟩
 rintro a J ⟨M1,o1,fM1_0,fM1_1,fM1_2,rfl,rfl⟩
 refine Wsq [4] fun K2 hK2=>?_
 obtain⟨r3,hr3,H⟩:=bE H
 refine qD [4,13,14,15] (c48 hr3) ?_
 refine Wb ?_
 obtain⟨e1,hse1,H⟩:=bE H
 refine zS [4,13,14,15] (fun s a J=>∃M2 o2:Nat,N0<=M2/\N0<=o2/\o2<M2/\a=[(4,.sl o2 0 s.2.length),(13,.fsl (eL rI r3)),(14,.int .i64 (ilen r3)),(15,.int .i64 s.1)]/\J=hp E0 [(o2,some ⟨68,5,eL rQuad s.2⟩)] M2) (fun s x a J=>x=.exit 0/\Rc G 27 N0 (fun a J=>∃M3 o3:Nat,N0<=M3/\N0<=o3/\o3<M3/\a=[(4,.sl o3 0 s.length)]/\J=hp E0 [(o3,some ⟨68,5,eL rQuad s⟩)] M3) (AAct.keep a [4]) J) hse1 ?_ ?_ ?_
 .refine kp [4,13,14,15] ?_
  exact R2 (M1+4) o1
 .clear H hse1
  rintro⟨s4,s5⟩ fl a J H ⟨M2,o2,fM2_0,fM2_1,fM2_2,rfl,rfl⟩ K3 O3 hK3 hO3
  unfold sG at H;dsimp only at H
  refine qA [4,13,14,15,16] ?_
  refine Wsq [4,13,14,15] fun K4 hK4=>?_
  refine Ci H ?_ ?_<;>intro H
  .refine Js hK4 ?_
   refine Wsq [4,13,14,15] fun K5 hK5=>?_
   refine Wb ?_
   obtain⟨v7,hv7,H⟩:=bE H
   refine qB [4,6,13,14,15] (ix23 hv7) ?_
   obtain⟨v8,hv8,H⟩:=bE H
   obtain⟨l9,hl9,H⟩:=bE H
   refine Rt tok [] [4,13,14,15] (by intro K k;simp -dsimp -implicitDefEqProofs [ixo34 hv8,(zG hv8).2.2,(setx_iff.1 hl9).2.symm];exact k) fun a ha=>?_
   (try rw[<- zE hl9] at ha);(try rw[<- zE hl9])
   refine hK5 _ _ ?_;rw[ha]
   refine Rc.mk ?_
   obtain rfl:=oi H
   refine qI hK3 ?_
   exact R2 (M2+13) o2
  cases oj H
  refine zH (hO3 _ _ _ _ rfl ⟨rfl,?_⟩)
  refine kr ?_
  exact R2 (M2+1) o2
 intro x a J hx
 obtain⟨y6,rfl⟩:∃x,x=e1:=⟨_,rfl⟩
 obtain⟨rfl,b,U,hr,M3,o3,fM3_0,fM3_1,fM3_2,rfl,rfl⟩:=hx
 (try dsimp only at H)
 show K2 _ _
 refine hK2 _ _ (zI hr ?_)
 refine Rc.mk ?_
 refine qA [2,3] ?_
 cases oj H;exact W4

theorem c53 {p0:Int}{r:List Bool}(H:xU p0=some r):APure Tryz.prog G 53 [.int .u16 p0] (.fsl (eL rB r)):=by
 refine qK func53 ntmps53 results53 fun N0=>?_
 unfold xU at H
 refine qA [0] ?_
 obtain⟨l1,hl1,H⟩:=bE H
 refine qB [0,3] (mak38 hl1) ?_
 refine Wsq [3] fun K1 hK1=>?_
 refine qA [0,3,7,8] ?_
 refine Wb ?_
 obtain⟨e1,hse1,H⟩:=bE H
 refine zS [0,3,7,8] (fun s a J=>∃M1 o1:Nat,N0<=M1/\N0<=o1/\o1<M1/\a=[(0,.int .u16 p0),(3,.sl o1 0 s.2.length),(7,.int .i64 (ilen l1)),(8,.int .i64 s.1)]/\J=hp E0 [(o1,some ⟨4,1,eL rB s.2⟩)] M1) (fun s x a J=>x=.exit 0/\Rc G 19 N0 (fun a J=>∃M2 o2:Nat,N0<=M2/\N0<=o2/\o2<M2/\a=[(3,.sl o2 0 s.length)]/\J=hp E0 [(o2,some ⟨4,1,eL rB s⟩)] M2) (AAct.keep a [3]) J) hse1 ?_ ?_ ?_
 .refine kp [0,3,7,8] ?_
  exact R2 (N0+6) (N0+1)
 .clear H hse1
  rintro⟨s2,s3⟩ fl a J H ⟨M1,o1,fM1_0,fM1_1,fM1_2,rfl,rfl⟩ K2 O2 hK2 hO2
  unfold yT at H;dsimp only at H
  refine qA [0,3,7,8,9] ?_
  refine Wsq [0,3,7,8] fun K3 hK3=>?_
  refine Ci H ?_ ?_<;>intro H
  .refine Js hK3 ?_
   refine Wsq [0,3,7,8] fun K4 hK4=>?_
   refine Wb ?_
   refine qA [0,3,4,7,8] ?_
   obtain⟨r5,hr5,H⟩:=bE H
   obtain⟨v6,hv6,H⟩:=bE H
   obtain⟨l7,hl7,H⟩:=bE H
   refine Rt tok [] [0,3,7,8] (by intro K k;(repeat first|simp -dsimp -implicitDefEqProofs [ixo38 hv6,(zG hv6).2.2,(setx_iff.1 hl7).2.symm]|refine(c81 hr5).app ?_);exact k) fun a ha=>?_
   (try rw[<- zE hl7] at ha);(try rw[<- zE hl7])
   refine hK4 _ _ ?_;rw[ha]
   refine Rc.mk ?_
   obtain rfl:=oi H
   refine qI hK2 ?_
   exact R2 (M1+12) o1
  cases oj H
  refine zH (hO2 _ _ _ _ rfl ⟨rfl,?_⟩)
  refine kr ?_
  exact R2 (M1+1) o1
 intro x a J hx
 obtain⟨y4,rfl⟩:∃x,x=e1:=⟨_,rfl⟩
 obtain⟨rfl,b,U,hr,M2,o2,fM2_0,fM2_1,fM2_2,rfl,rfl⟩:=hx
 (try dsimp only at H)
 show K1 _ _
 refine hK1 _ _ (zI hr ?_)
 refine Rc.mk ?_
 refine qA [2] ?_
 cases oj H;exact W4

theorem c20 {p0:List gQuad}{r:(List (List Bool))}(H:cP p0=some r):APure Tryz.prog G 20 [.fsl (eL rQuad p0)] (.fsl (eL rL_B r)):=by
 refine qK func20 ntmps20 results20 fun N0=>?_
 unfold cP at H
 refine qA [0] ?_
 refine Wsq [0] fun K1 hK1=>?_
 obtain⟨r1,hr1,H⟩:=bE H
 refine qD [0,8] (c46 hr1) ?_
 refine Ci H ?_ ?_<;>intro H
 .refine qA [2] ?_
  cases oj H;exact W4
 refine Js hK1 ?_
 refine qA [0,3] ?_
 refine Wsq [3] fun K2 hK2=>?_
 obtain⟨r2,hr2,H⟩:=bE H
 refine qD [3,10,11,12] (c52 hr2) ?_
 refine Wb ?_
 obtain⟨e1,hse1,H⟩:=bE H
 refine zS [3,10,11,12] (fun s a J=>∃M1 o1:Nat,N0<=M1/\N0<=o1/\o1<M1/\a=[(3,.sl o1 0 s.2.length),(10,.fsl (eL kV r2)),(11,.int .i64 (ilen r2)),(12,.int .i64 s.1)]/\J=hp E0 [(o1,some ⟨38,1,eL rL_B s.2⟩)] M1) (fun s x a J=>x=.exit 0/\Rc G 23 N0 (fun a J=>∃M2 o2:Nat,N0<=M2/\N0<=o2/\o2<M2/\a=[(3,.sl o2 0 s.length)]/\J=hp E0 [(o2,some ⟨38,1,eL rL_B s⟩)] M2) (AAct.keep a [3]) J) hse1 ?_ ?_ ?_
 .refine kp [3,10,11,12] ?_
  refine gNilS zI 3 38 1 [(N0+9,some ⟨38,1,eL rL_B ([]:List (List Bool))⟩)] [(3,.sl (N0+9) 0 ([]:List (List Bool)).length),(10,.fsl (eL kV r2)),(11,.int .i64 (ilen r2)),(12,.int .i64 0)] (by simp(disch:=omega)) (by simp(disch:=omega) [eN]) [3,10,11,12] rfl ?_
  exact R2 (N0+10) (N0+9)
 .clear H hse1
  rintro⟨s3,s4⟩ fl a J H ⟨M1,o1,fM1_0,fM1_1,fM1_2,rfl,rfl⟩ K3 O3 hK3 hO3
  unfold pA at H;dsimp only at H
  refine qA [3,10,11,12,13] ?_
  refine Wsq [3,10,11,12] fun K4 hK4=>?_
  refine Ci H ?_ ?_<;>intro H
  .refine Js hK4 ?_
   refine Wsq [3,10,11,12] fun K5 hK5=>?_
   refine Wb ?_
   obtain⟨v6,hv6,H⟩:=bE H
   refine qB [3,5,10,11,12] (ix71 hv6) ?_
   obtain⟨r7,hr7,H⟩:=bE H
   obtain⟨l8,hl8,H⟩:=bE H
   have q0:∀J i,bsA T 39 true i 1 [(0,.fsl (eL rB r7))] J=some (.fsl (eL rL_B ([r7]:List (List Bool))),J):=fun _ _=>rfl
   have e0:=nQ o1 (M1+8)
   refine Rt tok [3] [3,10,11,12] (by intro K k;(repeat first|simp -dsimp -implicitDefEqProofs [e0,q0,app39 hl8]|refine(c53 hr7).app ?_);exact k) fun a ha=>?_
   refine hK5 _ _ ?_;rw[ha]
   refine Rc.mk ?_
   obtain rfl:=oi H
   refine qI hK3 ?_
   exact R2 (M1+12) (M1+8)
  cases oj H
  refine zH (hO3 _ _ _ _ rfl ⟨rfl,?_⟩)
  refine kr ?_
  exact R2 (M1+1) o1
 intro x a J hx
 obtain⟨y5,rfl⟩:∃x,x=e1:=⟨_,rfl⟩
 obtain⟨rfl,b,U,hr,M2,o2,fM2_0,fM2_1,fM2_2,rfl,rfl⟩:=hx
 (try dsimp only at H)
 show K2 _ _
 refine hK2 _ _ (zI hr ?_)
 refine Rc.mk ?_
 refine qA [2] ?_
 cases oj H;exact W4

theorem c3 {p0:List Int}{p1:List Int}{r:Bool}(H:pM p0 p1=some r):APure Tryz.prog G 3 [.fsl (eL rU8 p0),.fsl (eL rU8 p1)] (.bool r):=by
 refine qK func3 ntmps3 results3 fun N0=>?_
 unfold pM at H
 refine qA [0,1] ?_
 refine Wsq [0,1] fun K1 hK1=>?_
 obtain⟨g1,hg1,H⟩:=bE H
 refine qF tok [0,1,28] ([(0,.fsl (eL rU8 p0)),(1,.fsl (eL rU8 p1)),(28,.bool g1)]) (hp E0 [] (N0+9)) (by
  intro K k
  refine m0 ?_
  cases hbg1:igt (ilen p0) 1048576
  .cases oj (ifF hbg1 hg1)
   exact m1 hbg1 k
  cases oj (ifT hbg1 hg1)
  refine m1 hbg1 ?_
  exact k) ?_
 refine Ci H ?_ ?_<;>intro H
 .refine qA [4] ?_
  cases oj H;exact W4
 refine Js hK1 ?_
 obtain⟨r2,hr2,H⟩:=bE H
 refine qD [1,5,6] (c13 hr2) ?_
 obtain⟨r3,hr3,H⟩:=bE H
 refine qD [1,5,6,7,8] (c14 hr3) ?_
 obtain⟨r4,hr4,H⟩:=bE H
 refine qD [1,5,6,7,8,9,10] (c15 hr4) ?_
 refine Wsq [1,5,6] fun K2 hK2=>?_
 obtain⟨g6,hg6,H⟩:=bE H
 obtain⟨g7,hg7,H⟩:=bE H
 refine qF tok [1,5,6,7,8,9,10,58] ([(1,.fsl (eL rU8 p1)),(5,.fsl (eL rI r2.1)),(6,.fsl (eL zA r2.2)),(7,.ptr (N0+22) 0 0),(8,.bool r3.2),(9,.ptr (N0+31) 0 0),(10,.bool r4.2),(58,.bool g7)]) (hp E0 [(N0+22,some ⟨30,6,[[.fsl (eL zA r3.1.Codes),.fsl (eL zF r3.1.Threads),.fsl (eL rBox r3.1.Boxes),.int .i64 r3.1.Turn,.int .i64 r3.1.Idle,.fsl (eL rI r3.1.Out)]]⟩),(N0+31,some ⟨30,6,[[.fsl (eL zA r4.1.Codes),.fsl (eL zF r4.1.Threads),.fsl (eL rBox r4.1.Boxes),.int .i64 r4.1.Turn,.int .i64 r4.1.Idle,.fsl (eL rI r4.1.Out)]]⟩)] (N0+47)) (by
  intro K k
  refine m0 ?_
  cases hbg6:bneb r3.2 r4.2
  .replace hg6:=ifF hbg6 hg6
   obtain⟨r5,hr5,hg6⟩:=bE hg6
   obtain rfl:=oi hg6
   refine m1 hbg6 ?_
   refine(c16 hr5).app (m1 hbg6 ?_)
   cases hbg7:(bnot r5)
   .cases oj (ifF hbg7 hg7)
    exact m2 hbg6 hbg7 k
   cases oj (ifT hbg7 hg7)
   exact m2 hbg6 hbg7 k
  cases oj (ifT hbg6 hg6)
  cases oj (ifT rfl hg7)
  refine m1 hbg6 ?_
  exact k) ?_
 refine Ci H ?_ ?_<;>intro H
 .obtain⟨g9,hg9,H⟩:=bE H
  refine qF tok [4] ([(4,.bool g9)]) (hp E0 [(N0+22,some ⟨30,6,[[.fsl (eL zA r3.1.Codes),.fsl (eL zF r3.1.Threads),.fsl (eL rBox r3.1.Boxes),.int .i64 r3.1.Turn,.int .i64 r3.1.Idle,.fsl (eL rI r3.1.Out)]]⟩),(N0+31,some ⟨30,6,[[.fsl (eL zA r4.1.Codes),.fsl (eL zF r4.1.Threads),.fsl (eL rBox r4.1.Boxes),.int .i64 r4.1.Turn,.int .i64 r4.1.Idle,.fsl (eL rI r4.1.Out)]]⟩)] (N0+56)) (by
   intro K k
   refine m0 ?_
   cases hbg9:beqb r3.2 r4.2
   .cases oj (ifF hbg9 hg9)
    exact m1 hbg9 k
   replace hg9:=ifT hbg9 hg9
   obtain⟨r8,hr8,hg9⟩:=bE hg9
   cases oj hg9
   refine m1 hbg9 ?_
   refine(c16 hr8).app (m1 hbg9 ?_)
   exact k) ?_
  cases oj H;exact W4
 refine Js hK2 ?_
 have q0:∀J i,bsA T 24 true i 0 [] J=some (.esl,J):=fun _ _=>rfl
 refine Sy tok [0] [1,5,6,11] q0 ?_
 refine Wsq [1,5,6,11] fun K3 hK3=>?_
 refine qA [1,5,6,11,12] ?_
 refine Wb ?_
 obtain⟨e1,hse1,H⟩:=bE H
 refine zS [1,5,6,11,12] (fun s a J=>∃M1 o1:Nat,N0<=M1/\N0<=o1/\o1<M1/\a=[(1,.fsl (eL rU8 p1)),(5,.fsl (eL rI r2.1)),(6,.fsl (eL zA r2.2)),(11,.sl o1 0 s.2.length),(12,.int .i64 s.1)]/\J=hp E0 [(o1,some ⟨34,1,eL zA s.2⟩)] M1) (fun e x a J=>match e with|.inl s=>x=.exit 0/\Rc G 159 N0 (fun a J=>∃M2 o2:Nat,N0<=M2/\N0<=o2/\o2<M2/\a=[(1,.fsl (eL rU8 p1)),(5,.fsl (eL rI r2.1)),(6,.fsl (eL zA r2.2)),(11,.sl o2 0 s.length)]/\J=hp E0 [(o2,some ⟨34,1,eL zA s⟩)] M2) (AAct.keep a [1,5,6,11]) J|.inr s=>x=.ret/\∃vs,resA T J a [.tmp 4]=some vs/\∃d,thawA (fun _=>true) J d (tupA vs)=.bool s) hse1 ?_ ?_ ?_
 .refine kp [1,5,6,11,12] ?_
  refine gNilS zI 11 34 1 [(N0+22,some ⟨30,6,[[.fsl (eL zA r3.1.Codes),.fsl (eL zF r3.1.Threads),.fsl (eL rBox r3.1.Boxes),.int .i64 r3.1.Turn,.int .i64 r3.1.Idle,.fsl (eL rI r3.1.Out)]]⟩),(N0+31,some ⟨30,6,[[.fsl (eL zA r4.1.Codes),.fsl (eL zF r4.1.Threads),.fsl (eL rBox r4.1.Boxes),.int .i64 r4.1.Turn,.int .i64 r4.1.Idle,.fsl (eL rI r4.1.Out)]]⟩),(N0+50,some ⟨34,1,eL zA ([]:List (List gQuad))⟩)] [(1,.fsl (eL rU8 p1)),(5,.fsl (eL rI r2.1)),(6,.fsl (eL zA r2.2)),(11,.sl (N0+50) 0 ([]:List (List gQuad)).length),(12,.int .i64 0)] (by simp(disch:=omega)) (by simp(disch:=omega) [eN]) [1,5,6,11,12] rfl ?_
  exact Rc.fin (AHeap.Sub.trans (AHeap.Sub.trans (zK (AHeap.Sub.refl _)) (zT rfl (by simp;try omega))) (zT rfl (by simp;try omega))) ⟨N0+51,(N0+50),(by omega),(by omega),(by omega),rfl,rfl⟩
 .clear H hse1
  rintro⟨s10,s11⟩ fl a J H ⟨M1,o1,fM1_0,fM1_1,fM1_2,rfl,rfl⟩ K4 O4 hK4 hO4
  unfold gX at H;dsimp only at H
  refine Wsq [1,5,6,11,12] fun K5 hK5=>?_
  refine qA [1,5,6,11,12,71] ?_
  refine Ci H ?_ ?_<;>intro H
  .refine Js hK5 ?_
   refine Wsq [1,5,6,11,12] fun K6 hK6=>?_
   refine Wb ?_
   obtain⟨v13,hv13,H⟩:=bE H
   obtain⟨r14,hr14,H⟩:=bE H
   refine qE [1,5,6,11,12,13,14] (ix24 hv13) (c17 hr14) ?_
   refine Wsq [1,5,6,11,12,13] fun K7 hK7=>?_
   refine qA [1,5,6,11,12,13,83] ?_
   refine Ci H ?_ ?_<;>intro H
   .refine qA [4] ?_
    cases oj H
    refine Kp [4] ?_
    refine Wr (hO4 _ _ _ _ rfl ⟨rfl,?_⟩)
    exact⟨[.bool false],by simp,4,by simp[eN]⟩
   refine Js hK7 ?_
   obtain⟨l15,hl15,H⟩:=bE H
   have q1:∀J i,bsA T 24 true i 1 [(0,.fsl (eL rQuad r14.1))] J=some (.fsl (eL zA ([r14.1]:List (List gQuad))),J):=fun _ _=>rfl
   have e0:=nQ o1 (M1+19)
   refine Rb tok [2] (j e0 (j q1 (app24 hl15))) hK6 ?_
   obtain rfl:=oi H
   refine qI hK4 ?_
   exact R2 (M1+24) (M1+19)
  obtain rfl:=oi H
  refine zH (hO4 _ _ _ _ rfl ⟨rfl,?_⟩)
  refine kr ?_
  exact R2 (M1+4) o1
 intro x a J hx
 rcases e1 with y12|r0
 .obtain⟨rfl,b,U,hr,M2,o2,fM2_0,fM2_1,fM2_2,rfl,rfl⟩:=hx
  (try dsimp only at H)
  show K3 _ _
  refine hK3 _ _ (zI hr ?_)
  refine Rc.mk ?_
  obtain⟨v16,hv16,H⟩:=bE H
  refine qB [5,6,11,15] hv16 ?_
  obtain⟨r17,hr17,H⟩:=bE H
  have e0:=nQ o2 (M2+8)
  refine qE [5,6,11,15,16] e0 (c18 hr17) ?_
  have z0:=nQ o2 (M2+8)
  refine gFrz Wre 4 [o2] [(M2+8,some ⟨30,6,[[.fsl (eL zA r17.Codes),.fsl (eL zF r17.Threads),.fsl (eL rBox r17.Boxes),.int .i64 r17.Turn,.int .i64 r17.Idle,.fsl (eL rI r17.Out)]]⟩)] [(5,.fsl (eL rI r2.1)),(6,.fsl (eL zA r2.2)),(11,.fsl (eL zA y12)),(15,.int .i64 v16),(16,.ptr (M2+8) 0 0)] (by simp[z0]) (cutD (by simp[z0])) ?_
  obtain⟨r18,hr18,H⟩:=bE H
  refine qD [6,11,16,17] (c18 hr18) ?_
  refine Wsq [6,11,16,17] fun K8 hK8=>?_
  obtain⟨g20,hg20,H⟩:=bE H
  refine qF tok [6,11,16,17,110] ([(6,.fsl (eL zA r2.2)),(11,.fsl (eL zA y12)),(16,.ptr (M2+8) 0 0),(17,.ptr (M2+14) 0 0),(110,.bool g20)]) (hp E0 [(M2+8,some ⟨30,6,[[.fsl (eL zA r17.Codes),.fsl (eL zF r17.Threads),.fsl (eL rBox r17.Boxes),.int .i64 r17.Turn,.int .i64 r17.Idle,.fsl (eL rI r17.Out)]]⟩),(M2+14,some ⟨30,6,[[.fsl (eL zA r18.Codes),.fsl (eL zF r18.Threads),.fsl (eL rBox r18.Boxes),.int .i64 r18.Turn,.int .i64 r18.Idle,.fsl (eL rI r18.Out)]]⟩)] (M2+28)) (by
   intro K k
   refine m0 ?_
   cases hbg20:ine (ilen r17.Threads) (ilen r2.2)
   .replace hg20:=ifF hbg20 hg20
    obtain⟨r19,hr19,hg20⟩:=bE hg20
    cases oj hg20
    refine m1 hbg20 ?_
    refine(c19 hr19).app (m1 hbg20 ?_)
    exact k
   cases oj (ifT hbg20 hg20)
   refine m1 hbg20 ?_
   exact k) ?_
  refine Ci H ?_ ?_<;>intro H
  .refine qA [4] ?_
   cases oj H;exact W4
  refine Js hK8 ?_
  refine Wsq [] fun K9 hK9=>?_
  refine qA [6,11,16,17,18] ?_
  refine Wb ?_
  obtain⟨e3,hse3,H⟩:=bE H
  refine zS [6,11,16,17,18] (fun s a J=>∃M3 o3 o4:Nat,N0<=M3/\N0<=o3/\o3<M3/\N0<=o4/\o4<M3/\¬o3=o4/\a=[(6,.fsl (eL zA r2.2)),(11,.fsl (eL zA y12)),(16,.ptr o3 0 0),(17,.ptr o4 0 0),(18,.int .i64 s.1)]/\J=hp E0 [(o3,some ⟨30,6,[[.fsl (eL zA s.2.1.Codes),.fsl (eL zF s.2.1.Threads),.fsl (eL rBox s.2.1.Boxes),.int .i64 s.2.1.Turn,.int .i64 s.2.1.Idle,.fsl (eL rI s.2.1.Out)]]⟩),(o4,some ⟨30,6,[[.fsl (eL zA s.2.2.Codes),.fsl (eL zF s.2.2.Threads),.fsl (eL rBox s.2.2.Boxes),.int .i64 s.2.2.Turn,.int .i64 s.2.2.Idle,.fsl (eL rI s.2.2.Out)]]⟩)] M3) (fun e x a J=>match e with|.inl s=>x=.exit 2/\Rc G 159 N0 (fun a J=>∃M4:Nat,N0<=M4/\a=[]/\J=hp E0 [] M4) (AAct.keep a []) J|.inr s=>x=.ret/\∃vs,resA T J a [.tmp 4]=some vs/\∃d,thawA (fun _=>true) J d (tupA vs)=.bool s) hse3 ?_ ?_ ?_
  .refine kp [6,11,16,17,18] ?_
   exact R3 (M2+29) (M2+8) (M2+14)
  .clear H hse3
   rintro⟨s21,s22,s23⟩ fl a J H ⟨M3,o3,o4,fM3_0,fM3_1,fM3_2,fM3_3,fM3_4,fM3_5,rfl,rfl⟩ K10 O10 hK10 hO10
   unfold jV at H;dsimp only at H
   refine Wsq [6,11,16,17,18] fun K11 hK11=>?_
   have e0:=nQ o3 o4
   refine qB [6,11,16,17,18,114] e0 ?_
   refine Ci H ?_ ?_<;>intro H
   .refine Js hK11 ?_
    refine Wsq [6,11,16,17,18] fun K12 hK12=>?_
    refine Wb ?_
    obtain⟨v24,hv24,H⟩:=bE H
    obtain⟨r25,hr25,H⟩:=bE H
    obtain⟨v26,hv26,H⟩:=bE H
    obtain⟨v27,hv27,H⟩:=bE H
    refine Sd tok tokM [] [6] [0,1,2,3,4,5,7,6,8,9,10,11,12,13] [6,11,16,17,18,19] (by
     intro K k
     have e0:=nQ o3 o4
     simp only[pickL,zN,zO]
     repeat first|simp -dsimp -implicitDefEqProofs [e0,ix24 hv24,ix27 hv26,ix39 hv27]|refine Pc.mk (c20 hr25) ?_
     exact k) ?_
    have e0:=nQ o3 o4
    refine qB [6,11,16,17,18,19,20] e0 ?_
    refine Wb ?_
    obtain⟨e2,hse2,H⟩:=bE H
    refine zS [6,11,16,17,18,19,20] (fun s a J=>∃M5 o5 o6:Nat,N0<=M5/\N0<=o5/\o5<M5/\N0<=o6/\o6<M5/\¬o5=o6/\a=[(6,.fsl (eL zA r2.2)),(11,.fsl (eL zA y12)),(16,.ptr o5 0 0),(17,.ptr o6 0 0),(18,.int .i64 s21),(19,.fsl (eL rB v27)),(20,.int .i64 s.1)]/\J=hp E0 [(o5,some ⟨30,6,[[.fsl (eL zA s.2.1.Codes),.fsl (eL zF s.2.1.Threads),.fsl (eL rBox s.2.1.Boxes),.int .i64 s.2.1.Turn,.int .i64 s.2.1.Idle,.fsl (eL rI s.2.1.Out)]]⟩),(o6,some ⟨30,6,[[.fsl (eL zA s.2.2.Codes),.fsl (eL zF s.2.2.Threads),.fsl (eL rBox s.2.2.Boxes),.int .i64 s.2.2.Turn,.int .i64 s.2.2.Idle,.fsl (eL rI s.2.2.Out)]]⟩)] M5) (fun e x a J=>match e with|.inl s=>x=.exit 4/\Rc G 159 N0 (fun a J=>∃M6 o7 o8:Nat,N0<=M6/\N0<=o7/\o7<M6/\N0<=o8/\o8<M6/\¬o7=o8/\a=[(6,.fsl (eL zA r2.2)),(11,.fsl (eL zA y12)),(16,.ptr o7 0 0),(17,.ptr o8 0 0),(18,.int .i64 s21)]/\J=hp E0 [(o7,some ⟨30,6,[[.fsl (eL zA s.1.Codes),.fsl (eL zF s.1.Threads),.fsl (eL rBox s.1.Boxes),.int .i64 s.1.Turn,.int .i64 s.1.Idle,.fsl (eL rI s.1.Out)]]⟩),(o8,some ⟨30,6,[[.fsl (eL zA s.2.Codes),.fsl (eL zF s.2.Threads),.fsl (eL rBox s.2.Boxes),.int .i64 s.2.Turn,.int .i64 s.2.Idle,.fsl (eL rI s.2.Out)]]⟩)] M6) (AAct.keep a [6,11,16,17,18]) J|.inr s=>x=.ret/\∃vs,resA T J a [.tmp 4]=some vs/\∃d,thawA (fun _=>true) J d (tupA vs)=.bool s) hse2 ?_ ?_ ?_
    .refine kp [6,11,16,17,18,19,20] ?_
     exact R3 (M3+19) o3 o4
    .clear H hse2
     rintro⟨s28,s29,s30⟩ fl a J H ⟨M5,o5,o6,fM5_0,fM5_1,fM5_2,fM5_3,fM5_4,fM5_5,rfl,rfl⟩ K13 O13 hK13 hO13
     unfold jU at H;dsimp only at H
     refine Wsq [6,11,16,17,18,19,20] fun K14 hK14=>?_
     have e0:=nQ o5 o6
     refine qB [6,11,16,17,18,19,20,131] e0 ?_
     refine Ci H ?_ ?_<;>intro H
     .refine Js hK14 ?_
      refine Wsq [6,11,16,17,18,19,20] fun K15 hK15=>?_
      refine Wb ?_
      obtain⟨v33,hv33,H⟩:=bE H
      obtain⟨g38,hg38,H⟩:=bE H
      refine fH tok tokM [] [6,15,17,18,19,21,22] [0,1,2,3,4,5,7,11,14,16,20,6,8,9,10,12,13,15,17,18,19,21,22,23,24] [6,11,16,17,18,19,20,158] (fun a J=>a=[(6,.fsl (eL zA r2.2)),(11,.fsl (eL zA y12)),(16,.ptr o5 0 0),(17,.ptr o6 0 0),(18,.int .i64 s21),(19,.fsl (eL rB v27)),(20,.int .i64 s28),(158,.bool g38)]/\J=hp E0 [(o5,some ⟨30,6,[[.fsl (eL zA s29.Codes),.fsl (eL zF s29.Threads),.fsl (eL rBox s29.Boxes),.int .i64 s29.Turn,.int .i64 s29.Idle,.fsl (eL rI s29.Out)]]⟩),(o6,some ⟨30,6,[[.fsl (eL zA s30.Codes),.fsl (eL zF s30.Threads),.fsl (eL rBox s30.Boxes),.int .i64 s30.Turn,.int .i64 s30.Idle,.fsl (eL rI s30.Out)]]⟩)] (M5+27)) (by decide) (fun K hK=>?_) ?_
      .simp only[pickL,zN,zO]
       have e0:=nQ o5 o6
       refine m2 e0 (ix38 hv33) ?_
       cases hbg38:v33
       .cases oj (ifF hbg38 hg38)
        refine m1 (j e0 (j (ix38 hv33) hbg38)) ?_
        exact hK _ _ ⟨rfl,rfl⟩
       replace hg38:=ifT hbg38 hg38
       obtain⟨v34,hv34,hg38⟩:=bE hg38
       obtain⟨v35,hv35,hg38⟩:=bE hg38
       obtain⟨v36,hv36,hg38⟩:=bE hg38
       obtain⟨v37,hv37,hg38⟩:=bE hg38
       cases oj hg38
       refine m1 (j e0 (j (ix38 hv33) (j hbg38 (j (ix27 hv34) (j (ix23 hv35) (j (ix27 hv36) (ix23 hv37))))))) ?_
       exact hK _ _ ⟨rfl,rfl⟩
      rintro a J ⟨rfl,rfl⟩
      refine Ci H ?_ ?_<;>intro H
      .have e0:=nQ o5 o6
       refine qB [4] e0 ?_
       cases oj H
       refine Kp [4] ?_
       have z2:=nQ o5 o6
       refine Wr (hO13 _ _ _ _ rfl ⟨rfl,?_⟩)
       exact⟨[.bool false],by simp[z2],4,by simp[eN,z2]⟩
      refine Js hK15 ?_
      have e0:=nQ o5 o6
      obtain rfl:=oi H
      refine qJ e0 hK13 ?_
      exact R3 (M5+30) o5 o6
     obtain rfl:=oi H
     refine zH (hO13 _ _ _ _ rfl ⟨rfl,?_⟩)
     refine kr ?_
     exact R3 (M5+2) o5 o6
    intro x a J hx
    rcases e2 with⟨y31,y32⟩|r0
    .obtain⟨rfl,b,U,hr,M6,o7,o8,fM6_0,fM6_1,fM6_2,fM6_3,fM6_4,fM6_5,rfl,rfl⟩:=hx
     (try dsimp only at H)
     show K12 _ _
     refine hK12 _ _ (zI hr ?_)
     refine Rc.mk ?_
     have e0:=nQ o7 o8
     obtain rfl:=oi H
     refine qJ e0 hK10 ?_
     exact R3 (M6+3) o7 o8
    obtain⟨rfl,hx2⟩:=hx
    (try dsimp only at H)
    cases oj H
    exact hO10 _ _ _ _ rfl ⟨rfl,hx2⟩
   cases oj H
   refine zH (hO10 _ _ _ _ rfl ⟨rfl,?_⟩)
   refine kr ?_
   exact Rc.fin (AHeap.Sub.trans (AHeap.Sub.trans (AHeap.Sub.refl _) (zT rfl (by simp;try omega))) (zT rfl (by simp;try omega))) ⟨M3+4,(by omega),rfl,rfl⟩
  intro x a J hx
  rcases e3 with⟨⟩|r0
  .obtain⟨rfl,b,U,hr,M4,fM4_0,rfl,rfl⟩:=hx
   (try dsimp only at H)
   show K9 _ _
   refine hK9 _ _ (zI hr ?_)
   refine Rc.mk ?_
   refine qA [4] ?_
   cases oj H;exact W4
  obtain⟨rfl,hx2⟩:=hx
  (try dsimp only at H)
  cases oj H;first|exact hx2|(simp only[List.set_set] at hx2 ⊢;exact hx2)
 obtain⟨rfl,hx2⟩:=hx
 (try dsimp only at H)
 cases oj H;first|exact hx2|(simp only[List.set_set] at hx2 ⊢;exact hx2)
end Go.Proofs.YtnaikeccpnadgaaGreat
