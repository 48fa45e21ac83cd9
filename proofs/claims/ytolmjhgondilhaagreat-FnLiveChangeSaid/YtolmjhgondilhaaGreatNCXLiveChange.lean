/- The contracts of functions of the program (CXLiveChange): each computes what its mirror computes. No conditions. -/
import Derived.Test.YtolmjhgondilhaaGreatNCNLiveChange
import Derived.Test.YtolmjhgondilhaaGreatNCT3
set_option linter.unusedSimpArgs false
set_option linter.unusedVariables false
set_option maxRecDepth 20000
set_option maxHeartbeats 4000000
namespace Go.Proofs.YtolmjhgondilhaaGreat
open Go Go.Abs Go.RowKit Tryz

theorem c51 {p0:gQuad}{p1:Int}{r:List Int}(H:dN p0 p1=some r):APure Tryz.prog G 51 [.agg [.int .i64 p0.Op,.int .i64 p0.Dst,.int .i64 p0.A,.int .i64 p0.B,.int .i64 p0.N],.int .i64 p1] (.fsl (eL rI r)):=by
 refine qK func51 ntmps51 results51 fun N0=>?_
 unfold dN at H
 refine S0 tok [0] [1,2] ?_
 refine Wsq [1] fun K1 hK1=>?_
 refine Wb ?_
 refine qA [1,2,5] ?_
 refine Ci H ?_ ?_<;>intro H
 .refine qA [4] ?_
  cases oj H;exact W4
 refine qA [1,2,9] ?_
 refine Ci H ?_ ?_<;>intro H
 .have q0:∀J i,bsA T 23 true i 1 [(0,.int .i64 p0.N)] J=some (.fsl (eL rI ([p0.N]:List Int)),J):=fun _ _=>rfl
  refine Sy tok [2] [4] q0 ?_
  cases oj H;exact W4
 obtain⟨g1,hg1,H⟩:=bE H
 refine qF tok [1,2,16] ([(1,.int .i64 p1),(2,.fptr [.int .i64 p0.Op,.int .i64 p0.Dst,.int .i64 p0.A,.int .i64 p0.B,.int .i64 p0.N] 0),(16,.bool g1)]) (hp E0 [] (N0+21)) (by
  intro K k
  refine m0 ?_
  cases hbg1:ieq p0.Op 5
  .cases oj (ifF hbg1 hg1)
   exact m1 hbg1 k
  cases oj (ifT hbg1 hg1)
  refine m1 hbg1 ?_
  exact k) ?_
 refine Ci H ?_ ?_<;>intro H
 .have q1:∀J i,bsA T 23 true i 2 [(0,.int .i64 p0.N),(1,.int .i64 (iadd .i64 p1 1))] J=some (.fsl (eL rI ([p0.N,iadd .i64 p1 1]:List Int)),J):=fun _ _=>rfl
  refine Sy tok [4] [4] q1 ?_
  cases oj H;exact W4
 obtain⟨g2,hg2,H⟩:=bE H
 refine qF tok [1,2,32] ([(1,.int .i64 p1),(2,.fptr [.int .i64 p0.Op,.int .i64 p0.Dst,.int .i64 p0.A,.int .i64 p0.B,.int .i64 p0.N] 0),(32,.bool g2)]) (hp E0 [] (N0+32)) (by
  intro K k
  refine m0 ?_
  cases hbg2:ieq p0.Op 5
  .cases oj (ifF hbg2 hg2)
   exact m1 hbg2 k
  cases oj (ifT hbg2 hg2)
  refine m1 hbg2 ?_
  exact k) ?_
 refine Ci H ?_ ?_<;>intro H
 .have q2:∀J i,bsA T 23 true i 2 [(0,.int .i64 (iadd .i64 p1 1)),(1,.int .i64 p0.N)] J=some (.fsl (eL rI ([iadd .i64 p1 1,p0.N]:List Int)),J):=fun _ _=>rfl
  refine Sy tok [4] [4] q2 ?_
  cases oj H;exact W4
 refine Js hK1 ?_
 have q3:∀J i,bsA T 23 true i 1 [(0,.int .i64 (iadd .i64 p1 1))] J=some (.fsl (eL rI ([iadd .i64 p1 1]:List Int)),J):=fun _ _=>rfl
 refine Sy tok [2] [4] q3 ?_
 cases oj H;exact W4

theorem c81 {p0:List gQuad}{p1:List Int}{p2:Int}{r:Int}(H:uT p0 p1 p2=some r):APure Tryz.prog G 81 [.fsl (eL rQuad p0),.fsl (eL yQ p1),.int .i64 p2] (.int .u16 r):=by
 refine qK func81 ntmps81 results81 fun N0=>?_
 unfold uT at H
 refine qA [0,1,2] ?_
 refine qA [0,1,2,7] ?_
 refine Wsq [7] fun K1 hK1=>?_
 obtain⟨v1,hv1,H⟩:=bE H
 obtain⟨r2,hr2,H⟩:=bE H
 refine qE [1,7,15,16,17] (ix34 hv1) (c51 hr2) ?_
 refine Wb ?_
 obtain⟨e1,hse1,H⟩:=bE H
 refine zX [1,7,15,16,17] (fun s a J=>∃M1:Nat,N0<=M1/\a=[(1,.fsl (eL yQ p1)),(7,.int .u16 s.1),(15,.fsl (eL rI r2)),(16,.int .i64 (ilen r2)),(17,.int .i64 s.2)]/\J=hp E0 [] M1) (fun s x a J=>x=.exit 0/\Rc G 29 N0 (fun a J=>∃M2:Nat,N0<=M2/\a=[(7,.int .u16 s)]/\J=hp E0 [] M2) (AAct.keep a [7]) J) hse1 ?_ ?_ ?_
 .refine kp [1,7,15,16,17] ?_
  exact R1 (N0+10)
 .clear H hse1
  rintro⟨s3,s4⟩ fl a J H ⟨M1,fM1_0,rfl,rfl⟩ K2 O2 hK2 hO2
  unfold wY at H;dsimp only at H
  refine qA [1,7,15,16,17,18] ?_
  refine Wsq [1,7,15,16,17] fun K3 hK3=>?_
  refine Ci H ?_ ?_<;>intro H
  .refine Js hK3 ?_
   refine Wsq [1,7,15,16,17] fun K4 hK4=>?_
   refine Wb ?_
   obtain⟨v6,hv6,H⟩:=bE H
   refine qB [1,7,9,15,16,17] (ix23 hv6) ?_
   obtain⟨v7,hv7,H⟩:=bE H
   refine qH (ix72 hv7) hK4 ?_
   obtain rfl:=oi H
   refine qI hK2 ?_
   exact R1 (M1+13)
  cases oj H
  refine zL (hO2 _ _ _ _ rfl ⟨rfl,?_⟩)
  refine kr ?_
  exact R1 (M1+1)
 intro x a J hx
 obtain⟨y5,rfl⟩:∃x,x=e1:=⟨_,rfl⟩
 obtain⟨rfl,b,U,hr,M2,fM2_0,rfl,rfl⟩:=hx
 (try dsimp only at H)
 show K1 _ _
 refine hK1 _ _ (zI hr ?_)
 refine Rc.mk ?_
 refine qA [6] ?_
 cases oj H;exact W4

theorem c82 {p0:gQuad}{r:Int}(H:dM p0=some r):APure Tryz.prog G 82 [.agg [.int .i64 p0.Op,.int .i64 p0.Dst,.int .i64 p0.A,.int .i64 p0.B,.int .i64 p0.N]] (.int .i64 r):=by
 refine qK func82 ntmps82 results82 fun N0=>?_
 unfold dM at H
 refine S0 tok [0] [1] ?_
 refine Wsq [] fun K1 hK1=>?_
 refine qA [1,4] ?_
 refine Wb ?_
 obtain⟨j1,hj1,H⟩:=bE H
 refine kR (kO fun K2 hK2=>?_)
 have hJ1:∀a J,Rc G 12 N0 (fun a J=>∃M1:Nat,N0<=M1/\a=[(1,.fptr [.int .i64 p0.Op,.int .i64 p0.Dst,.int .i64 p0.A,.int .i64 p0.B,.int .i64 p0.N] 0),(5,.bool j1)]/\J=hp E0 [] M1) (a.keep [1,5]) J->K2 a J:=by
  rintro a J ⟨b,U,hr,M1,fM1_0,rfl,rfl⟩
  refine hK2 _ _ (kH [1,5] (Wre hr ?_))
  refine Ci H ?_ ?_<;>intro H
  .refine qA [2] ?_
   cases oj H;exact W4
  refine Js hK1 ?_
  refine qA [2] ?_
  cases oj H;exact W4
 replace H:=hj1
 refine qA [1,4,5] ?_
 refine Ci H ?_ ?_<;>intro H
 .refine Wsk ?_
  show K2 _ _
  refine kE [1,5] fun a' ha=>?_
  cases oj H
  refine hJ1 _ _ ?_;rw[ha]
  exact R1 (N0+6)
 refine qA [1,4,5] ?_
 refine Ci H ?_ ?_<;>intro H
 .refine Wsk ?_
  show K2 _ _
  refine kE [1,5] fun a' ha=>?_
  cases oj H
  refine hJ1 _ _ ?_;rw[ha]
  exact R1 (N0+8)
 refine qA [1,4,5] ?_
 refine Ci H ?_ ?_<;>intro H
 .refine Wsk ?_
  show K2 _ _
  refine kE [1,5] fun a' ha=>?_
  cases oj H
  refine hJ1 _ _ ?_;rw[ha]
  exact R1 (N0+10)
 refine Rt0 tok [] [1,5] fun a ha=>?_
 cases oj H
 refine hJ1 _ _ ?_;rw[ha]
 exact R1 (N0+12)

theorem c83 {p0:gQuad}{r:Int}(H:dL p0=some r):APure Tryz.prog G 83 [.agg [.int .i64 p0.Op,.int .i64 p0.Dst,.int .i64 p0.A,.int .i64 p0.B,.int .i64 p0.N]] (.int .u16 r):=by
 refine qK func83 ntmps83 results83 fun N0=>?_
 unfold dL at H
 refine S0 tok [0] [1] ?_
 refine Wsq [] fun K1 hK1=>?_
 refine qA [1,4] ?_
 refine Wb ?_
 obtain⟨j1,hj1,H⟩:=bE H
 refine kR (kO fun K2 hK2=>?_)
 have hJ1:∀a J,Rc G 22 N0 (fun a J=>∃M1:Nat,N0<=M1/\a=[(1,.fptr [.int .i64 p0.Op,.int .i64 p0.Dst,.int .i64 p0.A,.int .i64 p0.B,.int .i64 p0.N] 0),(4,.int .i64 p0.Op),(5,.bool j1)]/\J=hp E0 [] M1) (a.keep [1,4,5]) J->K2 a J:=by
  rintro a J ⟨b,U,hr,M1,fM1_0,rfl,rfl⟩
  refine hK2 _ _ (kH [1,4,5] (Wre hr ?_))
  refine Ci H ?_ ?_<;>intro H
  .obtain⟨v2,hv2,H⟩:=bE H
   refine qB [2] hv2 ?_
   cases oj H;exact W4
  refine qA [1,13] ?_
  refine Ci H ?_ ?_<;>intro H
  .obtain⟨v3,hv3,H⟩:=bE H
   obtain⟨v4,hv4,H⟩:=bE H
   refine Sd tok tokM [] [] [0,1,2,3,4,5,6,7] [2] (by
    intro K k
    simp only[pickL,zO,zP]
    refine m2 hv3 hv4 ?_
    exact k) ?_
   cases oj H;exact W4
  refine Js hK1 ?_
  refine qA [2] ?_
  cases oj H;exact W4
 replace H:=hj1
 refine qA [1,4,5] ?_
 refine Ci H ?_ ?_<;>intro H
 .refine Wsk ?_
  show K2 _ _
  refine kE [1,4,5] fun a' ha=>?_
  cases oj H
  refine hJ1 _ _ ?_;rw[ha]
  exact R1 (N0+6)
 refine qA [1,4,5] ?_
 refine Ci H ?_ ?_<;>intro H
 .refine Wsk ?_
  show K2 _ _
  refine kE [1,4,5] fun a' ha=>?_
  cases oj H
  refine hJ1 _ _ ?_;rw[ha]
  exact R1 (N0+8)
 refine qA [1,4,5] ?_
 refine Ci H ?_ ?_<;>intro H
 .refine Wsk ?_
  show K2 _ _
  refine kE [1,4,5] fun a' ha=>?_
  cases oj H
  refine hJ1 _ _ ?_;rw[ha]
  exact R1 (N0+10)
 refine Rt0 tok [] [1,4,5] fun a ha=>?_
 cases oj H
 refine hJ1 _ _ ?_;rw[ha]
 exact R1 (N0+12)

theorem c52 {p0:List gQuad}{r:List Int}(H:xW p0=some r):APure Tryz.prog G 52 [.fsl (eL rQuad p0)] (.fsl (eL yQ r)):=by
 refine qK func52 ntmps52 results52 fun N0=>?_
 unfold xW at H
 refine qA [0] ?_
 obtain⟨l1,hl1,H⟩:=bE H
 refine qB [0,3] (mak72 hl1) ?_
 refine Wsq [3] fun K1 hK1=>?_
 refine qA [0,3,4] ?_
 refine Wb ?_
 obtain⟨e3,hse3,H⟩:=bE H
 refine zX [0,3,4] (fun s a J=>∃M1 o1:Nat,N0<=M1/\N0<=o1/\o1<M1/\a=[(0,.fsl (eL rQuad p0)),(3,.sl o1 0 s.2.length),(4,.bool s.1)]/\J=hp E0 [(o1,some ⟨75,1,eL yQ s.2⟩)] M1) (fun s x a J=>x=.exit 0/\Rc G 52 N0 (fun a J=>∃M2 o2:Nat,N0<=M2/\N0<=o2/\o2<M2/\a=[(3,.sl o2 0 s.length)]/\J=hp E0 [(o2,some ⟨75,1,eL yQ s⟩)] M2) (AAct.keep a [3]) J) hse3 ?_ ?_ ?_
 .refine kp [0,3,4] ?_
  exact R2 (N0+6) (N0+3)
 .clear H hse3
  rintro⟨s2,s3⟩ fl a J H ⟨M1,o1,fM1_0,fM1_1,fM1_2,rfl,rfl⟩ K2 O2 hK2 hO2
  unfold sQ at H;dsimp only at H
  refine Wsq [0,3] fun K3 hK3=>?_
  refine qA [0,3,11] ?_
  refine Ci H ?_ ?_<;>intro H
  .refine Js hK3 ?_
   refine Wb ?_
   refine qA [0,3,4] ?_
   refine qA [0,3,4,5] ?_
   refine Wb ?_
   obtain⟨e2,hse2,H⟩:=bE H
   refine zX [0,3,4,5] (fun s a J=>∃M3 o3:Nat,N0<=M3/\N0<=o3/\o3<M3/\a=[(0,.fsl (eL rQuad p0)),(3,.sl o3 0 s.2.2.length),(4,.bool s.1),(5,.int .i64 s.2.1)]/\J=hp E0 [(o3,some ⟨75,1,eL yQ s.2.2⟩)] M3) (fun s x a J=>x=.exit 2/\Rc G 52 N0 (fun a J=>∃M4 o4:Nat,N0<=M4/\N0<=o4/\o4<M4/\a=[(0,.fsl (eL rQuad p0)),(3,.sl o4 0 s.2.length),(4,.bool s.1)]/\J=hp E0 [(o4,some ⟨75,1,eL yQ s.2⟩)] M4) (AAct.keep a [0,3,4]) J) hse2 ?_ ?_ ?_
   .refine kp [0,3,4,5] ?_
    exact R2 (M1+6) o1
   .clear H hse2
    rintro⟨s5,s6,s7⟩ fl a J H ⟨M3,o3,fM3_0,fM3_1,fM3_2,rfl,rfl⟩ K4 O4 hK4 hO4
    unfold wZ at H;dsimp only at H
    refine Wsq [0,3,4,5] fun K5 hK5=>?_
    refine qA [0,3,4,5,16] ?_
    refine Ci H ?_ ?_<;>intro H
    .refine Js hK5 ?_
     refine Wsq [0,3,4,5] fun K6 hK6=>?_
     refine Wb ?_
     obtain⟨r10,hr10,H⟩:=bE H
     refine yU tok [] [0,3,4,5,6] (fun a J=>a=[(0,.fsl (eL rQuad p0)),(3,.sl o3 0 s7.length),(4,.bool s5),(5,.int .i64 s6),(6,.int .u16 r10)]/\J=hp E0 [(o3,some ⟨75,1,eL yQ s7⟩)] (M3+7)) (fun K hK=>?_) ?_
     .skip
      refine m0 ?_
      refine(borrow 8 (c81 hr10) (by simp) rfl).mono ?_;rintro _ _ ⟨rfl,rfl⟩;try simp -dsimp -implicitDefEqProofs
      exact hK _ _ ⟨rfl,rfl⟩
     rintro a J ⟨rfl,rfl⟩
     obtain⟨j1,hj1,H⟩:=bE H
     refine kR (kO fun K7 hK7=>?_)
     have hJ1:∀a J,Rc G 52 N0 (fun a J=>∃M5:Nat,N0<=M5/\o3<M5/\a=[(0,.fsl (eL rQuad p0)),(3,.sl o3 0 s7.length),(4,.bool s5),(5,.int .i64 s6),(6,.int .u16 j1)]/\J=hp E0 [(o3,some ⟨75,1,eL yQ s7⟩)] M5) (a.keep [0,3,4,5,6]) J->K7 a J:=by
      rintro a J ⟨b,U,hr,M5,fM5_0,fM5_1,rfl,rfl⟩
      refine hK7 _ _ (kH [0,3,4,5,6] (Wre hr ?_))
      obtain⟨v12,hv12,H⟩:=bE H
      obtain⟨r13,hr13,H⟩:=bE H
      refine qE [0,3,4,5,6] (ix34 hv12) (c83 hr13) ?_
      obtain⟨v14,hv14,H⟩:=bE H
      refine qC [0,3,4,5,6,46] (ixo72 hv14) ((zC hv14).2.2) ?_
      refine Ci H ?_ ?_<;>intro H
      .obtain⟨l15,hl15,H⟩:=bE H
       refine qB [0,3,5] (j (ixo72 hv14) (j ((zC hv14).2.2) ((setx_iff.1 hl15).2.symm))) ?_
       try rw[<- zE hl15]
       refine qG hK6 ?_
       obtain rfl:=oi H
       refine qI hK4 ?_
       exact R2 (M5+23) o3
      refine Js hK6 ?_
      obtain rfl:=oi H
      refine qI hK4 ?_
      exact R2 (M5+17) o3
     replace H:=hj1
     obtain⟨v16,hv16,H⟩:=bE H
     obtain⟨r17,hr17,H⟩:=bE H
     refine qE [0,3,4,5,6,7] (ix34 hv16) (c82 hr17) ?_
     refine qA [0,3,4,5,6,7,29] ?_
     refine Ci H ?_ ?_<;>intro H
     .obtain⟨v18,hv18,H⟩:=bE H
      refine Rt tok [] [0,3,4,5,6] (by intro K k;simp -dsimp -implicitDefEqProofs [hv18];exact k) fun a ha=>?_
      cases oj H
      refine hJ1 _ _ ?_;rw[ha]
      exact R1 (M3+20)
     refine Wsk ?_
     show K7 _ _
     refine kE [0,3,4,5,6] fun a' ha=>?_
     cases oj H
     refine hJ1 _ _ ?_;rw[ha]
     exact R1 (M3+15)
    cases oj H
    refine zL (hO4 _ _ _ _ rfl ⟨rfl,?_⟩)
    refine kr ?_
    exact R2 (M3+2) o3
   intro x a J hx
   obtain⟨y8,y9⟩:=e2
   obtain⟨rfl,b,U,hr,M4,o4,fM4_0,fM4_1,fM4_2,rfl,rfl⟩:=hx
   (try dsimp only at H)
   show K2 _ _
   cases oj H
   refine hK2 _ _ _ rfl (zI hr ?_)
   exact R2 M4 o4
  cases oj H
  refine zL (hO2 _ _ _ _ rfl ⟨rfl,?_⟩)
  refine kr ?_
  exact R2 (M1+1) o1
 intro x a J hx
 obtain⟨y4,rfl⟩:∃x,x=e3:=⟨_,rfl⟩
 obtain⟨rfl,b,U,hr,M2,o2,fM2_0,fM2_1,fM2_2,rfl,rfl⟩:=hx
 (try dsimp only at H)
 show K1 _ _
 refine hK1 _ _ (zI hr ?_)
 refine Rc.mk ?_
 refine qA [2] ?_
 cases oj H;exact W4

theorem c84 {p0:Int}{p1:Int}{r:Bool}(H:uS p0 p1=some r):APure Tryz.prog G 84 [.int .u16 p0,.int .i64 p1] (.bool r):=by
 refine qK func84 ntmps84 results84 fun N0=>?_
 unfold uS at H
 refine qA [0,1] ?_
 obtain⟨v1,hv1,H⟩:=bE H
 refine qB [4] hv1 ?_
 cases oj H;exact W4

theorem c53 {p0:Int}{r:List Bool}(H:xL p0=some r):APure Tryz.prog G 53 [.int .u16 p0] (.fsl (eL rB r)):=by
 refine qK func53 ntmps53 results53 fun N0=>?_
 unfold xL at H
 refine qA [0] ?_
 obtain⟨l1,hl1,H⟩:=bE H
 refine qB [0,3] (mak39 hl1) ?_
 refine Wsq [3] fun K1 hK1=>?_
 refine qA [0,3,7,8] ?_
 refine Wb ?_
 obtain⟨e1,hse1,H⟩:=bE H
 refine zX [0,3,7,8] (fun s a J=>∃M1 o1:Nat,N0<=M1/\N0<=o1/\o1<M1/\a=[(0,.int .u16 p0),(3,.sl o1 0 s.2.length),(7,.int .i64 (ilen l1)),(8,.int .i64 s.1)]/\J=hp E0 [(o1,some ⟨4,1,eL rB s.2⟩)] M1) (fun s x a J=>x=.exit 0/\Rc G 19 N0 (fun a J=>∃M2 o2:Nat,N0<=M2/\N0<=o2/\o2<M2/\a=[(3,.sl o2 0 s.length)]/\J=hp E0 [(o2,some ⟨4,1,eL rB s⟩)] M2) (AAct.keep a [3]) J) hse1 ?_ ?_ ?_
 .refine kp [0,3,7,8] ?_
  exact R2 (N0+6) (N0+1)
 .clear H hse1
  rintro⟨s2,s3⟩ fl a J H ⟨M1,o1,fM1_0,fM1_1,fM1_2,rfl,rfl⟩ K2 O2 hK2 hO2
  unfold yT at H;dsimp only at H
  refine qA [0,3,7,8,9] ?_
  refine Wsq [0,3,7,8] fun K3 hK3=>?_
  refine Ci H ?_ ?_<;>intro H
  .refine Js hK3 ?_
   refine Wsq [0,3,7,8] fun K4 hK4=>?_
   refine Wb ?_
   refine qA [0,3,4,7,8] ?_
   obtain⟨r5,hr5,H⟩:=bE H
   obtain⟨v6,hv6,H⟩:=bE H
   obtain⟨l7,hl7,H⟩:=bE H
   refine Rt tok [] [0,3,7,8] (by intro K k;(repeat first|simp -dsimp -implicitDefEqProofs [ixo39 hv6,(zC hv6).2.2,(setx_iff.1 hl7).2.symm]|refine(c84 hr5).app ?_);exact k) fun a ha=>?_
   (try rw[<- zE hl7] at ha);(try rw[<- zE hl7])
   refine hK4 _ _ ?_;rw[ha]
   refine Rc.mk ?_
   obtain rfl:=oi H
   refine qI hK2 ?_
   exact R2 (M1+12) o1
  cases oj H
  refine zL (hO2 _ _ _ _ rfl ⟨rfl,?_⟩)
  refine kr ?_
  exact R2 (M1+1) o1
 intro x a J hx
 obtain⟨y4,rfl⟩:∃x,x=e1:=⟨_,rfl⟩
 obtain⟨rfl,b,U,hr,M2,o2,fM2_0,fM2_1,fM2_2,rfl,rfl⟩:=hx
 (try dsimp only at H)
 show K1 _ _
 refine hK1 _ _ (zI hr ?_)
 refine Rc.mk ?_
 refine qA [2] ?_
 cases oj H;exact W4

theorem c19 {p0:List gQuad}{r:(List (List Bool))}(H:dP p0=some r):APure Tryz.prog G 19 [.fsl (eL rQuad p0)] (.fsl (eL rL_B r)):=by
 refine qK func19 ntmps19 results19 fun N0=>?_
 unfold dP at H
 refine qA [0] ?_
 refine Wsq [0] fun K1 hK1=>?_
 obtain⟨r1,hr1,H⟩:=bE H
 refine qD [0,8] (c50 hr1) ?_
 refine Ci H ?_ ?_<;>intro H
 .refine qA [2] ?_
  cases oj H;exact W4
 refine Js hK1 ?_
 refine qA [0,3] ?_
 refine Wsq [3] fun K2 hK2=>?_
 obtain⟨r2,hr2,H⟩:=bE H
 refine qD [3,10,11,12] (c52 hr2) ?_
 refine Wb ?_
 obtain⟨e1,hse1,H⟩:=bE H
 refine zX [3,10,11,12] (fun s a J=>∃M1 o1:Nat,N0<=M1/\N0<=o1/\o1<M1/\a=[(3,.sl o1 0 s.2.length),(10,.fsl (eL yQ r2)),(11,.int .i64 (ilen r2)),(12,.int .i64 s.1)]/\J=hp E0 [(o1,some ⟨39,1,eL rL_B s.2⟩)] M1) (fun s x a J=>x=.exit 0/\Rc G 23 N0 (fun a J=>∃M2 o2:Nat,N0<=M2/\N0<=o2/\o2<M2/\a=[(3,.sl o2 0 s.length)]/\J=hp E0 [(o2,some ⟨39,1,eL rL_B s⟩)] M2) (AAct.keep a [3]) J) hse1 ?_ ?_ ?_
 .refine kp [3,10,11,12] ?_
  refine gNilS zI 3 39 1 [(N0+9,some ⟨39,1,eL rL_B ([]:List (List Bool))⟩)] [(3,.sl (N0+9) 0 ([]:List (List Bool)).length),(10,.fsl (eL yQ r2)),(11,.int .i64 (ilen r2)),(12,.int .i64 0)] (by simp(disch:=omega)) (by simp(disch:=omega) [eN]) [3,10,11,12] rfl ?_
  exact R2 (N0+10) (N0+9)
 .clear H hse1
  rintro⟨s3,s4⟩ fl a J H ⟨M1,o1,fM1_0,fM1_1,fM1_2,rfl,rfl⟩ K3 O3 hK3 hO3
  unfold sS at H;dsimp only at H
  refine qA [3,10,11,12,13] ?_
  refine Wsq [3,10,11,12] fun K4 hK4=>?_
  refine Ci H ?_ ?_<;>intro H
  .refine Js hK4 ?_
   refine Wsq [3,10,11,12] fun K5 hK5=>?_
   refine Wb ?_
   obtain⟨v6,hv6,H⟩:=bE H
   refine qB [3,5,10,11,12] (ix72 hv6) ?_
   obtain⟨r7,hr7,H⟩:=bE H
   obtain⟨l8,hl8,H⟩:=bE H
   have q0:∀J i,bsA T 43 true i 1 [(0,.fsl (eL rB r7))] J=some (.fsl (eL rL_B ([r7]:List (List Bool))),J):=fun _ _=>rfl
   have e0:=nQ o1 (M1+8)
   refine Rt tok [3] [3,10,11,12] (by intro K k;(repeat first|simp -dsimp -implicitDefEqProofs [e0,q0,app43 hl8]|refine(c53 hr7).app ?_);exact k) fun a ha=>?_
   refine hK5 _ _ ?_;rw[ha]
   refine Rc.mk ?_
   obtain rfl:=oi H
   refine qI hK3 ?_
   exact R2 (M1+12) (M1+8)
  cases oj H
  refine zL (hO3 _ _ _ _ rfl ⟨rfl,?_⟩)
  refine kr ?_
  exact R2 (M1+1) o1
 intro x a J hx
 obtain⟨y5,rfl⟩:∃x,x=e1:=⟨_,rfl⟩
 obtain⟨rfl,b,U,hr,M2,o2,fM2_0,fM2_1,fM2_2,rfl,rfl⟩:=hx
 (try dsimp only at H)
 show K2 _ _
 refine hK2 _ _ (zI hr ?_)
 refine Rc.mk ?_
 refine qA [2] ?_
 cases oj H;exact W4

theorem c20_o2 {p0:gCrew}{p1:Int}{r:gCrew×Bool}(H:gF p0 p1=some r){J:AHeap}:ACalls Tryz.prog G 20 [.agg [.fsl (eL zA p0.Codes),.fsl (eL zJ p0.Threads),.fsl (eL rBox p0.Boxes),.int .i64 p0.Turn,.int .i64 p0.Idle,.fsl (eL rI p0.Out)],.int .i64 p1] J (fun v J'=>∃M n0:Nat,J.next<=M/\J.next<=n0/\n0<M/\v=.tup [.agg [.fsl (eL zA r.1.Codes),.sl n0 0 r.1.Threads.length,.fsl (eL rBox r.1.Boxes),.int .i64 r.1.Turn,.int .i64 r.1.Idle,.fsl (eL rI r.1.Out)],.bool r.2]/\J'=hp J.objs [(n0,some ⟨42,2,eL zB r.1.Threads⟩)] M):=by
 refine fr2 [] (by simp) (fun hlt=>?_) ⟨_,func20,rfl,rfl⟩
 generalize J.next=N0 at hlt ⊢
 refine jE 4 ?_
 refine fnK tok func20 ntmps20 results20 ?_
 simp only[argsA,Nat.reduceAdd,hpN]
 unfold gF at H
 refine S0 tok [0] [1,2,4] ?_
 refine Wsq [1,2,4] fun K1 hK1=>?_
 refine gW Wre (N0+1) 0 0 ?_
 refine gP0 Wre (N0+1) 0 1 42 2 (eL zB ([]:List gThread)) ?_
 refine gP0 Wre (N0+1) 0 2 103 2 (eL zM ([]:List gBox)) ?_
 refine gP0 Wre (N0+1) 0 5 3 1 (eL rI ([]:List Int)) ?_
 obtain⟨r1,hr1,H⟩:=bE H
 obtain⟨g2,hg2,H⟩:=bE H
 obtain⟨g3,hg3,H⟩:=bE H
 refine qF tok [1,2,4,19] ([(1,.int .i64 p1),(2,.fptr [.fsl (eL zA p0.Codes),.fsl (eL zJ p0.Threads),.fsl (eL rBox p0.Boxes),.int .i64 p0.Turn,.int .i64 p0.Idle,.fsl (eL rI p0.Out)] 0),(4,.ptr (N0+1) 0 0),(19,.bool g3)]) (hp E0 [(N0+1,some ⟨30,6,[[.fsl [],.osl 42 2 (eL zB ([]:List gThread)),.osl 103 2 (eL zM ([]:List gBox)),.int .i64 0,.int .i64 0,.osl 3 1 (eL rI ([]:List Int))]]⟩)] (N0+14)) (by
  intro K k
  refine m0 ?_
  refine(c32 hr1).app (m0 ?_)
  cases hbg2:bnot r1
  .cases oj (ifF hbg2 hg2)
   refine m1 hbg2 ?_
   cases hbg3:(ilt p1 0)
   .cases oj (ifF hbg3 hg3)
    exact m2 hbg2 hbg3 k
   cases oj (ifT hbg3 hg3)
   exact m2 hbg2 hbg3 k
  cases oj (ifT hbg2 hg2)
  cases oj (ifT rfl hg3)
  refine m1 hbg2 ?_
  exact k) ?_
 refine Ci H ?_ ?_<;>intro H
 .refine S0 tok [0] [4,5] ?_
  cases oj H
  refine Kp [4,5] ?_
  refine gW Wre (N0+1) 0 0 ?_
  refine gP0 Wre (N0+1) 0 1 42 2 (eL zB ([]:List gThread)) ?_
  refine gP0 Wre (N0+1) 0 2 103 2 (eL zM ([]:List gBox)) ?_
  refine gP0 Wre (N0+1) 0 5 3 1 (eL rI ([]:List Int)) ?_
  refine gU Wre (N0+1) 0 1 ?_
  refine gU Wre (N0+1) 0 2 ?_
  refine gU Wre (N0+1) 0 5 ?_
  refine Wr ?_
  refine⟨[.agg [.fsl [],.sl (N0+17) 0 ([]:List gThread).length,.sl (N0+18) 0 ([]:List gBox).length,.int .i64 0,.int .i64 0,.sl (N0+19) 0 ([]:List Int).length],.bool false],by simp,(fun o=>[N0+1,N0+18,N0+19].contains o),N0+20,N0+17,by omega,by omega,by omega,?_,?_⟩
  .simp[eN]
  rw[cutD (L':=[(N0+17,some ⟨42,2,eL zB ([]:List gThread)⟩)]) (by simp)]
  first|done|rfl|simp
 refine Js hK1 ?_
 obtain⟨r4,hr4,H⟩:=bE H
 obtain⟨r5,hr5,H⟩:=bE H
 obtain⟨r6,hr6,H⟩:=bE H
 refine AWP_syC tok tokM [9] [5,8,10,11] [0,1,2,3,4,6,7,5,8,9,10,11] [] [1,2,4,6] (fun a J=>∃M1 o1:Nat,∃M2 o2:Nat,N0+26<=M1/\N0+26<=o1/\o1<M1/\M1<=M2/\M1<=o2/\o2<M2/\a=[(1,.int .i64 p1),(2,.fptr [.fsl (eL zA p0.Codes),.fsl (eL zJ p0.Threads),.fsl (eL rBox p0.Boxes),.int .i64 p0.Turn,.int .i64 p0.Idle,.fsl (eL rI p0.Out)] 0),(4,.ptr (N0+1) 0 0),(6,.ptr (N0+24) 0 0)]/\J=hp E0 [(N0+1,some ⟨30,6,[[.fsl [],.osl 42 2 (eL zB ([]:List gThread)),.osl 103 2 (eL zM ([]:List gBox)),.int .i64 0,.int .i64 0,.osl 3 1 (eL rI ([]:List Int))]]⟩),(o1,some ⟨103,2,eL zM r5⟩),(o2,some ⟨3,1,eL rI r6⟩),(N0+24,some ⟨30,6,[[.fsl (eL zA r4),.nilsl,.sl o1 0 r5.length,.int .i64 0,.int .i64 0,.sl o2 0 r6.length]]⟩)] M2) (by decide) (by kernel_rfl) (fun K hK=>?_) ?_
 .simp only[pickL,zO,zP]
  refine m0 ?_
  refine Pc.mk (c43 hr4) (m0 ?_)
  refine mo (c54_o2 (H:=hr5)) fun M1 o1 fM1_0 fM1_1 fM1_2=>?_
  have eM1_0:=nQ o1 (N0+1)
  have eM1_1:=nQ o1 (N0+24)
  refine m1 (j eM1_0 (j eM1_1 (j @hoS @hoN))) ?_
  refine mo (c55_o (H:=hr6)) fun M2 o2 fM2_0 fM2_1 fM2_2=>?_
  have eM2_0:=nQ o2 (N0+1)
  have eM2_1:=nQ o2 (N0+24)
  have eM2_2:=nQ o2 o1
  refine m1 (j eM1_0 (j eM1_1 (j @hoS (j @hoN (j eM2_0 (j eM2_1 eM2_2)))))) ?_
  exact hK _ _ ⟨M1,o1,M2,o2,(by omega),(by omega),(by omega),(by omega),(by omega),(by omega),rfl,rfl⟩
 rintro a J ⟨M1,o1,M2,o2,fM1_0,fM1_1,fM1_2,fM2_0,fM2_1,fM2_2,rfl,rfl⟩
 refine Wsq [1,2,4,6] fun K2 hK2=>?_
 have e0:=nQ (N0+1) o1
 have e1:=nQ (N0+1) o2
 have e2:=nQ o1 o2
 have e3:=nQ o1 (N0+24)
 have e4:=nQ o2 (N0+24)
 refine qB [1,2,4,6,32,33,34] (j e0 (j e1 (j e2 (j e3 e4)))) ?_
 refine Wb ?_
 obtain⟨e1,hse1,H⟩:=bE H
 refine zX [1,2,4,6,32,33,34] (fun s a J=>∃M3 o3 o4:Nat,N0<=M3/\N0<=o3/\o3<M3/\N0<=o4/\o4<M3/\¬o3=o4/\a=[(1,.int .i64 p1),(2,.fptr [.fsl (eL zA p0.Codes),.fsl (eL zJ p0.Threads),.fsl (eL rBox p0.Boxes),.int .i64 p0.Turn,.int .i64 p0.Idle,.fsl (eL rI p0.Out)] 0),(4,.ptr o3 0 0),(6,.ptr o4 0 0),(32,.fsl (eL zJ p0.Threads)),(33,.int .i64 (ilen p0.Threads)),(34,.int .i64 s.1)]/\J=hp E0 [(o3,some ⟨30,6,[[.fsl (eL zA s.2.1.Codes),.osl 42 2 (eL zB s.2.1.Threads),.osl 103 2 (eL zM s.2.1.Boxes),.int .i64 s.2.1.Turn,.int .i64 s.2.1.Idle,.osl 3 1 (eL rI s.2.1.Out)]]⟩),(o4,some ⟨30,6,[[.fsl (eL zA s.2.2.Codes),.osl 42 2 (eL zB s.2.2.Threads),.osl 103 2 (eL zM s.2.2.Boxes),.int .i64 s.2.2.Turn,.int .i64 s.2.2.Idle,.osl 3 1 (eL rI s.2.2.Out)]]⟩)] M3) (fun s x a J=>x=.exit 0/\Rc G 67 N0 (fun a J=>∃M4 o5 o6:Nat,N0<=M4/\N0<=o5/\o5<M4/\N0<=o6/\o6<M4/\¬o5=o6/\a=[(1,.int .i64 p1),(2,.fptr [.fsl (eL zA p0.Codes),.fsl (eL zJ p0.Threads),.fsl (eL rBox p0.Boxes),.int .i64 p0.Turn,.int .i64 p0.Idle,.fsl (eL rI p0.Out)] 0),(4,.ptr o5 0 0),(6,.ptr o6 0 0)]/\J=hp E0 [(o5,some ⟨30,6,[[.fsl (eL zA s.1.Codes),.osl 42 2 (eL zB s.1.Threads),.osl 103 2 (eL zM s.1.Boxes),.int .i64 s.1.Turn,.int .i64 s.1.Idle,.osl 3 1 (eL rI s.1.Out)]]⟩),(o6,some ⟨30,6,[[.fsl (eL zA s.2.Codes),.osl 42 2 (eL zB s.2.Threads),.osl 103 2 (eL zM s.2.Boxes),.int .i64 s.2.Turn,.int .i64 s.2.Idle,.osl 3 1 (eL rI s.2.Out)]]⟩)] M4) (AAct.keep a [1,2,4,6]) J) hse1 ?_ ?_ ?_
 .refine kp [1,2,4,6,32,33,34] ?_
  refine gP0 zI (N0+24) 0 1 42 2 (eL zB ([]:List gThread)) ?_
  refine gP zI (N0+24) 0 2 ?_
  refine gP zI (N0+24) 0 5 ?_
  exact R3 (M2+4) (N0+1) (N0+24)
 .clear H hse1
  rintro⟨s7,s8,s9⟩ fl a J H ⟨M3,o3,o4,fM3_0,fM3_1,fM3_2,fM3_3,fM3_4,fM3_5,rfl,rfl⟩ K3 O3 hK3 hO3
  unfold gE at H;dsimp only at H
  have e0:=nQ o3 o4
  refine qB [1,2,4,6,32,33,34,35] e0 ?_
  refine Wsq [1,2,4,6,32,33,34] fun K4 hK4=>?_
  refine Ci H ?_ ?_<;>intro H
  .refine Js hK4 ?_
   refine Wsq [1,2,4,6,32,33,34] fun K5 hK5=>?_
   refine Wb ?_
   obtain⟨v12,hv12,H⟩:=bE H
   have e0:=nQ o3 o4
   have e1:=nQ o3 (M3+3)
   have e2:=nQ o4 (M3+3)
   refine qB [1,2,4,6,8,32,33,34] (j e0 (j e1 (j e2 (ix27 hv12)))) ?_
   refine gU Wre o4 0 1 ?_
   obtain⟨r13,hr13,H⟩:=bE H
   obtain⟨l14,hl14,H⟩:=bE H
   have q0:∀(a0:Nat) (a1:Nat) (a2:Int) J i,bsA T 27 true i 1 [(0,.agg [.sl a0 0 a1,.int .i64 a2])] J=some (.fsl [[.sl a0 0 a1,.int .i64 a2]],J):=fun _ _ _ _ _=>rfl
   refine dX tok tokM [8] [1,3,4,6,7,8,9,11] [0,2,5,1,3,6,4,7,8,9,10,11] [(4,[1,6]),(8,[1])] [1,2,4,6,32,33,34] (fun a J=>∃M5 o7:Nat,M3+18<=M5/\M3+18<=o7/\o7<M5/\a=[(1,.int .i64 p1),(2,.fptr [.fsl (eL zA p0.Codes),.fsl (eL zJ p0.Threads),.fsl (eL rBox p0.Boxes),.int .i64 p0.Turn,.int .i64 p0.Idle,.fsl (eL rI p0.Out)] 0),(4,.ptr o3 0 0),(6,.ptr o4 0 0),(32,.fsl (eL zJ p0.Threads)),(33,.int .i64 (ilen p0.Threads)),(34,.int .i64 s7)]/\J=hp E0 [(o3,some ⟨30,6,[[.fsl (eL zA s8.Codes),.osl 42 2 (eL zB s8.Threads),.osl 103 2 (eL zM s8.Boxes),.int .i64 s8.Turn,.int .i64 s8.Idle,.osl 3 1 (eL rI s8.Out)]]⟩),(o4,some ⟨30,6,[[.fsl (eL zA s9.Codes),.sl (M3+15) 0 l14.length,.osl 103 2 (eL zM s9.Boxes),.int .i64 s9.Turn,.int .i64 s9.Idle,.osl 3 1 (eL rI s9.Out)]]⟩),(M3+3,some ⟨42,2,[[.fsl (eL rI v12.Regs),.int .i64 v12.Pc]]⟩),(o7,some ⟨3,1,eL rI r13⟩),(M3+15,some ⟨42,2,eL zB s9.Threads++[[.sl o7 0 r13.length,.int .i64 v12.Pc]]⟩)] M5) (by decide) (fun K hK=>?_) ?_
   .simp only[pickL,zO,zP]
    have e0:=nQ o3 o4
    have e1:=nQ o3 (M3+3)
    have e2:=nQ o3 (M3+5)
    have e3:=nQ o3 (M3+15)
    have e4:=nQ o4 (M3+3)
    have e5:=nQ o4 (M3+5)
    have e6:=nQ o4 (M3+15)
    refine m1 (j e0 (j e1 (j e2 (j e3 (j e4 (j e5 (j e6 (j q0 (apr27 zB hl14))))))))) ?_
    refine mo (c55_o (H:=hr13)) fun M5 o7 fM5_0 fM5_1 fM5_2=>?_
    have eM5_0:=nQ o7 o3
    have eM5_1:=nQ o7 o4
    have eM5_2:=nQ o7 (M3+3)
    have eM5_3:=nQ o7 (M3+5)
    have eM5_4:=nQ o7 (M3+15)
    refine m1 (j e0 (j e1 (j e2 (j e3 (j e4 (j e5 (j e6 (j q0 (j (apr27 zB hl14) (j eM5_0 (j eM5_1 (j eM5_2 (j eM5_3 (j eM5_4 (j @hoS @hoN))))))))))))))) ?_
    exact hK _ _ ⟨M5,o7,(by omega),(by omega),(by omega),rfl,rfl⟩
   rintro a J ⟨M5,o7,fM5_0,fM5_1,fM5_2,ha,rfl⟩
   refine hK5 _ _ ?_;rw[ha]
   refine Rc.mk ?_
   refine gP Wre (M3+15) s9.Threads.length 0 ?_ (hr:=by exact pG _ _ _)
   rw[show hp E0 [(o3,some ⟨30,6,[[.fsl (eL zA s8.Codes),.osl 42 2 (eL zB s8.Threads),.osl 103 2 (eL zM s8.Boxes),.int .i64 s8.Turn,.int .i64 s8.Idle,.osl 3 1 (eL rI s8.Out)]]⟩),(o4,some ⟨30,6,[[.fsl (eL zA s9.Codes),.sl (M3+15) 0 l14.length,.osl 103 2 (eL zM s9.Boxes),.int .i64 s9.Turn,.int .i64 s9.Idle,.osl 3 1 (eL rI s9.Out)]]⟩),(M3+3,some ⟨42,2,[[.fsl (eL rI v12.Regs),.int .i64 v12.Pc]]⟩),(M3+15,some ⟨42,2,eL zB s9.Threads++[[.osl 3 1 (eL rI r13),.int .i64 v12.Pc]]⟩)] M5=hp E0 [(o3,some ⟨30,6,[[.fsl (eL zA s8.Codes),.osl 42 2 (eL zB s8.Threads),.osl 103 2 (eL zM s8.Boxes),.int .i64 s8.Turn,.int .i64 s8.Idle,.osl 3 1 (eL rI s8.Out)]]⟩),(o4,some ⟨30,6,[[.fsl (eL zA s9.Codes),.sl (M3+15) 0 l14.length,.osl 103 2 (eL zM s9.Boxes),.int .i64 s9.Turn,.int .i64 s9.Idle,.osl 3 1 (eL rI s9.Out)]]⟩),(M3+3,some ⟨42,2,[[.fsl (eL rI v12.Regs),.int .i64 v12.Pc]]⟩),(M3+15,some ⟨42,2,eL zB l14⟩)] M5 from by rw[<- pH (f:=zB) (c:=[.osl 3 1 (eL rI r13),.int .i64 v12.Pc]) hl14 rfl]]
   have e0:=nQ o3 o4
   have e1:=nQ o3 (M3+3)
   have e2:=nQ o3 (M3+15)
   have e3:=nQ o4 (M3+3)
   have e4:=nQ o4 (M3+15)
   obtain rfl:=oi H
   refine qJ (j e0 (j e1 (j e2 (j e3 e4)))) hK3 ?_
   refine gP zI o4 0 1 ?_
   exact Rc.fin (zH (zH (AHeap.Sub.trans (AHeap.Sub.refl _) (zU rfl (by simp;try omega))))) ⟨M5+2,o3,o4,(by omega),(by omega),(by omega),(by omega),(by omega),(by omega),rfl,rfl⟩
  cases oj H
  refine zL (hO3 _ _ _ _ rfl ⟨rfl,?_⟩)
  refine kr ?_
  exact R3 (M3+1) o3 o4
 intro x a J hx
 obtain⟨y10,y11⟩:=e1
 obtain⟨rfl,b,U,hr,M4,o5,o6,fM4_0,fM4_1,fM4_2,fM4_3,fM4_4,fM4_5,rfl,rfl⟩:=hx
 (try dsimp only at H)
 show K2 _ _
 refine hK2 _ _ (zI hr ?_)
 refine Rc.mk ?_
 refine gU Wre o6 0 1 ?_
 obtain⟨r15,hr15,H⟩:=bE H
 refine Sm tok [] [4,6] (M4+19) (by
  intro K k
  have e0:=nQ o5 o6
  have e1:=nQ o5 M4
  have e2:=nQ o6 M4
  refine m1 (j e0 (j e1 e2)) ?_
  refine(c56_i_CrewRun_1_c4_0_1 (w4_0c1:=M4) (W4_0:=[[.fsl (eL zA y11.Codes),.sl M4 0 y11.Threads.length,.osl 103 2 (eL zM y11.Boxes),.int .i64 y11.Turn,.int .i64 y11.Idle,.osl 3 1 (eL rI y11.Out)]]) (r4_0_:=0) (H:=hr15) (by simp[e0,e1,e2]) (by simp[e0,e1,e2]) (by simp[e0,e1,e2]) (by simp[e0,e1,e2])).mono ?_;rintro _ _ ⟨M6,fM6_0,rfl,rfl⟩;simp only[hpN] at fM6_0
  refine m1 (j e0 (j e1 (j e2 (j @hoS @hoN)))) ?_
  exact k M6 (by omega)) fun M6 fM6_0=>?_
 refine gU Wre o6 0 1 ?_
 refine gU Wre o6 0 2 ?_
 refine gU Wre o6 0 5 ?_
 have e0:=nQ o5 o6
 have e1:=nQ o5 M6
 have e2:=nQ o5 (M6+1)
 have e3:=nQ o5 (M6+2)
 have e4:=nQ o6 M6
 have e5:=nQ o6 (M6+1)
 have e6:=nQ o6 (M6+2)
 refine qB [4,5] (j e0 (j e1 (j e2 (j e3 (j e4 (j e5 e6)))))) ?_
 obtain rfl:=oi H
 refine Kp [4,5] ?_
 refine gDrop Wre [(o5,some ⟨30,6,[[.fsl (eL zA r15.2.2.2.Codes),.sl M6 0 r15.2.2.2.Threads.length,.sl (M6+1) 0 r15.2.2.2.Boxes.length,.int .i64 r15.1,.int .i64 r15.2.1,.sl (M6+2) 0 r15.2.2.2.Out.length]]⟩),(M6,some ⟨42,2,eL zB r15.2.2.2.Threads⟩),(M6+1,some ⟨103,2,eL zM r15.2.2.2.Boxes⟩),(M6+2,some ⟨3,1,eL rI r15.2.2.2.Out⟩)] (zH (AHeap.Sub.trans (zH (zH (zH (AHeap.Sub.refl _)))) (zU rfl (by simp;try omega)))) ?_
 refine gP Wre o5 0 1 ?_
 refine gP Wre o5 0 2 ?_
 refine gP Wre o5 0 5 ?_
 refine gU Wre o5 0 1 ?_
 refine gU Wre o5 0 2 ?_
 refine gU Wre o5 0 5 ?_
 have z0:=nQ o5 (M6+6)
 have z1:=nQ o5 (M6+7)
 have z2:=nQ o5 (M6+8)
 refine Wr ?_
 refine⟨[.agg [.fsl (eL zA r15.2.2.2.Codes),.sl (M6+6) 0 r15.2.2.2.Threads.length,.sl (M6+7) 0 r15.2.2.2.Boxes.length,.int .i64 r15.1,.int .i64 r15.2.1,.sl (M6+8) 0 r15.2.2.2.Out.length],.bool true],by simp[z0,z1,z2],(fun o=>[o5,M6+7,M6+8].contains o),M6+9,M6+6,by omega,by omega,by omega,?_,?_⟩
 .simp[eN,z0,z1,z2]
 rw[cutD (L':=[(M6+6,some ⟨42,2,eL zB r15.2.2.2.Threads⟩)]) (by simp[z0,z1,z2])]
 first|done|rfl|simp

theorem c17_o {p0:List Int}{p1:(List (List gQuad))}{p2:Int}{r:gCrew}(H:gZ p0 p1 p2=some r){J:AHeap}:ACalls Tryz.prog G 17 [.fsl (eL rI p0),.fsl (eL zA p1),.int .i64 p2] J (fun v J'=>∃M n0:Nat,J.next<=M/\J.next<=n0/\n0<M/\v=.agg [.fsl (eL zA r.Codes),.sl n0 0 r.Threads.length,.fsl (eL rBox r.Boxes),.int .i64 r.Turn,.int .i64 r.Idle,.fsl (eL rI r.Out)]/\J'=hp J.objs [(n0,some ⟨42,2,eL zB r.Threads⟩)] M):=by
 refine fr2 [] (by simp) (fun hlt=>?_) ⟨_,func17,rfl,rfl⟩
 generalize J.next=N0 at hlt ⊢
 refine jE 4 ?_
 refine fnK tok func17 ntmps17 results17 ?_
 simp only[argsA,Nat.reduceAdd,hpN]
 unfold gZ at H
 refine qA [0,1,2,6] ?_
 refine gW Wre N0 0 0 ?_
 refine gP0 Wre N0 0 1 42 2 (eL zB ([]:List gThread)) ?_
 refine gW Wre N0 0 2 ?_
 refine gW Wre N0 0 5 ?_
 obtain⟨r1,hr1,H⟩:=bE H
 refine qD [2,6,7,8] (c13 hr1) ?_
 obtain⟨r2,hr2,H⟩:=bE H
 refine yU tok [] [6,8,9,10] (fun a J=>∃M1 o1:Nat,N0+19<=M1/\N0+19<=o1/\o1<M1/\a=[(6,.ptr N0 0 0),(8,.bool r1.2),(9,.ptr (N0+16) 0 0),(10,.bool r2.2)]/\J=hp E0 [(N0,some ⟨30,6,[[.fsl [],.osl 42 2 (eL zB ([]:List gThread)),.fsl [],.int .i64 0,.int .i64 0,.fsl []]]⟩),(N0+7,some ⟨30,6,[[.fsl (eL zA r1.1.Codes),.fsl (eL zJ r1.1.Threads),.fsl (eL rBox r1.1.Boxes),.int .i64 r1.1.Turn,.int .i64 r1.1.Idle,.fsl (eL rI r1.1.Out)]]⟩),(o1,some ⟨42,2,eL zB r2.1.Threads⟩),(N0+16,some ⟨30,6,[[.fsl (eL zA r2.1.Codes),.sl o1 0 r2.1.Threads.length,.fsl (eL rBox r2.1.Boxes),.int .i64 r2.1.Turn,.int .i64 r2.1.Idle,.fsl (eL rI r2.1.Out)]]⟩)] M1) (fun K hK=>?_) ?_
 .skip
  refine m0 ?_
  refine mo (c20_o2 (H:=hr2)) fun M1 o1 fM1_0 fM1_1 fM1_2=>?_
  have eM1_0:=nQ o1 N0
  have eM1_1:=nQ o1 (N0+7)
  have eM1_2:=nQ o1 (N0+16)
  refine m1 (j eM1_0 (j eM1_1 (j eM1_2 (j @hoS @hoN)))) ?_
  exact hK _ _ ⟨M1,o1,(by omega),(by omega),(by omega),rfl,rfl⟩
 rintro a J ⟨M1,o1,fM1_0,fM1_1,fM1_2,rfl,rfl⟩
 refine Wsq [6,9] fun K1 hK1=>?_
 obtain⟨g3,hg3,H⟩:=bE H
 refine qF tok [6,9,28] ([(6,.ptr N0 0 0),(9,.ptr (N0+16) 0 0),(28,.bool g3)]) (hp E0 [(N0,some ⟨30,6,[[.fsl [],.osl 42 2 (eL zB ([]:List gThread)),.fsl [],.int .i64 0,.int .i64 0,.fsl []]]⟩),(N0+7,some ⟨30,6,[[.fsl (eL zA r1.1.Codes),.fsl (eL zJ r1.1.Threads),.fsl (eL rBox r1.1.Boxes),.int .i64 r1.1.Turn,.int .i64 r1.1.Idle,.fsl (eL rI r1.1.Out)]]⟩),(o1,some ⟨42,2,eL zB r2.1.Threads⟩),(N0+16,some ⟨30,6,[[.fsl (eL zA r2.1.Codes),.sl o1 0 r2.1.Threads.length,.fsl (eL rBox r2.1.Boxes),.int .i64 r2.1.Turn,.int .i64 r2.1.Idle,.fsl (eL rI r2.1.Out)]]⟩)] (M1+6)) (by
  intro K k
  have e0:=nQ N0 o1
  have e1:=nQ (N0+7) o1
  have e2:=nQ o1 (N0+16)
  refine m1 (j e0 (j e1 e2)) ?_
  cases hbg3:bnot r1.2
  .cases oj (ifF hbg3 hg3)
   exact m1 (j e0 (j e1 (j e2 hbg3))) k
  cases oj (ifT hbg3 hg3)
  refine m1 (j e0 (j e1 (j e2 hbg3))) ?_
  exact k) ?_
 refine Ci H ?_ ?_<;>intro H
 .have e0:=nQ N0 o1
  have e1:=nQ (N0+7) o1
  have e2:=nQ o1 (N0+16)
  refine Sy tok [0] [6] (j e0 (j e1 e2)) ?_
  cases oj H
  refine Kp [6] ?_
  refine gDrop Wre [(N0,some ⟨30,6,[[.nilsl,.nilsl,.nilsl,.int .i64 0,.int .i64 0,.nilsl]]⟩)] (zH (AHeap.Sub.trans (AHeap.Sub.trans (AHeap.Sub.trans (AHeap.Sub.refl _) (zU rfl (by simp;try omega))) (zU rfl (by simp;try omega))) (zU rfl (by simp;try omega)))) ?_
  refine gW Wre N0 0 0 ?_
  refine gP0 Wre N0 0 1 42 2 (eL zB ([]:List gThread)) ?_
  refine gW Wre N0 0 2 ?_
  refine gW Wre N0 0 5 ?_
  refine gU Wre N0 0 1 ?_
  have z0:=nQ N0 (M1+8)
  refine Wr ?_
  refine⟨[.agg [.fsl [],.sl (M1+8) 0 ([]:List gThread).length,.fsl [],.int .i64 0,.int .i64 0,.fsl []]],by simp[z0],(fun o=>[N0].contains o),M1+9,M1+8,by omega,by omega,by omega,?_,?_⟩
  .simp[eN,z0]
  rw[cutD (L':=[(M1+8,some ⟨42,2,eL zB ([]:List gThread)⟩)]) (by simp[z0])]
  first|done|rfl|simp
 refine Js hK1 ?_
 have e0:=nQ N0 o1
 have e1:=nQ (N0+7) o1
 have e2:=nQ o1 (N0+16)
 refine qB [6] (j e0 (j e1 e2)) ?_
 obtain rfl:=oi H
 refine Kp [6] ?_
 refine gDrop Wre [(N0,some ⟨30,6,[[.fsl (eL zA r2.1.Codes),.sl o1 0 r2.1.Threads.length,.fsl (eL rBox r2.1.Boxes),.int .i64 r2.1.Turn,.int .i64 r2.1.Idle,.fsl (eL rI r2.1.Out)]]⟩),(o1,some ⟨42,2,eL zB r2.1.Threads⟩)] (zH (AHeap.Sub.trans (zH (AHeap.Sub.trans (AHeap.Sub.refl _) (zU rfl (by simp;try omega)))) (zU rfl (by simp;try omega)))) ?_
 refine gP Wre N0 0 1 ?_
 refine gU Wre N0 0 1 ?_
 have z1:=nQ N0 (M1+8)
 refine Wr ?_
 refine⟨[.agg [.fsl (eL zA r2.1.Codes),.sl (M1+8) 0 r2.1.Threads.length,.fsl (eL rBox r2.1.Boxes),.int .i64 r2.1.Turn,.int .i64 r2.1.Idle,.fsl (eL rI r2.1.Out)]],by simp[z1],(fun o=>[N0].contains o),M1+9,M1+8,by omega,by omega,by omega,?_,?_⟩
 .simp[eN,z1]
 rw[cutD (L':=[(M1+8,some ⟨42,2,eL zB r2.1.Threads⟩)]) (by simp[z1])]
 first|done|rfl|simp

theorem c59_o {p0:List gQuad}{r:List gQuad}(H:kT p0=some r){J:AHeap}:ACalls Tryz.prog G 59 [.fsl (eL rQuad p0)] J (fun v J'=>∃M n0:Nat,J.next<=M/\J.next<=n0/\n0<M/\v=.sl n0 0 r.length/\J'=hp J.objs [(n0,some ⟨36,5,eL rQuad r⟩)] M):=by
 refine fr2 [] (by simp) (fun hlt=>?_) ⟨_,func59,rfl,rfl⟩
 generalize J.next=N0 at hlt ⊢
 refine fnK tok func59 ntmps59 results59 ?_
 simp only[argsA,Nat.reduceAdd,hpN]
 unfold kT at H
 refine qA [0] ?_
 refine Wsq [0] fun K1 hK1=>?_
 refine AWP_isnil tok [4,0] ([(0,.fsl (eL rQuad p0))]) rfl rfl (by decide) (by decide) (by decide) (fun _=>rfl) (fun n0=>?_) ?_
 .replace n0:p0=[]:=encL_isnil n0
  replace H:(if true=true then   some ([]:List gQuad) else   (appx 40 ([]:List gQuad) p0).bind fun l2=>   some l2:Option ((List gQuad)))=some r:=by simpa [n0,appx] using H
  refine Ci H ?_ ?_<;>intro H
  .refine qA [2] ?_
   cases oj H
   refine Kp [2] ?_
   refine gNilS Wre 2 36 5 [(N0+2,some ⟨36,5,eL rQuad ([]:List gQuad)⟩)] [(2,.sl (N0+2) 0 ([]:List gQuad).length)] (by simp(disch:=omega)) (by simp(disch:=omega) [eN]) [2] rfl ?_
   exact V2 j0 (N0+3) (N0+2)
  refine Js hK1 ?_
  obtain⟨l2,hl2,H⟩:=bE H
  have q2:∀J i,bsA T 34 true i 0 [] J=some (.esl,J):=fun _ _=>rfl
  refine Sz tok [0] [2] q2 (appe34 hl2) ?_
  obtain rfl:=oi H
  refine Kp [2] ?_
  exact V2 j0 (N0+5) (N0+3)
 .
  refine Ci H ?_ ?_<;>intro H
  .refine qA [2] ?_
   cases oj H
   refine Kp [2] ?_
   refine gNilS Wre 2 36 5 [(N0+2,some ⟨36,5,eL rQuad ([]:List gQuad)⟩)] [(2,.sl (N0+2) 0 ([]:List gQuad).length)] (by simp(disch:=omega)) (by simp(disch:=omega) [eN]) [2] rfl ?_
   exact V2 j0 (N0+3) (N0+2)
  refine Js hK1 ?_
  obtain⟨l1,hl1,H⟩:=bE H
  have q1:∀J i,bsA T 34 true i 0 [] J=some (.esl,J):=fun _ _=>rfl
  refine Sz tok [0] [2] q1 (appe34 hl1) ?_
  obtain rfl:=oi H
  refine Kp [2] ?_
  exact V2 j0 (N0+5) (N0+3)

theorem c43_o2 {p0:(List (List gQuad))}{r:(List (List gQuad))}(H:vW p0=some r){J:AHeap}:ACalls Tryz.prog G 43 [.fsl (eL zA p0)] J (fun v J'=>∃M n0:Nat,J.next<=M/\J.next<=n0/\n0<M/\v=.sl n0 0 r.length/\J'=hp J.objs [(n0,some ⟨34,1,eL zK r⟩)] M):=by
 refine fr2 [] (by simp) (fun hlt=>?_) ⟨_,func43,rfl,rfl⟩
 generalize J.next=N0 at hlt ⊢
 refine fnK tok func43 ntmps43 results43 ?_
 simp only[argsA,Nat.reduceAdd,hpN]
 unfold vW at H
 refine qA [0] ?_
 refine qA [0,3] ?_
 refine Wsq [3] fun K1 hK1=>?_
 refine qA [3,6,7,8] ?_
 refine Wb ?_
 obtain⟨e1,hse1,H⟩:=bE H
 refine zX [3,6,7,8] (fun s a J=>∃M1 o1:Nat,N0<=M1/\N0<=o1/\o1<M1/\a=[(3,.sl o1 0 s.2.length),(6,.fsl (eL zA p0)),(7,.int .i64 (ilen p0)),(8,.int .i64 s.1)]/\J=hp E0 [(o1,some ⟨34,1,eL zK s.2⟩)] M1) (fun s x a J=>x=.exit 0/\Rc G 19 N0 (fun a J=>∃M2 o2:Nat,N0<=M2/\N0<=o2/\o2<M2/\a=[(3,.sl o2 0 s.length)]/\J=hp E0 [(o2,some ⟨34,1,eL zK s⟩)] M2) (AAct.keep a [3]) J) hse1 ?_ ?_ ?_
 .refine kp [3,6,7,8] ?_
  refine gNilS zI 3 34 1 [(N0+5,some ⟨34,1,eL zK ([]:List (List gQuad))⟩)] [(3,.sl (N0+5) 0 ([]:List (List gQuad)).length),(6,.fsl (eL zA p0)),(7,.int .i64 (ilen p0)),(8,.int .i64 0)] (by simp(disch:=omega)) (by simp(disch:=omega) [eN]) [3,6,7,8] rfl ?_
  exact R2 (N0+6) (N0+5)
 .clear H hse1
  rintro⟨s1,s2⟩ fl a J H ⟨M1,o1,fM1_0,fM1_1,fM1_2,rfl,rfl⟩ K2 O2 hK2 hO2
  unfold nJ at H;dsimp only at H
  refine qA [3,6,7,8,9] ?_
  refine Wsq [3,6,7,8] fun K3 hK3=>?_
  refine Ci H ?_ ?_<;>intro H
  .refine Js hK3 ?_
   refine Wsq [3,6,7,8] fun K4 hK4=>?_
   refine Wb ?_
   obtain⟨v4,hv4,H⟩:=bE H
   refine qB [3,5,6,7,8] (ix24 hv4) ?_
   obtain⟨r5,hr5,H⟩:=bE H
   obtain⟨l6,hl6,H⟩:=bE H
   have q0:∀(a0:Nat) (a1:Nat) J i,bsA T 24 true i 1 [(0,.sl a0 0 a1)] J=some (.fsl [[.sl a0 0 a1]],J):=fun _ _ _ _=>rfl
   refine fM tok [3] [3,6,7,8] (fun a J=>∃M3 o3:Nat,M1+10<=M3/\M1+10<=o3/\o3<M3/\a=[(3,.sl (M1+8) 0 l6.length),(6,.fsl (eL zA p0)),(7,.int .i64 (ilen p0)),(8,.int .i64 s1)]/\J=hp E0 [(o3,some ⟨36,5,eL rQuad r5⟩),(M1+8,some ⟨34,1,eL zK s2++[[.sl o3 0 r5.length]]⟩)] M3) (fun K hK=>?_) ?_
   .skip
    have e0:=nQ o1 (M1+8)
    refine m1 (j e0 (j q0 (apr24 zK hl6))) ?_
    refine mo (c59_o (H:=hr5)) fun M3 o3 fM3_0 fM3_1 fM3_2=>?_
    have eM3_0:=nQ o3 o1
    have eM3_1:=nQ o3 (M1+8)
    refine m1 (j e0 (j q0 (j (apr24 zK hl6) (j eM3_0 (j eM3_1 (j @hoS @hoN)))))) ?_
    exact hK _ _ ⟨M3,o3,(by omega),(by omega),(by omega),rfl,rfl⟩
   rintro a J ⟨M3,o3,fM3_0,fM3_1,fM3_2,ha,rfl⟩
   refine hK4 _ _ ?_;rw[ha]
   refine Rc.mk ?_
   refine gP Wre (M1+8) s2.length 0 ?_ (hr:=by exact pG _ _ _)
   rw[show hp E0 [(M1+8,some ⟨34,1,eL zK s2++[[.osl 36 5 (eL rQuad r5)]]⟩)] M3=hp E0 [(M1+8,some ⟨34,1,eL zK l6⟩)] M3 from by rw[<- pH (f:=zK) (c:=[.osl 36 5 (eL rQuad r5)]) hl6 rfl]]
   obtain rfl:=oi H
   refine qI hK2 ?_
   exact R2 (M3+2) (M1+8)
  cases oj H
  refine zL (hO2 _ _ _ _ rfl ⟨rfl,?_⟩)
  refine kr ?_
  exact R2 (M1+1) o1
 intro x a J hx
 obtain⟨y3,rfl⟩:∃x,x=e1:=⟨_,rfl⟩
 obtain⟨rfl,b,U,hr,M2,o2,fM2_0,fM2_1,fM2_2,rfl,rfl⟩:=hx
 (try dsimp only at H)
 show K1 _ _
 refine hK1 _ _ (zI hr ?_)
 refine Rc.mk ?_
 refine qA [2] ?_
 obtain rfl:=oi H
 refine Kp [2] ?_
 exact V2 j0 (M2+2) o2

theorem c58_mo {p0:gThread}{p1:List gQuad}{p2:List gBox}{p3:List Int}{r:Int×gThread×(List gQuad)×(List gBox)×(List Int)}(H:jG p0 p1 p2 p3=some r){J:AHeap}{w0:Nat}{W0:List (List AV)}{r0_:Nat}{w1:Nat}{w2:Nat}{w3:Nat}{W3:List (List AV)}{r3_:Nat}{x3_:List AV}{i3_:Nat}{t3_ s3_:Nat}(q0:J.objs w0=some ⟨42,2,W0⟩)(g0:W0[r0_]? =some [.osl 3 1 (eL rI p0.Regs),.int .i64 p0.Pc])(q1:J.objs w1=some ⟨36,5,eL rQuad p1⟩)(q2:J.objs w2=some ⟨103,2,eL zM p2⟩)(q3:J.objs w3=some ⟨t3_,s3_,W3⟩)(g3:W3[r3_]? =some x3_)(k3:x3_[i3_]? =some (.osl 3 1 (eL rI p3)))(d0_1:¬w0=w1)(d0_2:¬w0=w2)(d0_3:¬w0=w3)(d1_2:¬w1=w2)(d1_3:¬w1=w3)(d2_3:¬w2=w3):ACalls Tryz.prog G 58 [.ptr w0 r0_ 0,.sl w1 0 p1.length,.sl w2 0 p2.length,.ptr w3 r3_ i3_] J (fun v J'=>∃M:Nat,J.next<=M/\r.2.2.1.length=p1.length/\r.2.2.2.1.length=p2.length/\v=.int .i64 r.1/\J'=hp J.objs [(w0,some ⟨42,2,W0.set r0_ [.osl 3 1 (eL rI r.2.1.Regs),.int .i64 r.2.1.Pc]⟩),(w1,some ⟨36,5,eL rQuad r.2.2.1⟩),(w2,some ⟨103,2,eL zM r.2.2.2.1⟩),(w3,some ⟨t3_,s3_,W3.set r3_ (x3_.set i3_ (.osl 3 1 (eL rI r.2.2.2.2)))⟩)] M):=by
 refine jV (L:=[(w0,some ⟨42,2,W0⟩),(w1,some ⟨36,5,eL rQuad p1⟩),(w2,some ⟨103,2,eL zM p2⟩),(w3,some ⟨t3_,s3_,W3⟩)]) (Q1:=fun v J'=>∃M:Nat,J.next<=M/\r.2.2.1.length=p1.length/\r.2.2.2.1.length=p2.length/\v=.int .i64 r.1/\J'=hp E0 [(w0,some ⟨42,2,W0.set r0_ [.osl 3 1 (eL rI r.2.1.Regs),.int .i64 r.2.1.Pc]⟩),(w1,some ⟨36,5,eL rQuad r.2.2.1⟩),(w2,some ⟨103,2,eL zM r.2.2.2.1⟩),(w3,some ⟨t3_,s3_,W3.set r3_ (x3_.set i3_ (.osl 3 1 (eL rI r.2.2.2.2)))⟩)] M) (by simp[q0,q1,q2,q3]) (fun hlt=>?_) ?_ ⟨_,func58,rfl,rfl⟩
 rotate_left
 .rintro v J1 ⟨M,h0,h1,h2,rfl,rfl⟩
  exact⟨_,M,rfl,by simp,by simp;try omega,M,h0,h1,h2,rfl,rfl⟩
 generalize J.next=N0 at hlt ⊢
 have lw0:w0<N0:=hlt _ (.head _) rfl
 have lw1:w1<N0:=hlt _ (.tail _ (.head _)) rfl
 have lw2:w2<N0:=hlt _ (.tail _ (.tail _ (.head _))) rfl
 have lw3:w3<N0:=hlt _ (.tail _ (.tail _ (.tail _ (.head _)))) rfl
 have gs_W0:∀x,(W0.set r0_ x)[r0_]? =some x:=gsetW g0
 rw[<- kD g0]
 have gs_W3:∀x,(W3.set r3_ x)[r3_]? =some x:=gsetW g3
 have gs_x3_:∀x,(x3_.set i3_ x)[i3_]? =some x:=gsetC k3
 have ws_x3_:=winS k3
 have wl_x3_:=winL k3
 rw[show W3=W3.set r3_ (x3_.set i3_ (.osl 3 1 (eL rI p3))) from by rw[kD k3,kD g3]]
 refine fnK tok func58 ntmps58 results58 ?_
 simp only[argsA,Nat.reduceAdd,hpN]
 unfold jG at H
 have e0:=nQ w0 w1
 have e1:=nQ w0 w2
 have e2:=nQ w0 w3
 have e3:=nQ w1 w2
 have e4:=nQ w1 w3
 have e5:=nQ w2 w3
 refine qB [0,1,2,3] (j e0 (j e1 (j e2 (j e3 (j e4 (j e5 (j gs_W0 (j gs_W3 (j gs_x3_ (j ws_x3_ wl_x3_)))))))))) ?_
 obtain⟨v1,hv1,H⟩:=bE H
 have e0:=nQ w0 w1
 have e1:=nQ w0 w2
 have e2:=nQ w0 w3
 have e3:=nQ w0 (N0+8)
 have e4:=nQ w1 w2
 have e5:=nQ w1 w3
 have e6:=nQ w1 (N0+8)
 have e7:=nQ w2 w3
 have e8:=nQ w2 (N0+8)
 have e9:=nQ w3 (N0+8)
 refine qB [0,2,3,9] (j e0 (j e1 (j e2 (j e3 (j e4 (j e5 (j e6 (j e7 (j e8 (j e9 (j gs_W0 (j gs_W3 (j gs_x3_ (j ws_x3_ (j wl_x3_ (j (ixo34 hv1) ((zC hv1).2.2))))))))))))))))) ?_
 have e0:=nQ w0 w1
 have e1:=nQ w0 w2
 have e2:=nQ w0 w3
 have e3:=nQ w0 (N0+8)
 have e4:=nQ w1 w2
 have e5:=nQ w1 w3
 have e6:=nQ w1 (N0+8)
 have e7:=nQ w2 w3
 have e8:=nQ w2 (N0+8)
 have e9:=nQ w3 (N0+8)
 refine qB [0,2,3,9,10] (j e0 (j e1 (j e2 (j e3 (j e4 (j e5 (j e6 (j e7 (j e8 (j e9 (j gs_W0 (j gs_W3 (j gs_x3_ (j ws_x3_ wl_x3_)))))))))))))) ?_
 obtain⟨flj1,hflj1,H⟩:=bE H
 refine kR (kO fun K1 hK1=>?_)
 have hJ1:∀(j1:Int×gThread×(List gBox)×(List Int)) a J,flj1=.next j1->Rc G 165 N0 (fun a J=>∃M1:Nat,N0<=M1/\p1.length=p1.length/\j1.2.2.1.length=p2.length/\a=[(0,.ptr w0 r0_ 0),(10,.int .i64 j1.1)]/\J=hp E0 [(w0,some ⟨42,2,W0.set r0_ [.osl 3 1 (eL rI j1.2.1.Regs),.int .i64 j1.2.1.Pc]⟩),(w1,some ⟨36,5,eL rQuad p1⟩),(w2,some ⟨103,2,eL zM j1.2.2.1⟩),(w3,some ⟨t3_,s3_,W3.set r3_ (x3_.set i3_ (.osl 3 1 (eL rI j1.2.2.2)))⟩)] M1) (AAct.keep a [0,10]) J->K1 a J:=by
  rintro j1 a J hfl ⟨b,U,hr,M1,fM1_0,fM1_1,fM1_2,rfl,rfl⟩
  subst hfl;dsimp only at H
  refine hK1 _ _ (kH [0,10] (Wre hr ?_))
  have e0:=nQ w0 w1
  have e1:=nQ w0 w2
  have e2:=nQ w0 w3
  have e3:=nQ w1 w2
  have e4:=nQ w1 w3
  have e5:=nQ w2 w3
  refine qB [] (j e0 (j e1 (j e2 (j e3 (j e4 (j e5 (j gs_W0 (j gs_W3 (j gs_x3_ (j ws_x3_ wl_x3_)))))))))) ?_
  have e0:=nQ w0 w1
  have e1:=nQ w0 w2
  have e2:=nQ w0 w3
  have e3:=nQ w1 w2
  have e4:=nQ w1 w3
  have e5:=nQ w2 w3
  refine qB [8] (j e0 (j e1 (j e2 (j e3 (j e4 (j e5 (j gs_W0 (j gs_W3 (j gs_x3_ (j ws_x3_ wl_x3_)))))))))) ?_
  cases oj H
  refine Kp [8] ?_
  have z0:=nQ w0 w1
  have z1:=nQ w0 w2
  have z2:=nQ w0 w3
  have z3:=nQ w1 w2
  have z4:=nQ w1 w3
  have z5:=nQ w2 w3
  refine Wr ?_
  refine⟨[.int .i64 1],by simp[z0,z1,z2,z3,z4,z5,gs_W0,gs_W3,gs_x3_,ws_x3_,wl_x3_],M1+6,by omega,by first|rfl|exact fM1_1|omega,by first|rfl|exact fM1_2|omega,?_,?_⟩
  .simp[eN]
  first|rfl|simp
 have Gj1:=H;replace H:=hflj1
 have e0:=nQ w0 w1
 have e1:=nQ w0 w2
 have e2:=nQ w0 w3
 have e3:=nQ w0 (N0+8)
 have e4:=nQ w1 w2
 have e5:=nQ w1 w3
 have e6:=nQ w1 (N0+8)
 have e7:=nQ w2 w3
 have e8:=nQ w2 (N0+8)
 have e9:=nQ w3 (N0+8)
 refine qB [0,2,3,9,10,26] (j e0 (j e1 (j e2 (j e3 (j e4 (j e5 (j e6 (j e7 (j e8 (j e9 (j gs_W0 (j gs_W3 (j gs_x3_ (j ws_x3_ wl_x3_)))))))))))))) ?_
 refine Wb ?_
 have e0:=nQ w0 w1
 have e1:=nQ w0 w2
 have e2:=nQ w0 w3
 have e3:=nQ w0 (N0+8)
 have e4:=nQ w1 w2
 have e5:=nQ w1 w3
 have e6:=nQ w1 (N0+8)
 have e7:=nQ w2 w3
 have e8:=nQ w2 (N0+8)
 have e9:=nQ w3 (N0+8)
 refine qB [0,2,3,9,10,26,27] (j e0 (j e1 (j e2 (j e3 (j e4 (j e5 (j e6 (j e7 (j e8 (j e9 (j gs_W0 (j gs_W3 (j gs_x3_ (j ws_x3_ wl_x3_)))))))))))))) ?_
 refine Ci H ?_ ?_<;>intro H
 .refine gU Wre w0 r0_ 0 ?_ (hr:=by exact gs_W0 _)
  obtain⟨v6,hv6,H⟩:=bE H
  obtain⟨l7,hl7,H⟩:=bE H
  refine nU tok tokM [] [3,5,7,8,9] [0,1,2,4,6,3,5,7,8,9] [0,10] (fun a J=>a=[(0,.ptr w0 r0_ 0),(10,.int .i64 (iadd .i64 p0.Pc 1))]/\J=hp E0 [(w0,some ⟨42,2,W0.set r0_ [.sl (N0+20) 0 p0.Regs.length,.int .i64 p0.Pc]⟩),(w1,some ⟨36,5,eL rQuad p1⟩),(w2,some ⟨103,2,eL zM p2⟩),(w3,some ⟨t3_,s3_,W3.set r3_ (x3_.set i3_ (.osl 3 1 (eL rI p3)))⟩),(N0+8,some ⟨36,5,[[.int .i64 v1.Op,.int .i64 v1.Dst,.int .i64 v1.A,.int .i64 v1.B,.int .i64 v1.N]]⟩),(N0+20,some ⟨3,1,eL rI l7⟩)] (N0+31)) (by decide) (fun K hK=>?_) ?_
  .simp only[pickL,zO,zP]
   have e0:=nQ w0 w1
   have e1:=nQ w0 w2
   have e2:=nQ w0 w3
   have e3:=nQ w0 (N0+8)
   have e4:=nQ w0 (N0+20)
   have e5:=nQ w1 w2
   have e6:=nQ w1 w3
   have e7:=nQ w1 (N0+8)
   have e8:=nQ w1 (N0+20)
   have e9:=nQ w2 w3
   have e10:=nQ w2 (N0+8)
   have e11:=nQ w2 (N0+20)
   have e12:=nQ w3 (N0+8)
   have e13:=nQ w3 (N0+20)
   refine m1 (j e0 (j e1 (j e2 (j e3 (j e4 (j e5 (j e6 (j e7 (j e8 (j e9 (j e10 (j e11 (j e12 (j e13 (j gs_W0 (j gs_W3 (j gs_x3_ (j ws_x3_ (j wl_x3_ (j (ixo23 hv6) (j ((zC hv6).2.2) ((setx_iff.1 hl7).2.symm)))))))))))))))))))))) ?_
   exact hK _ _ ⟨rfl,rfl⟩
  rintro a J ⟨ha,rfl⟩
  (try rw[<- zE hl7] at ha);(try rw[<- zE hl7])
  replace H:=oi H
  refine hJ1 _ _ _ H.symm ?_;rw[ha]
  refine gP zI w0 r0_ 0 ?_ (hr:=by exact gs_W0 _)
  exact Rc.fin (zH (zH (zH (zH (AHeap.Sub.trans (AHeap.Sub.refl _) (zU rfl (by simp;try omega))))))) ⟨N0+31,(by omega),(by first|rfl|exact rfl|omega),(by first|rfl|exact rfl|omega),rfl,rfl⟩
 have e0:=nQ w0 w1
 have e1:=nQ w0 w2
 have e2:=nQ w0 w3
 have e3:=nQ w0 (N0+8)
 have e4:=nQ w1 w2
 have e5:=nQ w1 w3
 have e6:=nQ w1 (N0+8)
 have e7:=nQ w2 w3
 have e8:=nQ w2 (N0+8)
 have e9:=nQ w3 (N0+8)
 refine qB [0,2,3,9,10,26,38] (j e0 (j e1 (j e2 (j e3 (j e4 (j e5 (j e6 (j e7 (j e8 (j e9 (j gs_W0 (j gs_W3 (j gs_x3_ (j ws_x3_ wl_x3_)))))))))))))) ?_
 refine Ci H ?_ ?_<;>intro H
 .refine gU Wre w0 r0_ 0 ?_ (hr:=by exact gs_W0 _)
  obtain⟨v8,hv8,H⟩:=bE H
  obtain⟨v9,hv9,H⟩:=bE H
  obtain⟨l10,hl10,H⟩:=bE H
  refine nU tok tokM [] [3,5,9,11,12,13,14,15] [0,1,2,4,6,7,8,10,3,5,9,11,12,13,14,15] [0,10] (fun a J=>a=[(0,.ptr w0 r0_ 0),(10,.int .i64 (iadd .i64 p0.Pc 1))]/\J=hp E0 [(w0,some ⟨42,2,W0.set r0_ [.sl (N0+22) 0 p0.Regs.length,.int .i64 p0.Pc]⟩),(w1,some ⟨36,5,eL rQuad p1⟩),(w2,some ⟨103,2,eL zM p2⟩),(w3,some ⟨t3_,s3_,W3.set r3_ (x3_.set i3_ (.osl 3 1 (eL rI p3)))⟩),(N0+8,some ⟨36,5,[[.int .i64 v1.Op,.int .i64 v1.Dst,.int .i64 v1.A,.int .i64 v1.B,.int .i64 v1.N]]⟩),(N0+22,some ⟨3,1,eL rI l10⟩)] (N0+39)) (by decide) (fun K hK=>?_) ?_
  .simp only[pickL,zO,zP]
   have e0:=nQ w0 w1
   have e1:=nQ w0 w2
   have e2:=nQ w0 w3
   have e3:=nQ w0 (N0+8)
   have e4:=nQ w0 (N0+22)
   have e5:=nQ w1 w2
   have e6:=nQ w1 w3
   have e7:=nQ w1 (N0+8)
   have e8:=nQ w1 (N0+22)
   have e9:=nQ w2 w3
   have e10:=nQ w2 (N0+8)
   have e11:=nQ w2 (N0+22)
   have e12:=nQ w3 (N0+8)
   have e13:=nQ w3 (N0+22)
   refine m1 (j e0 (j e1 (j e2 (j e3 (j e4 (j e5 (j e6 (j e7 (j e8 (j e9 (j e10 (j e11 (j e12 (j e13 (j gs_W0 (j gs_W3 (j gs_x3_ (j ws_x3_ (j wl_x3_ (j (ixo23 hv8) (j ((zC hv8).2.2) (j (ixo23 hv9) (j ((zC hv9).2.2) ((setx_iff.1 hl10).2.symm)))))))))))))))))))))))) ?_
   exact hK _ _ ⟨rfl,rfl⟩
  rintro a J ⟨ha,rfl⟩
  (try rw[<- zE hl10] at ha);(try rw[<- zE hl10])
  replace H:=oi H
  refine hJ1 _ _ _ H.symm ?_;rw[ha]
  refine gP zI w0 r0_ 0 ?_ (hr:=by exact gs_W0 _)
  exact Rc.fin (zH (zH (zH (zH (AHeap.Sub.trans (AHeap.Sub.refl _) (zU rfl (by simp;try omega))))))) ⟨N0+39,(by omega),(by first|rfl|exact rfl|omega),(by first|rfl|exact rfl|omega),rfl,rfl⟩
 have e0:=nQ w0 w1
 have e1:=nQ w0 w2
 have e2:=nQ w0 w3
 have e3:=nQ w0 (N0+8)
 have e4:=nQ w1 w2
 have e5:=nQ w1 w3
 have e6:=nQ w1 (N0+8)
 have e7:=nQ w2 w3
 have e8:=nQ w2 (N0+8)
 have e9:=nQ w3 (N0+8)
 refine qB [0,2,3,9,10,26,55] (j e0 (j e1 (j e2 (j e3 (j e4 (j e5 (j e6 (j e7 (j e8 (j e9 (j gs_W0 (j gs_W3 (j gs_x3_ (j ws_x3_ wl_x3_)))))))))))))) ?_
 refine Ci H ?_ ?_<;>intro H
 .refine gU Wre w0 r0_ 0 ?_ (hr:=by exact gs_W0 _)
  obtain⟨v11,hv11,H⟩:=bE H
  obtain⟨v12,hv12,H⟩:=bE H
  obtain⟨r13,hr13,H⟩:=bE H
  obtain⟨v14,hv14,H⟩:=bE H
  obtain⟨l15,hl15,H⟩:=bE H
  refine dX tok tokM [] [3,5,7,11,13,14,15,19,21,22,23,24,25,26] [0,1,2,4,6,8,9,10,12,16,17,18,20,3,5,7,11,13,14,15,19,21,22,23,24,25,26] [(24,[3,5])] [0,10] (fun a J=>a=[(0,.ptr w0 r0_ 0),(10,.int .i64 (iadd .i64 p0.Pc 1))]/\J=hp E0 [(w0,some ⟨42,2,W0.set r0_ [.sl (N0+24) 0 p0.Regs.length,.int .i64 p0.Pc]⟩),(w1,some ⟨36,5,eL rQuad p1⟩),(w2,some ⟨103,2,eL zM p2⟩),(w3,some ⟨t3_,s3_,W3.set r3_ (x3_.set i3_ (.osl 3 1 (eL rI p3)))⟩),(N0+8,some ⟨36,5,[[.int .i64 v1.Op,.int .i64 v1.Dst,.int .i64 v1.A,.int .i64 v1.B,.int .i64 v1.N]]⟩),(N0+24,some ⟨3,1,eL rI l15⟩)] (N0+52)) (by decide) (fun K hK=>?_) ?_
  .simp only[pickL,zO,zP]
   have e0:=nQ w0 w1
   have e1:=nQ w0 w2
   have e2:=nQ w0 w3
   have e3:=nQ w0 (N0+8)
   have e4:=nQ w0 (N0+24)
   have e5:=nQ w1 w2
   have e6:=nQ w1 w3
   have e7:=nQ w1 (N0+8)
   have e8:=nQ w1 (N0+24)
   have e9:=nQ w2 w3
   have e10:=nQ w2 (N0+8)
   have e11:=nQ w2 (N0+24)
   have e12:=nQ w3 (N0+8)
   have e13:=nQ w3 (N0+24)
   refine m1 (j e0 (j e1 (j e2 (j e3 (j e4 (j e5 (j e6 (j e7 (j e8 (j e9 (j e10 (j e11 (j e12 (j e13 (j gs_W0 (j gs_W3 (j gs_x3_ (j ws_x3_ (j wl_x3_ (j (ixo23 hv11) (j ((zC hv11).2.2) (j (ixo23 hv12) (j ((zC hv12).2.2) (j (ixo23 hv14) (j ((zC hv14).2.2) ((setx_iff.1 hl15).2.symm)))))))))))))))))))))))))) ?_
   refine(c85 hr13).app (m1 (j e0 (j e1 (j e2 (j e3 (j e4 (j e5 (j e6 (j e7 (j e8 (j e9 (j e10 (j e11 (j e12 (j e13 (j gs_W0 (j gs_W3 (j gs_x3_ (j ws_x3_ (j wl_x3_ (j (ixo23 hv11) (j ((zC hv11).2.2) (j (ixo23 hv12) (j ((zC hv12).2.2) (j (ixo23 hv14) (j ((zC hv14).2.2) ((setx_iff.1 hl15).2.symm)))))))))))))))))))))))))) ?_)
   exact hK _ _ ⟨rfl,rfl⟩
  rintro a J ⟨ha,rfl⟩
  (try rw[<- zE hl15] at ha);(try rw[<- zE hl15])
  replace H:=oi H
  refine hJ1 _ _ _ H.symm ?_;rw[ha]
  refine gP zI w0 r0_ 0 ?_ (hr:=by exact gs_W0 _)
  exact Rc.fin (zH (zH (zH (zH (AHeap.Sub.trans (AHeap.Sub.refl _) (zU rfl (by simp;try omega))))))) ⟨N0+52,(by omega),(by first|rfl|exact rfl|omega),(by first|rfl|exact rfl|omega),rfl,rfl⟩
 have e0:=nQ w0 w1
 have e1:=nQ w0 w2
 have e2:=nQ w0 w3
 have e3:=nQ w0 (N0+8)
 have e4:=nQ w1 w2
 have e5:=nQ w1 w3
 have e6:=nQ w1 (N0+8)
 have e7:=nQ w2 w3
 have e8:=nQ w2 (N0+8)
 have e9:=nQ w3 (N0+8)
 refine qB [0,2,3,9,10,26,83] (j e0 (j e1 (j e2 (j e3 (j e4 (j e5 (j e6 (j e7 (j e8 (j e9 (j gs_W0 (j gs_W3 (j gs_x3_ (j ws_x3_ wl_x3_)))))))))))))) ?_
 refine Ci H ?_ ?_<;>intro H
 .have e0:=nQ w0 w1
  have e1:=nQ w0 w2
  have e2:=nQ w0 w3
  have e3:=nQ w0 (N0+8)
  have e4:=nQ w1 w2
  have e5:=nQ w1 w3
  have e6:=nQ w1 (N0+8)
  have e7:=nQ w2 w3
  have e8:=nQ w2 (N0+8)
  have e9:=nQ w3 (N0+8)
  refine Rt tok [] [0,10] (by intro K k;simp -dsimp -implicitDefEqProofs [e0,e1,e2,e3,e4,e5,e6,e7,e8,e9,gs_W0,gs_W3,gs_x3_,ws_x3_,wl_x3_];exact k) fun a ha=>?_
  replace H:=oi H
  refine hJ1 _ _ _ H.symm ?_;rw[ha]
  exact Rc.fin (zH (zH (zH (zH (AHeap.Sub.trans (AHeap.Sub.refl _) (zU rfl (by simp;try omega))))))) ⟨N0+29,(by omega),(by first|rfl|exact rfl|omega),(by first|rfl|exact rfl|omega),rfl,rfl⟩
 have e0:=nQ w0 w1
 have e1:=nQ w0 w2
 have e2:=nQ w0 w3
 have e3:=nQ w0 (N0+8)
 have e4:=nQ w1 w2
 have e5:=nQ w1 w3
 have e6:=nQ w1 (N0+8)
 have e7:=nQ w2 w3
 have e8:=nQ w2 (N0+8)
 have e9:=nQ w3 (N0+8)
 refine qB [0,2,3,9,10,26,87] (j e0 (j e1 (j e2 (j e3 (j e4 (j e5 (j e6 (j e7 (j e8 (j e9 (j gs_W0 (j gs_W3 (j gs_x3_ (j ws_x3_ wl_x3_)))))))))))))) ?_
 refine Ci H ?_ ?_<;>intro H
 .refine gU Wre w0 r0_ 0 ?_ (hr:=by exact gs_W0 _)
  obtain⟨v16,hv16,H⟩:=bE H
  refine Sd tok tokM [] [3,5,6,7] [0,1,2,4,3,5,6,7,8] [0,9,10,97] (by
   intro K k
   have e0:=nQ w0 w1
   have e1:=nQ w0 w2
   have e2:=nQ w0 w3
   have e3:=nQ w0 (N0+8)
   have e4:=nQ w0 (N0+28)
   have e5:=nQ w1 w2
   have e6:=nQ w1 w3
   have e7:=nQ w1 (N0+8)
   have e8:=nQ w1 (N0+28)
   have e9:=nQ w2 w3
   have e10:=nQ w2 (N0+8)
   have e11:=nQ w2 (N0+28)
   have e12:=nQ w3 (N0+8)
   have e13:=nQ w3 (N0+28)
   simp only[pickL,zO,zP]
   refine m1 (j e0 (j e1 (j e2 (j e3 (j e4 (j e5 (j e6 (j e7 (j e8 (j e9 (j e10 (j e11 (j e12 (j e13 (j gs_W0 (j gs_W3 (j gs_x3_ (j ws_x3_ (j wl_x3_ (j (ixo23 hv16) ((zC hv16).2.2))))))))))))))))))))) ?_
   exact k) ?_
  refine Ci H ?_ ?_<;>intro H
  .have e0:=nQ w0 w1
   have e1:=nQ w0 w2
   have e2:=nQ w0 w3
   have e3:=nQ w0 (N0+8)
   have e4:=nQ w0 (N0+28)
   have e5:=nQ w1 w2
   have e6:=nQ w1 w3
   have e7:=nQ w1 (N0+8)
   have e8:=nQ w1 (N0+28)
   have e9:=nQ w2 w3
   have e10:=nQ w2 (N0+8)
   have e11:=nQ w2 (N0+28)
   have e12:=nQ w3 (N0+8)
   have e13:=nQ w3 (N0+28)
   refine Rt tok [] [0,10] (by intro K k;simp -dsimp -implicitDefEqProofs [e0,e1,e2,e3,e4,e5,e6,e7,e8,e9,e10,e11,e12,e13,gs_W0,gs_W3,gs_x3_,ws_x3_,wl_x3_];exact k) fun a ha=>?_
   replace H:=oi H
   refine hJ1 _ _ _ H.symm ?_;rw[ha]
   refine gP zI w0 r0_ 0 ?_ (hr:=by exact gs_W0 _)
   exact Rc.fin (zH (zH (zH (zH (AHeap.Sub.trans (AHeap.Sub.refl _) (zU rfl (by simp;try omega))))))) ⟨N0+41,(by omega),(by first|rfl|exact rfl|omega),(by first|rfl|exact rfl|omega),rfl,rfl⟩
  refine Wsk ?_
  show K1 _ _
  refine kE [0,10] fun a' ha=>?_
  replace H:=oi H
  refine hJ1 _ _ _ H.symm ?_;rw[ha]
  refine gP zI w0 r0_ 0 ?_ (hr:=by exact gs_W0 _)
  exact Rc.fin (zH (zH (zH (zH (AHeap.Sub.trans (AHeap.Sub.refl _) (zU rfl (by simp;try omega))))))) ⟨N0+38,(by omega),(by first|rfl|exact rfl|omega),(by first|rfl|exact rfl|omega),rfl,rfl⟩
 have e0:=nQ w0 w1
 have e1:=nQ w0 w2
 have e2:=nQ w0 w3
 have e3:=nQ w0 (N0+8)
 have e4:=nQ w1 w2
 have e5:=nQ w1 w3
 have e6:=nQ w1 (N0+8)
 have e7:=nQ w2 w3
 have e8:=nQ w2 (N0+8)
 have e9:=nQ w3 (N0+8)
 refine qB [0,2,3,9,10,26,100] (j e0 (j e1 (j e2 (j e3 (j e4 (j e5 (j e6 (j e7 (j e8 (j e9 (j gs_W0 (j gs_W3 (j gs_x3_ (j ws_x3_ wl_x3_)))))))))))))) ?_
 refine Ci H ?_ ?_<;>intro H
 .refine gU Wre w0 r0_ 0 ?_ (hr:=by exact gs_W0 _)
  obtain⟨v18,hv18,H⟩:=bE H
  obtain⟨v19,hv19,H⟩:=bE H
  obtain⟨r20,hr20,H⟩:=bE H
  obtain⟨l21,hl21,H⟩:=bE H
  refine gM tok tokM [] [2,3,7,9,10,11,12] [0,1,4,5,6,8,2,3,7,9,10,11,12,13] [0,10,115] (fun a J=>∃M2:Nat,N0+45<=M2/\a=[(0,.ptr w0 r0_ 0),(10,.int .i64 (iadd .i64 p0.Pc 1)),(115,.bool (bnot r20.1))]/\J=hp E0 [(w0,some ⟨42,2,W0.set r0_ [.sl (N0+30) 0 p0.Regs.length,.int .i64 p0.Pc]⟩),(w1,some ⟨36,5,eL rQuad p1⟩),(w2,some ⟨103,2,eL zM l21⟩),(w3,some ⟨t3_,s3_,W3.set r3_ (x3_.set i3_ (.osl 3 1 (eL rI p3)))⟩),(N0+8,some ⟨36,5,[[.int .i64 v1.Op,.int .i64 v1.Dst,.int .i64 v1.A,.int .i64 v1.B,.int .i64 v1.N]]⟩),(N0+30,some ⟨3,1,eL rI p0.Regs⟩)] M2) (by decide) (fun K hK=>?_) ?_
  .simp only[pickL,zO,zP]
   have e0:=nQ w0 w1
   have e1:=nQ w0 w2
   have e2:=nQ w0 w3
   have e3:=nQ w0 (N0+8)
   have e4:=nQ w0 (N0+30)
   have e5:=nQ w1 w2
   have e6:=nQ w1 w3
   have e7:=nQ w1 (N0+8)
   have e8:=nQ w1 (N0+30)
   have e9:=nQ w2 w3
   have e10:=nQ w2 (N0+8)
   have e11:=nQ w2 (N0+30)
   have e12:=nQ w3 (N0+8)
   have e13:=nQ w3 (N0+30)
   refine m1 (j e0 (j e1 (j e2 (j e3 (j e4 (j e5 (j e6 (j e7 (j e8 (j e9 (j e10 (j e11 (j e12 (j e13 (j gs_W0 (j gs_W3 (j gs_x3_ (j ws_x3_ (j wl_x3_ (j (ixo28 hv18) (j ((zC hv18).2.2) (j (ixo23 hv19) (j ((zC hv19).2.2) (j ((setx_iff.1 hl21).2.symm) @yL)))))))))))))))))))))))) ?_
   refine mc (j e0 (j e1 (j e2 (j e3 (j e4 (j e5 (j e6 (j e7 (j e8 (j e9 (j e10 (j e11 (j e12 (j e13 (j gs_W0 (j gs_W3 (j gs_x3_ (j ws_x3_ (j wl_x3_ (j (ixo28 hv18) (j ((zC hv18).2.2) (j (ixo23 hv19) (j ((zC hv19).2.2) (j ((setx_iff.1 hl21).2.symm) @yL)))))))))))))))))))))))) (c86 (r0_:=v1.N.toNat) (H:=hr20)) fun M2 fM2_0=>?_
   refine m1 (j e0 (j e1 (j e2 (j e3 (j e4 (j e5 (j e6 (j e7 (j e8 (j e9 (j e10 (j e11 (j e12 (j e13 (j gs_W0 (j gs_W3 (j gs_x3_ (j ws_x3_ (j wl_x3_ (j (ixo28 hv18) (j ((zC hv18).2.2) (j (ixo23 hv19) (j ((zC hv19).2.2) (j ((setx_iff.1 hl21).2.symm) (j @yL (j @hoS @hoN)))))))))))))))))))))))))) ?_
   exact hK _ _ ⟨M2,(by omega),rfl,rfl⟩
  rintro a J ⟨M2,fM2_0,rfl,rfl⟩
  try rw[<- zE hl21]
  refine Ci H ?_ ?_<;>intro H
  .have e0:=nQ w0 w1
   have e1:=nQ w0 w2
   have e2:=nQ w0 w3
   have e3:=nQ w0 (N0+8)
   have e4:=nQ w0 (N0+30)
   have e5:=nQ w1 w2
   have e6:=nQ w1 w3
   have e7:=nQ w1 (N0+8)
   have e8:=nQ w1 (N0+30)
   have e9:=nQ w2 w3
   have e10:=nQ w2 (N0+8)
   have e11:=nQ w2 (N0+30)
   have e12:=nQ w3 (N0+8)
   have e13:=nQ w3 (N0+30)
   refine qB [8] (j e0 (j e1 (j e2 (j e3 (j e4 (j e5 (j e6 (j e7 (j e8 (j e9 (j e10 (j e11 (j e12 (j e13 (j gs_W0 (j gs_W3 (j gs_x3_ (j ws_x3_ wl_x3_)))))))))))))))))) ?_
   obtain⟨z,hz,H⟩:=bE H
   obtain rfl:=oi H;dsimp only at Gj1;obtain rfl:=oi Gj1;have H:=hz
   obtain rfl:=oi H
   refine Kp [8] ?_
   refine gP Wre w0 r0_ 0 ?_ (hr:=by exact gs_W0 _)
   have z6:=nQ w0 w1
   have z7:=nQ w0 w2
   have z8:=nQ w0 w3
   have z9:=nQ w0 (N0+8)
   have z10:=nQ w1 w2
   have z11:=nQ w1 w3
   have z12:=nQ w1 (N0+8)
   have z13:=nQ w2 w3
   have z14:=nQ w2 (N0+8)
   have z15:=nQ w3 (N0+8)
   refine gDrop Wre [(w0,some ⟨42,2,W0.set r0_ [.osl 3 1 (eL rI p0.Regs),.int .i64 p0.Pc]⟩),(w1,some ⟨36,5,eL rQuad p1⟩),(w2,some ⟨103,2,eL zM l21⟩),(w3,some ⟨t3_,s3_,W3.set r3_ (x3_.set i3_ (.osl 3 1 (eL rI p3)))⟩)] (zH (zH (zH (zH (AHeap.Sub.trans (AHeap.Sub.refl _) (zU rfl (by simp;try omega))))))) ?_
   refine Wr ?_
   refine⟨[.int .i64 3],by simp[z6,z7,z8,z9,z10,z11,z12,z13,z14,z15,gs_W0,gs_W3,gs_x3_,ws_x3_,wl_x3_],M2+1,by omega,by first|rfl|exact rfl|omega,by first|rfl|exact(zE hl21)|omega,?_,?_⟩
   .simp[eN]
   first|rfl|simp
  refine Wsk ?_
  show K1 _ _
  refine kE [0,10] fun a' ha=>?_
  replace H:=oi H
  refine hJ1 _ _ _ H.symm ?_;rw[ha]
  refine gP zI w0 r0_ 0 ?_ (hr:=by exact gs_W0 _)
  exact Rc.fin (zH (zH (zH (zH (AHeap.Sub.trans (AHeap.Sub.refl _) (zU rfl (by simp;try omega))))))) ⟨M2,(by omega),(by first|rfl|exact rfl|omega),(by first|rfl|exact(zE hl21)|omega),rfl,rfl⟩
 have e0:=nQ w0 w1
 have e1:=nQ w0 w2
 have e2:=nQ w0 w3
 have e3:=nQ w0 (N0+8)
 have e4:=nQ w1 w2
 have e5:=nQ w1 w3
 have e6:=nQ w1 (N0+8)
 have e7:=nQ w2 w3
 have e8:=nQ w2 (N0+8)
 have e9:=nQ w3 (N0+8)
 refine qB [0,2,3,9,10,26,116] (j e0 (j e1 (j e2 (j e3 (j e4 (j e5 (j e6 (j e7 (j e8 (j e9 (j gs_W0 (j gs_W3 (j gs_x3_ (j ws_x3_ wl_x3_)))))))))))))) ?_
 refine Ci H ?_ ?_<;>intro H
 .obtain⟨v22,hv22,H⟩:=bE H
  obtain⟨r23,hr23,H⟩:=bE H
  obtain⟨l24,hl24,H⟩:=bE H
  refine Sm tok [] [0,9,10,11,12] (N0+42) (by
   intro K k
   have e0:=nQ w0 w1
   have e1:=nQ w0 w2
   have e2:=nQ w0 w3
   have e3:=nQ w0 (N0+8)
   have e4:=nQ w1 w2
   have e5:=nQ w1 w3
   have e6:=nQ w1 (N0+8)
   have e7:=nQ w2 w3
   have e8:=nQ w2 (N0+8)
   have e9:=nQ w3 (N0+8)
   refine m1 (j e0 (j e1 (j e2 (j e3 (j e4 (j e5 (j e6 (j e7 (j e8 (j e9 (j gs_W0 (j gs_W3 (j gs_x3_ (j ws_x3_ (j wl_x3_ (j (ixo28 hv22) (j ((zC hv22).2.2) (j ((setx_iff.1 hl24).2.symm) @yL)))))))))))))))))) ?_
   refine mc (j e0 (j e1 (j e2 (j e3 (j e4 (j e5 (j e6 (j e7 (j e8 (j e9 (j gs_W0 (j gs_W3 (j gs_x3_ (j ws_x3_ (j wl_x3_ (j (ixo28 hv22) (j ((zC hv22).2.2) (j ((setx_iff.1 hl24).2.symm) @yL)))))))))))))))))) (c87 (r0_:=v1.N.toNat) (H:=hr23)) fun M3 fM3_0=>?_
   refine m1 (j e0 (j e1 (j e2 (j e3 (j e4 (j e5 (j e6 (j e7 (j e8 (j e9 (j gs_W0 (j gs_W3 (j gs_x3_ (j ws_x3_ (j wl_x3_ (j (ixo28 hv22) (j ((zC hv22).2.2) (j ((setx_iff.1 hl24).2.symm) (j @yL (j @hoS @hoN)))))))))))))))))))) ?_
   exact k M3 (by omega)) fun M3 fM3_0=>?_
  try rw[<- zE hl24]
  refine Wsq [0,9,10,11] fun K2 hK2=>?_
  have e0:=nQ w0 w1
  have e1:=nQ w0 w2
  have e2:=nQ w0 w3
  have e3:=nQ w0 (N0+8)
  have e4:=nQ w1 w2
  have e5:=nQ w1 w3
  have e6:=nQ w1 (N0+8)
  have e7:=nQ w2 w3
  have e8:=nQ w2 (N0+8)
  have e9:=nQ w3 (N0+8)
  refine qB [0,9,10,11,127] (j e0 (j e1 (j e2 (j e3 (j e4 (j e5 (j e6 (j e7 (j e8 (j e9 (j gs_W0 (j gs_W3 (j gs_x3_ (j ws_x3_ wl_x3_)))))))))))))) ?_
  refine Ci H ?_ ?_<;>intro H
  .have e0:=nQ w0 w1
   have e1:=nQ w0 w2
   have e2:=nQ w0 w3
   have e3:=nQ w0 (N0+8)
   have e4:=nQ w1 w2
   have e5:=nQ w1 w3
   have e6:=nQ w1 (N0+8)
   have e7:=nQ w2 w3
   have e8:=nQ w2 (N0+8)
   have e9:=nQ w3 (N0+8)
   refine qB [8] (j e0 (j e1 (j e2 (j e3 (j e4 (j e5 (j e6 (j e7 (j e8 (j e9 (j gs_W0 (j gs_W3 (j gs_x3_ (j ws_x3_ wl_x3_)))))))))))))) ?_
   obtain⟨z,hz,H⟩:=bE H
   obtain rfl:=oi H;dsimp only at Gj1;obtain rfl:=oi Gj1;have H:=hz
   obtain rfl:=oi H
   refine Kp [8] ?_
   have z16:=nQ w0 w1
   have z17:=nQ w0 w2
   have z18:=nQ w0 w3
   have z19:=nQ w0 (N0+8)
   have z20:=nQ w1 w2
   have z21:=nQ w1 w3
   have z22:=nQ w1 (N0+8)
   have z23:=nQ w2 w3
   have z24:=nQ w2 (N0+8)
   have z25:=nQ w3 (N0+8)
   refine gDrop Wre [(w0,some ⟨42,2,W0.set r0_ [.osl 3 1 (eL rI p0.Regs),.int .i64 p0.Pc]⟩),(w1,some ⟨36,5,eL rQuad p1⟩),(w2,some ⟨103,2,eL zM l24⟩),(w3,some ⟨t3_,s3_,W3.set r3_ (x3_.set i3_ (.osl 3 1 (eL rI p3)))⟩)] (zH (zH (zH (zH (AHeap.Sub.trans (AHeap.Sub.refl _) (zU rfl (by simp;try omega))))))) ?_
   refine Wr ?_
   refine⟨[.int .i64 3],by simp[z16,z17,z18,z19,z20,z21,z22,z23,z24,z25,gs_W0,gs_W3,gs_x3_,ws_x3_,wl_x3_],M3+3,by omega,by first|rfl|exact rfl|omega,by first|rfl|exact(zE hl24)|omega,?_,?_⟩
   .simp[eN]
   first|rfl|simp
  refine Js hK2 ?_
  refine gU Wre w0 r0_ 0 ?_ (hr:=by exact gs_W0 _)
  obtain⟨v25,hv25,H⟩:=bE H
  obtain⟨l26,hl26,H⟩:=bE H
  refine nU tok tokM [] [3,5,7,8] [0,1,2,4,6,3,5,7,8] [0,10] (fun a J=>a=[(0,.ptr w0 r0_ 0),(10,.int .i64 (iadd .i64 p0.Pc 1))]/\J=hp E0 [(w0,some ⟨42,2,W0.set r0_ [.sl (M3+2) 0 p0.Regs.length,.int .i64 p0.Pc]⟩),(w1,some ⟨36,5,eL rQuad p1⟩),(w2,some ⟨103,2,eL zM l24⟩),(w3,some ⟨t3_,s3_,W3.set r3_ (x3_.set i3_ (.osl 3 1 (eL rI p3)))⟩),(N0+8,some ⟨36,5,[[.int .i64 v1.Op,.int .i64 v1.Dst,.int .i64 v1.A,.int .i64 v1.B,.int .i64 v1.N]]⟩),(M3+2,some ⟨3,1,eL rI l26⟩)] (M3+12)) (by decide) (fun K hK=>?_) ?_
  .simp only[pickL,zO,zP]
   have e0:=nQ w0 w1
   have e1:=nQ w0 w2
   have e2:=nQ w0 w3
   have e3:=nQ w0 (N0+8)
   have e4:=nQ w0 (M3+2)
   have e5:=nQ w1 w2
   have e6:=nQ w1 w3
   have e7:=nQ w1 (N0+8)
   have e8:=nQ w1 (M3+2)
   have e9:=nQ w2 w3
   have e10:=nQ w2 (N0+8)
   have e11:=nQ w2 (M3+2)
   have e12:=nQ w3 (N0+8)
   have e13:=nQ w3 (M3+2)
   have e14:=nQ (N0+8) (M3+2)
   have e15:=nQ (N0+6) M3
   refine m1 (j e0 (j e1 (j e2 (j e3 (j e4 (j e5 (j e6 (j e7 (j e8 (j e9 (j e10 (j e11 (j e12 (j e13 (j e14 (j e15 (j gs_W0 (j gs_W3 (j gs_x3_ (j ws_x3_ (j wl_x3_ (j (ixo23 hv25) (j ((zC hv25).2.2) ((setx_iff.1 hl26).2.symm)))))))))))))))))))))))) ?_
   exact hK _ _ ⟨rfl,rfl⟩
  rintro a J ⟨ha,rfl⟩
  (try rw[<- zE hl26] at ha);(try rw[<- zE hl26])
  replace H:=oi H
  refine hJ1 _ _ _ H.symm ?_;rw[ha]
  refine gP zI w0 r0_ 0 ?_ (hr:=by exact gs_W0 _)
  exact Rc.fin (zH (zH (zH (zH (AHeap.Sub.trans (AHeap.Sub.refl _) (zU rfl (by simp;try omega))))))) ⟨M3+12,(by omega),(by first|rfl|exact rfl|omega),(by first|rfl|exact(zE hl24)|omega),rfl,rfl⟩
 have e0:=nQ w0 w1
 have e1:=nQ w0 w2
 have e2:=nQ w0 w3
 have e3:=nQ w0 (N0+8)
 have e4:=nQ w1 w2
 have e5:=nQ w1 w3
 have e6:=nQ w1 (N0+8)
 have e7:=nQ w2 w3
 have e8:=nQ w2 (N0+8)
 have e9:=nQ w3 (N0+8)
 refine qB [0,3,9,10,26,136] (j e0 (j e1 (j e2 (j e3 (j e4 (j e5 (j e6 (j e7 (j e8 (j e9 (j gs_W0 (j gs_W3 (j gs_x3_ (j ws_x3_ wl_x3_)))))))))))))) ?_
 refine Ci H ?_ ?_<;>intro H
 .have e0:=nQ w0 w1
  have e1:=nQ w0 w2
  have e2:=nQ w0 w3
  have e3:=nQ w0 (N0+8)
  have e4:=nQ w1 w2
  have e5:=nQ w1 w3
  have e6:=nQ w1 (N0+8)
  have e7:=nQ w2 w3
  have e8:=nQ w2 (N0+8)
  have e9:=nQ w3 (N0+8)
  refine qB [] (j e0 (j e1 (j e2 (j e3 (j e4 (j e5 (j e6 (j e7 (j e8 (j e9 (j gs_W0 (j gs_W3 (j gs_x3_ (j ws_x3_ wl_x3_)))))))))))))) ?_
  have e0:=nQ w0 w1
  have e1:=nQ w0 w2
  have e2:=nQ w0 w3
  have e3:=nQ w0 (N0+8)
  have e4:=nQ w1 w2
  have e5:=nQ w1 w3
  have e6:=nQ w1 (N0+8)
  have e7:=nQ w2 w3
  have e8:=nQ w2 (N0+8)
  have e9:=nQ w3 (N0+8)
  refine qB [8] (j e0 (j e1 (j e2 (j e3 (j e4 (j e5 (j e6 (j e7 (j e8 (j e9 (j gs_W0 (j gs_W3 (j gs_x3_ (j ws_x3_ wl_x3_)))))))))))))) ?_
  obtain⟨z,hz,H⟩:=bE H
  cases oj H;dsimp only at Gj1;obtain rfl:=oi Gj1;have H:=hz
  cases oj H
  refine Kp [8] ?_
  have z26:=nQ w0 w1
  have z27:=nQ w0 w2
  have z28:=nQ w0 w3
  have z29:=nQ w0 (N0+8)
  have z30:=nQ w1 w2
  have z31:=nQ w1 w3
  have z32:=nQ w1 (N0+8)
  have z33:=nQ w2 w3
  have z34:=nQ w2 (N0+8)
  have z35:=nQ w3 (N0+8)
  refine gDrop Wre [(w0,some ⟨42,2,W0.set r0_ [.osl 3 1 (eL rI p0.Regs),.int .i64 (iadd .i64 p0.Pc 1)]⟩),(w1,some ⟨36,5,eL rQuad p1⟩),(w2,some ⟨103,2,eL zM p2⟩),(w3,some ⟨t3_,s3_,W3.set r3_ (x3_.set i3_ (.osl 3 1 (eL rI p3)))⟩)] (zH (zH (zH (zH (AHeap.Sub.trans (AHeap.Sub.refl _) (zU rfl (by simp;try omega))))))) ?_
  refine Wr ?_
  refine⟨[.int .i64 2],by simp[z26,z27,z28,z29,z30,z31,z32,z33,z34,z35,gs_W0,gs_W3,gs_x3_,ws_x3_,wl_x3_],N0+40,by omega,by first|rfl|exact rfl|omega,by first|rfl|exact rfl|omega,?_,?_⟩
  .simp[eN]
  first|rfl|simp
 have e0:=nQ w0 w1
 have e1:=nQ w0 w2
 have e2:=nQ w0 w3
 have e3:=nQ w0 (N0+8)
 have e4:=nQ w1 w2
 have e5:=nQ w1 w3
 have e6:=nQ w1 (N0+8)
 have e7:=nQ w2 w3
 have e8:=nQ w2 (N0+8)
 have e9:=nQ w3 (N0+8)
 refine qB [0,3,9,10,26,142] (j e0 (j e1 (j e2 (j e3 (j e4 (j e5 (j e6 (j e7 (j e8 (j e9 (j gs_W0 (j gs_W3 (j gs_x3_ (j ws_x3_ wl_x3_)))))))))))))) ?_
 refine Ci H ?_ ?_<;>intro H
 .refine gUnp Wre (ty:=3) (sz:=1) (es:=eL rI p3) (o:=w3) (ob:=⟨t3_,s3_,W3.set r3_ (x3_.set i3_ (.osl 3 1 (eL rI p3)))⟩) (row:=x3_.set i3_ (.osl 3 1 (eL rI p3))) (r:=r3_) (i:=i3_) [(w0,some ⟨42,2,W0.set r0_ [.osl 3 1 (eL rI p0.Regs),.int .i64 p0.Pc]⟩),(w1,some ⟨36,5,eL rQuad p1⟩),(w2,some ⟨103,2,eL zM p2⟩),(w3,some ⟨t3_,s3_,W3.set r3_ (x3_.set i3_ (.sl (N0+36) 0 p3.length))⟩),(N0+8,some ⟨36,5,[[.int .i64 v1.Op,.int .i64 v1.Dst,.int .i64 v1.A,.int .i64 v1.B,.int .i64 v1.N]]⟩),(N0+36,some ⟨3,1,eL rI p3⟩)] (by simp(disch:=omega)) (by simp(disch:=omega) [gs_W3]) (by simp(disch:=omega) [gs_x3_]) (by simp(disch:=omega)) ?_
  refine gU Wre w0 r0_ 0 ?_ (hr:=by exact gs_W0 _)
  obtain⟨v27,hv27,H⟩:=bE H
  obtain⟨l28,hl28,H⟩:=bE H
  have q0:∀J i,bsA T 23 true i 1 [(0,.int .i64 v27)] J=some (.fsl (eL rI ([v27]:List Int)),J):=fun _ _=>rfl
  refine dX tok tokM [12] [3,7,9,10,11,12,13,15] [0,1,2,4,5,6,8,3,7,9,10,11,12,13,14,15] [(12,[3])] [0,10] (fun a J=>a=[(0,.ptr w0 r0_ 0),(10,.int .i64 (iadd .i64 p0.Pc 1))]/\J=hp E0 [(w0,some ⟨42,2,W0.set r0_ [.sl (N0+37) 0 p0.Regs.length,.int .i64 p0.Pc]⟩),(w1,some ⟨36,5,eL rQuad p1⟩),(w2,some ⟨103,2,eL zM p2⟩),(w3,some ⟨t3_,s3_,W3.set r3_ (x3_.set i3_ (.sl (N0+51) 0 l28.length))⟩),(N0+8,some ⟨36,5,[[.int .i64 v1.Op,.int .i64 v1.Dst,.int .i64 v1.A,.int .i64 v1.B,.int .i64 v1.N]]⟩),(N0+37,some ⟨3,1,eL rI p0.Regs⟩),(N0+51,some ⟨3,1,eL rI l28⟩)] (N0+54)) (by decide) (fun K hK=>?_) ?_
  .simp only[pickL,zO,zP]
   have e0:=nQ w0 w1
   have e1:=nQ w0 w2
   have e2:=nQ w0 w3
   have e3:=nQ w0 (N0+8)
   have e4:=nQ w0 (N0+36)
   have e5:=nQ w0 (N0+37)
   have e6:=nQ w0 (N0+51)
   have e7:=nQ w1 w2
   have e8:=nQ w1 w3
   have e9:=nQ w1 (N0+8)
   have e10:=nQ w1 (N0+36)
   have e11:=nQ w1 (N0+37)
   have e12:=nQ w1 (N0+51)
   have e13:=nQ w2 w3
   have e14:=nQ w2 (N0+8)
   have e15:=nQ w2 (N0+36)
   have e16:=nQ w2 (N0+37)
   have e17:=nQ w2 (N0+51)
   have e18:=nQ w3 (N0+8)
   have e19:=nQ w3 (N0+36)
   have e20:=nQ w3 (N0+37)
   have e21:=nQ w3 (N0+51)
   refine m1 (j e0 (j e1 (j e2 (j e3 (j e4 (j e5 (j e6 (j e7 (j e8 (j e9 (j e10 (j e11 (j e12 (j e13 (j e14 (j e15 (j e16 (j e17 (j e18 (j e19 (j e20 (j e21 (j gs_W0 (j gs_W3 (j gs_x3_ (j ws_x3_ (j wl_x3_ (j (ixo23 hv27) (j ((zC hv27).2.2) (j q0 (app23 hl28))))))))))))))))))))))))))))))) ?_
   exact hK _ _ ⟨rfl,rfl⟩
  rintro a J ⟨ha,rfl⟩
  replace H:=oi H
  refine hJ1 _ _ _ H.symm ?_;rw[ha]
  refine gP zI w0 r0_ 0 ?_ (hr:=by exact gs_W0 _)
  refine gPk zI (k:=l28.length) (o:=w3) (ob:=⟨t3_,s3_,W3.set r3_ (x3_.set i3_ (.sl (N0+51) 0 l28.length))⟩) (row:=x3_.set i3_ (.sl (N0+51) 0 l28.length)) (d:=(N0+51)) (obd:=⟨3,1,eL rI l28⟩) (r:=r3_) (i:=i3_) [(w0,some ⟨42,2,W0.set r0_ [.osl 3 1 (eL rI p0.Regs),.int .i64 p0.Pc]⟩),(w1,some ⟨36,5,eL rQuad p1⟩),(w2,some ⟨103,2,eL zM p2⟩),(w3,some ⟨t3_,s3_,W3.set r3_ (x3_.set i3_ (.osl 3 1 (eL rI l28)))⟩),(N0+8,some ⟨36,5,[[.int .i64 v1.Op,.int .i64 v1.Dst,.int .i64 v1.A,.int .i64 v1.B,.int .i64 v1.N]]⟩)] (by simp(disch:=omega)) (by simp(disch:=omega) [gs_W3]) (by simp(disch:=omega) [gs_x3_]) (by simp(disch:=omega)) (by simp(disch:=omega)) (by first|omega|simp) (by simp(disch:=omega) [pF]<;>omega) (by simp(disch:=omega) [pF]) ?_
  exact Rc.fin (zH (zH (zH (zH (AHeap.Sub.trans (AHeap.Sub.refl _) (zU rfl (by simp;try omega))))))) ⟨N0+54,(by omega),(by first|rfl|exact rfl|omega),(by first|rfl|exact rfl|omega),rfl,rfl⟩
 have e0:=nQ w0 w1
 have e1:=nQ w0 w2
 have e2:=nQ w0 w3
 have e3:=nQ w0 (N0+8)
 have e4:=nQ w1 w2
 have e5:=nQ w1 w3
 have e6:=nQ w1 (N0+8)
 have e7:=nQ w2 w3
 have e8:=nQ w2 (N0+8)
 have e9:=nQ w3 (N0+8)
 refine qB [0,10,159] (j e0 (j e1 (j e2 (j e3 (j e4 (j e5 (j e6 (j e7 (j e8 (j e9 (j gs_W0 (j gs_W3 (j gs_x3_ (j ws_x3_ wl_x3_)))))))))))))) ?_
 refine Ci H ?_ ?_<;>intro H
 .have e0:=nQ w0 w1
  have e1:=nQ w0 w2
  have e2:=nQ w0 w3
  have e3:=nQ w0 (N0+8)
  have e4:=nQ w1 w2
  have e5:=nQ w1 w3
  have e6:=nQ w1 (N0+8)
  have e7:=nQ w2 w3
  have e8:=nQ w2 (N0+8)
  have e9:=nQ w3 (N0+8)
  refine qB [8] (j e0 (j e1 (j e2 (j e3 (j e4 (j e5 (j e6 (j e7 (j e8 (j e9 (j gs_W0 (j gs_W3 (j gs_x3_ (j ws_x3_ wl_x3_)))))))))))))) ?_
  obtain⟨z,hz,H⟩:=bE H
  cases oj H;dsimp only at Gj1;obtain rfl:=oi Gj1;have H:=hz
  cases oj H
  refine Kp [8] ?_
  have z36:=nQ w0 w1
  have z37:=nQ w0 w2
  have z38:=nQ w0 w3
  have z39:=nQ w0 (N0+8)
  have z40:=nQ w1 w2
  have z41:=nQ w1 w3
  have z42:=nQ w1 (N0+8)
  have z43:=nQ w2 w3
  have z44:=nQ w2 (N0+8)
  have z45:=nQ w3 (N0+8)
  refine gDrop Wre [(w0,some ⟨42,2,W0.set r0_ [.osl 3 1 (eL rI p0.Regs),.int .i64 p0.Pc]⟩),(w1,some ⟨36,5,eL rQuad p1⟩),(w2,some ⟨103,2,eL zM p2⟩),(w3,some ⟨t3_,s3_,W3.set r3_ (x3_.set i3_ (.osl 3 1 (eL rI p3)))⟩)] (zH (zH (zH (zH (AHeap.Sub.trans (AHeap.Sub.refl _) (zU rfl (by simp;try omega))))))) ?_
  refine Wr ?_
  refine⟨[.int .i64 4],by simp[z36,z37,z38,z39,z40,z41,z42,z43,z44,z45,gs_W0,gs_W3,gs_x3_,ws_x3_,wl_x3_],N0+39,by omega,by first|rfl|exact rfl|omega,by first|rfl|exact rfl|omega,?_,?_⟩
  .simp[eN]
  first|rfl|simp
 refine Wsk ?_
 show K1 _ _
 refine kE [0,10] fun a' ha=>?_
 replace H:=oi H
 refine hJ1 _ _ _ H.symm ?_;rw[ha]
 exact Rc.fin (zH (zH (zH (zH (AHeap.Sub.trans (AHeap.Sub.refl _) (zU rfl (by simp;try omega))))))) ⟨N0+38,(by omega),(by first|rfl|exact rfl|omega),(by first|rfl|exact rfl|omega),rfl,rfl⟩

theorem c57_mooooooo {p0:Int}{pf0:gCrew}{r:Int×gCrew}(H:yC p0 pf0=some r){J:AHeap}{wf0:Nat}{Wf0:List (List AV)}{rf0_:Nat}(qf0:J.objs wf0=some ⟨30,6,Wf0⟩)(gf0:Wf0[rf0_]? =some [.osl 34 1 (eL zK pf0.Codes),.osl 42 2 (eL zB pf0.Threads),.osl 103 2 (eL zM pf0.Boxes),.int .i64 pf0.Turn,.int .i64 pf0.Idle,.osl 3 1 (eL rI pf0.Out)]):ACalls Tryz.prog G 57 [.int .i64 p0,.ptr wf0 rf0_ 0] J (fun v J'=>∃M:Nat,J.next<=M/\v=.int .i64 r.1/\J'=hp J.objs [(wf0,some ⟨30,6,Wf0.set rf0_ [.osl 34 1 (eL zK r.2.Codes),.osl 42 2 (eL zB r.2.Threads),.osl 103 2 (eL zM r.2.Boxes),.int .i64 r.2.Turn,.int .i64 r.2.Idle,.osl 3 1 (eL rI r.2.Out)]⟩)] M):=by
 refine fr1 ([(wf0,some ⟨30,6,Wf0⟩)]) (by simp[qf0]) (fun hlt=>?_) ⟨_,func57,rfl,rfl⟩
 generalize J.next=N0 at hlt ⊢
 have lwf0:wf0<N0:=hlt _ (.head _) rfl
 have gs_Wf0:∀x,(Wf0.set rf0_ x)[rf0_]? =some x:=gsetW gf0
 rw[<- kD gf0]
 refine fnK tok func57 ntmps57 results57 ?_
 simp only[argsA,Nat.reduceAdd,hpN]
 unfold yC at H
 refine qB [0,1] gs_Wf0 ?_
 refine gU Wre wf0 rf0_ 1 ?_ (hr:=by exact gs_Wf0 _)
 refine gU Wre wf0 rf0_ 0 ?_ (hr:=by exact gs_Wf0 _)
 obtain⟨v3,hv3,H⟩:=bE H
 refine gU Wre (N0+2) p0.toNat 0 ?_ (hr:=by exact vQ zK hv3)
 refine gU Wre wf0 rf0_ 2 ?_ (hr:=by exact gs_Wf0 _)
 obtain⟨v5,hv5,H⟩:=bE H
 obtain⟨r6,hr6,H⟩:=bE H
 obtain⟨l7,hl7,H⟩:=bE H
 refine gM tok tokM [] [1,3,5,7,8,10,12] [0,2,4,6,9,11,1,3,5,7,8,10,12,13] [3] (fun a J=>∃M1:Nat,N0+19<=M1/\r6.2.2.1.length=v3.length/\r6.2.2.2.1.length=pf0.Boxes.length/\a=[(3,.int .i64 r6.1)]/\J=hp E0 [(wf0,some ⟨30,6,Wf0.set rf0_ [.sl (N0+2) 0 pf0.Codes.length,.sl (N0+1) 0 pf0.Threads.length,.sl (N0+4) 0 pf0.Boxes.length,.int .i64 pf0.Turn,.int .i64 pf0.Idle,.osl 3 1 (eL rI r6.2.2.2.2)]⟩),(N0+1,some ⟨42,2,eL zB l7⟩),(N0+2,some ⟨34,1,(eL zK pf0.Codes).set p0.toNat [.sl (N0+3) 0 v3.length]⟩),(N0+3,some ⟨36,5,eL rQuad r6.2.2.1⟩),(N0+4,some ⟨103,2,eL zM r6.2.2.2.1⟩)] M1) (by decide) (fun K hK=>?_) ?_
 .simp only[pickL,zO,zP]
  have e0:=nQ wf0 (N0+1)
  have e1:=nQ wf0 (N0+2)
  have e2:=nQ wf0 (N0+3)
  have e3:=nQ wf0 (N0+4)
  refine m1 (j e0 (j e1 (j e2 (j e3 (j gs_Wf0 (j (gSt hv3) (j (ixo27 hv5) (j ((zC hv5).2.2) (j (ixo24 hv3) (j ((zC hv3).2.2) (j ((setx_iff.1 hl7).2.symm) @zW))))))))))) ?_
  refine(c58_mo (W0:=eL zB pf0.Threads) (r0_:=p0.toNat) (W3:=Wf0.set rf0_ [.sl (N0+2) 0 pf0.Codes.length,.sl (N0+1) 0 pf0.Threads.length,.sl (N0+4) 0 pf0.Boxes.length,.int .i64 pf0.Turn,.int .i64 pf0.Idle,.osl 3 1 (eL rI pf0.Out)]) (r3_:=rf0_) (x3_:=[.sl (N0+2) 0 pf0.Codes.length,.sl (N0+1) 0 pf0.Threads.length,.sl (N0+4) 0 pf0.Boxes.length,.int .i64 pf0.Turn,.int .i64 pf0.Idle,.osl 3 1 (eL rI pf0.Out)]) (i3_:=5) (t3_:=30) (s3_:=6) (H:=hr6) (by simp[e0,e1,e2,e3,gs_Wf0,(gset hv3 _),ixo27 hv5,(zC hv5).2.2,ixo24 hv3,(zC hv3).2.2,(setx_iff.1 hl7).2.symm,zW]) (by simp[e0,e1,e2,e3,gs_Wf0,(gset hv3 _),ixo27 hv5,(zC hv5).2.2,ixo24 hv3,(zC hv3).2.2,(setx_iff.1 hl7).2.symm,zW]) (by simp[e0,e1,e2,e3,gs_Wf0,(gset hv3 _),ixo27 hv5,(zC hv5).2.2,ixo24 hv3,(zC hv3).2.2,(setx_iff.1 hl7).2.symm,zW]) (by simp[e0,e1,e2,e3,gs_Wf0,(gset hv3 _),ixo27 hv5,(zC hv5).2.2,ixo24 hv3,(zC hv3).2.2,(setx_iff.1 hl7).2.symm,zW]) (by simp[e0,e1,e2,e3,gs_Wf0,(gset hv3 _),ixo27 hv5,(zC hv5).2.2,ixo24 hv3,(zC hv3).2.2,(setx_iff.1 hl7).2.symm,zW]) (by simp[e0,e1,e2,e3,gs_Wf0,(gset hv3 _),ixo27 hv5,(zC hv5).2.2,ixo24 hv3,(zC hv3).2.2,(setx_iff.1 hl7).2.symm,zW]) (by simp[e0,e1,e2,e3,gs_Wf0,(gset hv3 _),ixo27 hv5,(zC hv5).2.2,ixo24 hv3,(zC hv3).2.2,(setx_iff.1 hl7).2.symm,zW]) (by simp[e0,e1,e2,e3,gs_Wf0,(gset hv3 _),ixo27 hv5,(zC hv5).2.2,ixo24 hv3,(zC hv3).2.2,(setx_iff.1 hl7).2.symm,zW]) (by simp[e0,e1,e2,e3,gs_Wf0,(gset hv3 _),ixo27 hv5,(zC hv5).2.2,ixo24 hv3,(zC hv3).2.2,(setx_iff.1 hl7).2.symm,zW]) (by simp[e0,e1,e2,e3,gs_Wf0,(gset hv3 _),ixo27 hv5,(zC hv5).2.2,ixo24 hv3,(zC hv3).2.2,(setx_iff.1 hl7).2.symm,zW]) (by simp[e0,e1,e2,e3,gs_Wf0,(gset hv3 _),ixo27 hv5,(zC hv5).2.2,ixo24 hv3,(zC hv3).2.2,(setx_iff.1 hl7).2.symm,zW]) (by simp[e0,e1,e2,e3,gs_Wf0,(gset hv3 _),ixo27 hv5,(zC hv5).2.2,ixo24 hv3,(zC hv3).2.2,(setx_iff.1 hl7).2.symm,zW]) (by simp[e0,e1,e2,e3,gs_Wf0,(gset hv3 _),ixo27 hv5,(zC hv5).2.2,ixo24 hv3,(zC hv3).2.2,(setx_iff.1 hl7).2.symm,zW])).mono ?_;rintro _ _ ⟨M1,fM1_0,fM1_1,fM1_2,rfl,rfl⟩;simp only[hpN] at fM1_0
  refine m1 (j e0 (j e1 (j e2 (j e3 (j gs_Wf0 (j (gSt hv3) (j (ixo27 hv5) (j ((zC hv5).2.2) (j (ixo24 hv3) (j ((zC hv3).2.2) (j ((setx_iff.1 hl7).2.symm) (j @zW (j @hoS @hoN))))))))))))) ?_
  exact hK _ _ ⟨M1,(by omega),fM1_1,fM1_2,rfl,rfl⟩
 rintro a J ⟨M1,fM1_0,fM1_1,fM1_2,rfl,rfl⟩
 try rw[<- zE hl7]
 try rw[<- fM1_1]
 try rw[<- fM1_2]
 obtain⟨l8,hl8,H⟩:=bE H
 obtain rfl:=oi H
 refine Kp [3] ?_
 refine gP Wre wf0 rf0_ 1 ?_ (hr:=by exact gs_Wf0 _)
 refine gP Wre wf0 rf0_ 2 ?_ (hr:=by exact gs_Wf0 _)
 refine gP Wre (N0+2) p0.toNat 0 ?_ (hr:=by exact gset hv3 _)
 rw[show hp E0 [(wf0,some ⟨30,6,Wf0.set rf0_ [.sl (N0+2) 0 pf0.Codes.length,.osl 42 2 (eL zB l7),.osl 103 2 (eL zM r6.2.2.2.1),.int .i64 pf0.Turn,.int .i64 pf0.Idle,.osl 3 1 (eL rI r6.2.2.2.2)]⟩),(N0+2,some ⟨34,1,(eL zK pf0.Codes).set p0.toNat [.osl 36 5 (eL rQuad r6.2.2.1)]⟩)] M1=hp E0 [(wf0,some ⟨30,6,Wf0.set rf0_ [.sl (N0+2) 0 l8.length,.osl 42 2 (eL zB l7),.osl 103 2 (eL zM r6.2.2.2.1),.int .i64 pf0.Turn,.int .i64 pf0.Idle,.osl 3 1 (eL rI r6.2.2.2.2)]⟩),(N0+2,some ⟨34,1,eL zK l8⟩)] M1 from by(try rw[zE hl8]);rw[(setx_iff.1 hl8).2,<- kN];rfl];(try rw[<- zE hl8])
 refine gP Wre wf0 rf0_ 0 ?_ (hr:=by exact gs_Wf0 _)
 exact V1 gs_Wf0 M1

theorem c56_i_CrewRun_1_c4_0_1_mooooooo {p0:Int}{p1:Int}{p2:Int}{p3:Int}{p4_0:gCrew}{r:Int×Int×Bool×gCrew}(H:kF p0 p1 p2 p3 p4_0=some r){J:AHeap}{w4_0:Nat}{W4_0:List (List AV)}{r4_0_:Nat}{w4_0c1:Nat}(q4_0:J.objs w4_0=some ⟨30,6,W4_0⟩)(g4_0:W4_0[r4_0_]? =some [.osl 34 1 (eL zK p4_0.Codes),.sl w4_0c1 0 p4_0.Threads.length,.osl 103 2 (eL zM p4_0.Boxes),.int .i64 p4_0.Turn,.int .i64 p4_0.Idle,.osl 3 1 (eL rI p4_0.Out)])(q4_0c1:J.objs w4_0c1=some ⟨42,2,eL zB p4_0.Threads⟩)(d0_1:¬w4_0=w4_0c1):ACalls Tryz.prog G 56 [.int .i64 p0,.int .i64 p1,.int .i64 p2,.int .i64 p3,.clo 57 [] [.ptr w4_0 r4_0_ 0]] J (fun v J'=>∃M:Nat,J.next<=M/\v=.tup [.int .i64 r.1,.int .i64 r.2.1,.bool r.2.2.1]/\J'=hp J.objs [(w4_0,some ⟨30,6,W4_0.set r4_0_ [.osl 34 1 (eL zK r.2.2.2.Codes),.osl 42 2 (eL zB r.2.2.2.Threads),.osl 103 2 (eL zM r.2.2.2.Boxes),.int .i64 r.2.2.2.Turn,.int .i64 r.2.2.2.Idle,.osl 3 1 (eL rI r.2.2.2.Out)]⟩),(w4_0c1,none)] M):=by
 refine fr1 ([(w4_0,some ⟨30,6,W4_0⟩),(w4_0c1,some ⟨42,2,eL zB p4_0.Threads⟩)]) (by simp[q4_0,q4_0c1]) (fun hlt=>?_) ⟨_,func56,rfl,rfl⟩
 generalize J.next=N0 at hlt ⊢
 have lw4_0:w4_0<N0:=hlt _ (.head _) rfl
 have lw4_0c1:w4_0c1<N0:=hlt _ (.tail _ (.head _)) rfl
 have gs_W4_0:∀x,(W4_0.set r4_0_ x)[r4_0_]? =some x:=gsetW g4_0
 rw[<- kD g4_0]
 refine fnK tok func56 ntmps56 results56 ?_
 simp only[argsA,Nat.reduceAdd,hpN]
 unfold kF at H
 have e0:=nQ w4_0 w4_0c1
 refine qC [0,1,2,3,4] e0 gs_W4_0 ?_
 refine Wsq [2,3] fun K1 hK1=>?_
 refine Wb ?_
 obtain⟨e1,hse1,H⟩:=bE H
 refine zX [0,1,2,3,4] (fun s a J=>∃M1:Nat,N0<=M1/\a=[(0,.int .i64 s.1),(1,.int .i64 p1),(2,.int .i64 s.2.1),(3,.int .i64 s.2.2.1),(4,.clo 57 [] [.ptr w4_0 r4_0_ 0])]/\J=hp E0 [(w4_0,some ⟨30,6,W4_0.set r4_0_ [.osl 34 1 (eL zK s.2.2.2.Codes),.osl 42 2 (eL zB s.2.2.2.Threads),.osl 103 2 (eL zM s.2.2.2.Boxes),.int .i64 s.2.2.2.Turn,.int .i64 s.2.2.2.Idle,.osl 3 1 (eL rI s.2.2.2.Out)]⟩)] M1) (fun e x a J=>match e with|.inl s=>x=.exit 0/\Rc G 42 N0 (fun a J=>∃M2:Nat,N0<=M2/\a=[(2,.int .i64 s.1),(3,.int .i64 s.2.1)]/\J=hp E0 [(w4_0,some ⟨30,6,W4_0.set r4_0_ [.osl 34 1 (eL zK s.2.2.Codes),.osl 42 2 (eL zB s.2.2.Threads),.osl 103 2 (eL zM s.2.2.Boxes),.int .i64 s.2.2.Turn,.int .i64 s.2.2.Idle,.osl 3 1 (eL rI s.2.2.Out)]⟩)] M2) (AAct.keep a [2,3]) J|.inr s=>x=.ret/\∃vs,resA T J a [.tmp 10,.tmp 11,.tmp 12]=some vs/\∃M:Nat,N0<=M/\(tupA vs)=.tup [.int .i64 s.1,.int .i64 s.2.1,.bool s.2.2.1]/\J=hp E0 [(w4_0,some ⟨30,6,W4_0.set r4_0_ [.osl 34 1 (eL zK s.2.2.2.Codes),.osl 42 2 (eL zB s.2.2.2.Threads),.osl 103 2 (eL zM s.2.2.2.Boxes),.int .i64 s.2.2.2.Turn,.int .i64 s.2.2.2.Idle,.osl 3 1 (eL rI s.2.2.2.Out)]⟩),(w4_0c1,none)] M) hse1 ?_ ?_ ?_
 .refine kp [0,1,2,3,4] ?_
  refine gP zI w4_0 r4_0_ 1 ?_ (hr:=by exact gs_W4_0 _)
  exact R1 (N0+3)
 .clear H hse1
  rintro⟨s1,s2,s3,s4⟩ fl a J H ⟨M1,fM1_0,rfl,rfl⟩ K2 O2 hK2 hO2
  unfold zV at H;dsimp only at H
  refine Wsq [0,1,2,3,4] fun K3 hK3=>?_
  obtain⟨g8,hg8,H⟩:=bE H
  refine qF tok [0,1,2,3,4,22] ([(0,.int .i64 s1),(1,.int .i64 p1),(2,.int .i64 s2),(3,.int .i64 s3),(4,.clo 57 [] [.ptr w4_0 r4_0_ 0]),(22,.bool g8)]) (hp E0 [(w4_0,some ⟨30,6,W4_0.set r4_0_ [.osl 34 1 (eL zK s4.Codes),.osl 42 2 (eL zB s4.Threads),.osl 103 2 (eL zM s4.Boxes),.int .i64 s4.Turn,.int .i64 s4.Idle,.osl 3 1 (eL rI s4.Out)]⟩)] (M1+7)) (by
   intro K k
   refine m1 gs_W4_0 ?_
   cases hbg8:igt s1 0
   .cases oj (ifF hbg8 hg8)
    exact m2 gs_W4_0 hbg8 k
   cases oj (ifT hbg8 hg8)
   refine m2 gs_W4_0 hbg8 ?_
   exact k) ?_
  refine Ci H ?_ ?_<;>intro H
  .refine Js hK3 ?_
   refine Wsq [0,1,2,3,4] fun K4 hK4=>?_
   refine Wb ?_
   obtain⟨r9,hr9,H⟩:=bE H
   obtain⟨r10,hr10,H⟩:=bE H
   refine Sm tok [] [0,1,4,13,14,15] (M1+21) (by
    intro K k
    refine m1 gs_W4_0 ?_
    refine(c57_mooooooo (Wf0:=W4_0.set r4_0_ [.osl 34 1 (eL zK s4.Codes),.osl 42 2 (eL zB s4.Threads),.osl 103 2 (eL zM s4.Boxes),.int .i64 s4.Turn,.int .i64 s4.Idle,.osl 3 1 (eL rI s4.Out)]) (rf0_:=r4_0_) (H:=hr9) (by simp[gs_W4_0]) (by simp[gs_W4_0])).mono ?_;rintro _ _ ⟨M3,fM3_0,rfl,rfl⟩;simp only[hpN] at fM3_0
    refine m1 (j gs_W4_0 (j @hoS @hoN)) ?_
    refine(c36 hr10).app (m1 (j gs_W4_0 (j @hoS @hoN)) ?_)
    exact k M3 (by omega)) fun M3 fM3_0=>?_
   refine Wsq [0,1,4,13,14] fun K5 hK5=>?_
   refine qB [0,1,4,13,14,37] gs_W4_0 ?_
   refine Ci H ?_ ?_<;>intro H
   .refine qB [10,11,12] gs_W4_0 ?_
    obtain rfl:=oi H
    refine Kp [10,11,12] ?_
    refine Wr (hO2 _ _ _ _ rfl ⟨rfl,?_⟩)
    refine⟨[.int .i64 0,.int .i64 0,.bool false],by simp[gs_W4_0],M3+5,by omega,?_,?_⟩
    .simp[eN]
    symm;first|exact gG (L:=[(w4_0,some ⟨30,6,W4_0.set r4_0_ [.osl 34 1 (eL zK r9.2.Codes),.osl 42 2 (eL zB r9.2.Threads),.osl 103 2 (eL zM r9.2.Boxes),.int .i64 r9.2.Turn,.int .i64 r9.2.Idle,.osl 3 1 (eL rI r9.2.Out)]⟩)])|(simp only[List.set_set];exact gG (L:=[(w4_0,some ⟨30,6,W4_0.set r4_0_ [.osl 34 1 (eL zK r9.2.Codes),.osl 42 2 (eL zB r9.2.Threads),.osl 103 2 (eL zM r9.2.Boxes),.int .i64 r9.2.Turn,.int .i64 r9.2.Idle,.osl 3 1 (eL rI r9.2.Out)]⟩)]))
   refine Js hK5 ?_
   refine qH gs_W4_0 hK4 ?_
   obtain rfl:=oi H
   refine qJ gs_W4_0 hK2 ?_
   exact R1 (M3+9)
  cases oj H
  refine zL (hO2 _ _ _ _ rfl ⟨rfl,?_⟩)
  refine kr ?_
  exact R1 (M1+7)
 intro x a J hx
 rcases e1 with⟨y5,y6,y7⟩|r0
 .obtain⟨rfl,b,U,hr,M2,fM2_0,rfl,rfl⟩:=hx
  (try dsimp only at H)
  show K1 _ _
  refine hK1 _ _ (zI hr ?_)
  refine Rc.mk ?_
  refine qB [10,11,12] gs_W4_0 ?_
  obtain rfl:=oi H
  refine Kp [10,11,12] ?_
  refine Wr ?_
  refine⟨[.int .i64 y5,.int .i64 y6,.bool true],by simp[gs_W4_0],M2+5,by omega,?_,?_⟩
  .simp[eN]
  symm;first|exact gG (L:=[(w4_0,some ⟨30,6,W4_0.set r4_0_ [.osl 34 1 (eL zK y7.Codes),.osl 42 2 (eL zB y7.Threads),.osl 103 2 (eL zM y7.Boxes),.int .i64 y7.Turn,.int .i64 y7.Idle,.osl 3 1 (eL rI y7.Out)]⟩)])|(simp only[List.set_set];exact gG (L:=[(w4_0,some ⟨30,6,W4_0.set r4_0_ [.osl 34 1 (eL zK y7.Codes),.osl 42 2 (eL zB y7.Threads),.osl 103 2 (eL zM y7.Boxes),.int .i64 y7.Turn,.int .i64 y7.Idle,.osl 3 1 (eL rI y7.Out)]⟩)]))
 obtain⟨rfl,hx2⟩:=hx
 (try dsimp only at H)
 cases oj H;first|exact hx2|(simp only[List.set_set] at hx2 ⊢;exact hx2)

theorem c20_o9 {p0:gCrew}{p1:Int}{r:gCrew×Bool}(H:jU p0 p1=some r){J:AHeap}:ACalls Tryz.prog G 20 [.agg [.fsl (eL zA p0.Codes),.fsl (eL zJ p0.Threads),.fsl (eL rBox p0.Boxes),.int .i64 p0.Turn,.int .i64 p0.Idle,.fsl (eL rI p0.Out)],.int .i64 p1] J (fun v J'=>∃M n0 n1 n2 n3:Nat,J.next<=M/\J.next<=n0/\n0<M/\J.next<=n1/\n1<M/\J.next<=n2/\n2<M/\J.next<=n3/\n3<M/\¬n0=n1/\¬n0=n2/\¬n0=n3/\¬n1=n2/\¬n1=n3/\¬n2=n3/\v=.tup [.agg [.sl n0 0 r.1.Codes.length,.sl n1 0 r.1.Threads.length,.sl n2 0 r.1.Boxes.length,.int .i64 r.1.Turn,.int .i64 r.1.Idle,.sl n3 0 r.1.Out.length],.bool r.2]/\J'=hp J.objs [(n0,some ⟨34,1,eL zK r.1.Codes⟩),(n1,some ⟨42,2,eL zB r.1.Threads⟩),(n2,some ⟨103,2,eL zM r.1.Boxes⟩),(n3,some ⟨3,1,eL rI r.1.Out⟩)] M):=by
 refine jV (L:=[]) (Q1:=fun v J'=>∃M n0 n1 n2 n3:Nat,J.next<=M/\J.next<=n0/\n0<M/\J.next<=n1/\n1<M/\J.next<=n2/\n2<M/\J.next<=n3/\n3<M/\¬n0=n1/\¬n0=n2/\¬n0=n3/\¬n1=n2/\¬n1=n3/\¬n2=n3/\v=.tup [.agg [.sl n0 0 r.1.Codes.length,.sl n1 0 r.1.Threads.length,.sl n2 0 r.1.Boxes.length,.int .i64 r.1.Turn,.int .i64 r.1.Idle,.sl n3 0 r.1.Out.length],.bool r.2]/\J'=hp E0 [(n0,some ⟨34,1,eL zK r.1.Codes⟩),(n1,some ⟨42,2,eL zB r.1.Threads⟩),(n2,some ⟨103,2,eL zM r.1.Boxes⟩),(n3,some ⟨3,1,eL rI r.1.Out⟩)] M) (by simp) (fun hlt=>?_) ?_ ⟨_,func20,rfl,rfl⟩
 rotate_left
 .rintro v J1 ⟨M,n0,n1,n2,n3,h0,h1,h2,h3,h4,h5,h6,h7,h8,h9,h10,h11,h12,h13,h14,rfl,rfl⟩
  exact⟨_,M,rfl,by simp,by simp;try omega,M,n0,n1,n2,n3,h0,h1,h2,h3,h4,h5,h6,h7,h8,h9,h10,h11,h12,h13,h14,rfl,rfl⟩
 generalize J.next=N0 at hlt ⊢
 refine jE 4 ?_
 refine fnK tok func20 ntmps20 results20 ?_
 simp only[argsA,Nat.reduceAdd,hpN]
 unfold jU at H
 refine S0 tok [0] [1,2,4] ?_
 refine Wsq [1,2,4] fun K1 hK1=>?_
 refine gP0 Wre (N0+1) 0 0 34 1 (eL zK ([]:List (List gQuad))) ?_
 refine gP0 Wre (N0+1) 0 1 42 2 (eL zB ([]:List gThread)) ?_
 refine gP0 Wre (N0+1) 0 2 103 2 (eL zM ([]:List gBox)) ?_
 refine gP0 Wre (N0+1) 0 5 3 1 (eL rI ([]:List Int)) ?_
 obtain⟨r1,hr1,H⟩:=bE H
 obtain⟨g2,hg2,H⟩:=bE H
 obtain⟨g3,hg3,H⟩:=bE H
 refine qF tok [1,2,4,19] ([(1,.int .i64 p1),(2,.fptr [.fsl (eL zA p0.Codes),.fsl (eL zJ p0.Threads),.fsl (eL rBox p0.Boxes),.int .i64 p0.Turn,.int .i64 p0.Idle,.fsl (eL rI p0.Out)] 0),(4,.ptr (N0+1) 0 0),(19,.bool g3)]) (hp E0 [(N0+1,some ⟨30,6,[[.osl 34 1 (eL zK ([]:List (List gQuad))),.osl 42 2 (eL zB ([]:List gThread)),.osl 103 2 (eL zM ([]:List gBox)),.int .i64 0,.int .i64 0,.osl 3 1 (eL rI ([]:List Int))]]⟩)] (N0+14)) (by
  intro K k
  refine m0 ?_
  refine(c32 hr1).app (m0 ?_)
  cases hbg2:bnot r1
  .cases oj (ifF hbg2 hg2)
   refine m1 hbg2 ?_
   cases hbg3:(ilt p1 0)
   .cases oj (ifF hbg3 hg3)
    exact m2 hbg2 hbg3 k
   cases oj (ifT hbg3 hg3)
   exact m2 hbg2 hbg3 k
  cases oj (ifT hbg2 hg2)
  cases oj (ifT rfl hg3)
  refine m1 hbg2 ?_
  exact k) ?_
 refine Ci H ?_ ?_<;>intro H
 .refine S0 tok [0] [4,5] ?_
  cases oj H
  refine Kp [4,5] ?_
  refine gP0 Wre (N0+1) 0 0 34 1 (eL zK ([]:List (List gQuad))) ?_
  refine gP0 Wre (N0+1) 0 1 42 2 (eL zB ([]:List gThread)) ?_
  refine gP0 Wre (N0+1) 0 2 103 2 (eL zM ([]:List gBox)) ?_
  refine gP0 Wre (N0+1) 0 5 3 1 (eL rI ([]:List Int)) ?_
  refine gU Wre (N0+1) 0 0 ?_
  refine gU Wre (N0+1) 0 1 ?_
  refine gU Wre (N0+1) 0 2 ?_
  refine gU Wre (N0+1) 0 5 ?_
  refine Wr ?_
  refine⟨[.agg [.sl (N0+17) 0 ([]:List (List gQuad)).length,.sl (N0+18) 0 ([]:List gThread).length,.sl (N0+19) 0 ([]:List gBox).length,.int .i64 0,.int .i64 0,.sl (N0+20) 0 ([]:List Int).length],.bool false],by simp,(fun o=>[N0+1].contains o),N0+21,N0+17,N0+18,N0+19,N0+20,by omega,by omega,by omega,by omega,by omega,by omega,by omega,by omega,by omega,by omega,by omega,by omega,by omega,by omega,by omega,?_,?_⟩
  .simp[eN]
  rw[cutD (L':=[(N0+17,some ⟨34,1,eL zK ([]:List (List gQuad))⟩),(N0+18,some ⟨42,2,eL zB ([]:List gThread)⟩),(N0+19,some ⟨103,2,eL zM ([]:List gBox)⟩),(N0+20,some ⟨3,1,eL rI ([]:List Int)⟩)]) (by simp)]
  first|done|rfl|simp
 refine Js hK1 ?_
 obtain⟨r4,hr4,H⟩:=bE H
 obtain⟨r5,hr5,H⟩:=bE H
 obtain⟨r6,hr6,H⟩:=bE H
 refine AWP_syC tok tokM [9] [2,5,8,10,11] [0,1,3,4,6,7,2,5,8,9,10,11] [] [1,2,4,6] (fun a J=>∃M1 o1:Nat,∃M2 o2:Nat,∃M3 o3:Nat,N0+26<=M1/\N0+26<=o1/\o1<M1/\M1<=M2/\M1<=o2/\o2<M2/\M2<=M3/\M2<=o3/\o3<M3/\a=[(1,.int .i64 p1),(2,.fptr [.fsl (eL zA p0.Codes),.fsl (eL zJ p0.Threads),.fsl (eL rBox p0.Boxes),.int .i64 p0.Turn,.int .i64 p0.Idle,.fsl (eL rI p0.Out)] 0),(4,.ptr (N0+1) 0 0),(6,.ptr (N0+24) 0 0)]/\J=hp E0 [(N0+1,some ⟨30,6,[[.osl 34 1 (eL zK ([]:List (List gQuad))),.osl 42 2 (eL zB ([]:List gThread)),.osl 103 2 (eL zM ([]:List gBox)),.int .i64 0,.int .i64 0,.osl 3 1 (eL rI ([]:List Int))]]⟩),(o1,some ⟨34,1,eL zK r4⟩),(o2,some ⟨103,2,eL zM r5⟩),(o3,some ⟨3,1,eL rI r6⟩),(N0+24,some ⟨30,6,[[.sl o1 0 r4.length,.nilsl,.sl o2 0 r5.length,.int .i64 0,.int .i64 0,.sl o3 0 r6.length]]⟩)] M3) (by decide) (by kernel_rfl) (fun K hK=>?_) ?_
 .simp only[pickL,zO,zP]
  refine m0 ?_
  refine mo (c43_o2 (H:=hr4)) fun M1 o1 fM1_0 fM1_1 fM1_2=>?_
  have eM1_0:=nQ o1 (N0+1)
  have eM1_1:=nQ o1 (N0+24)
  refine m1 (j eM1_0 (j eM1_1 (j @hoS @hoN))) ?_
  refine mo (c54_o2 (H:=hr5)) fun M2 o2 fM2_0 fM2_1 fM2_2=>?_
  have eM2_0:=nQ o2 (N0+1)
  have eM2_1:=nQ o2 (N0+24)
  have eM2_2:=nQ o2 o1
  refine m1 (j eM1_0 (j eM1_1 (j @hoS (j @hoN (j eM2_0 (j eM2_1 eM2_2)))))) ?_
  refine mo (c55_o (H:=hr6)) fun M3 o3 fM3_0 fM3_1 fM3_2=>?_
  have eM3_0:=nQ o3 (N0+1)
  have eM3_1:=nQ o3 (N0+24)
  have eM3_2:=nQ o3 o1
  have eM3_3:=nQ o3 o2
  refine m1 (j eM1_0 (j eM1_1 (j @hoS (j @hoN (j eM2_0 (j eM2_1 (j eM2_2 (j eM3_0 (j eM3_1 (j eM3_2 eM3_3)))))))))) ?_
  exact hK _ _ ⟨M1,o1,M2,o2,M3,o3,(by omega),(by omega),(by omega),(by omega),(by omega),(by omega),(by omega),(by omega),(by omega),rfl,rfl⟩
 rintro a J ⟨M1,o1,M2,o2,M3,o3,fM1_0,fM1_1,fM1_2,fM2_0,fM2_1,fM2_2,fM3_0,fM3_1,fM3_2,rfl,rfl⟩
 refine Wsq [1,2,4,6] fun K2 hK2=>?_
 have e0:=nQ (N0+1) o1
 have e1:=nQ (N0+1) o2
 have e2:=nQ (N0+1) o3
 have e3:=nQ o1 o2
 have e4:=nQ o1 o3
 have e5:=nQ o1 (N0+24)
 have e6:=nQ o2 o3
 have e7:=nQ o2 (N0+24)
 have e8:=nQ o3 (N0+24)
 refine qB [1,2,4,6,32,33,34] (j e0 (j e1 (j e2 (j e3 (j e4 (j e5 (j e6 (j e7 e8)))))))) ?_
 refine Wb ?_
 obtain⟨e1,hse1,H⟩:=bE H
 refine zX [1,2,4,6,32,33,34] (fun s a J=>∃M4 o4 o5:Nat,N0<=M4/\N0<=o4/\o4<M4/\N0<=o5/\o5<M4/\¬o4=o5/\a=[(1,.int .i64 p1),(2,.fptr [.fsl (eL zA p0.Codes),.fsl (eL zJ p0.Threads),.fsl (eL rBox p0.Boxes),.int .i64 p0.Turn,.int .i64 p0.Idle,.fsl (eL rI p0.Out)] 0),(4,.ptr o4 0 0),(6,.ptr o5 0 0),(32,.fsl (eL zJ p0.Threads)),(33,.int .i64 (ilen p0.Threads)),(34,.int .i64 s.1)]/\J=hp E0 [(o4,some ⟨30,6,[[.osl 34 1 (eL zK s.2.1.Codes),.osl 42 2 (eL zB s.2.1.Threads),.osl 103 2 (eL zM s.2.1.Boxes),.int .i64 s.2.1.Turn,.int .i64 s.2.1.Idle,.osl 3 1 (eL rI s.2.1.Out)]]⟩),(o5,some ⟨30,6,[[.osl 34 1 (eL zK s.2.2.Codes),.osl 42 2 (eL zB s.2.2.Threads),.osl 103 2 (eL zM s.2.2.Boxes),.int .i64 s.2.2.Turn,.int .i64 s.2.2.Idle,.osl 3 1 (eL rI s.2.2.Out)]]⟩)] M4) (fun s x a J=>x=.exit 0/\Rc G 67 N0 (fun a J=>∃M5 o6 o7:Nat,N0<=M5/\N0<=o6/\o6<M5/\N0<=o7/\o7<M5/\¬o6=o7/\a=[(1,.int .i64 p1),(2,.fptr [.fsl (eL zA p0.Codes),.fsl (eL zJ p0.Threads),.fsl (eL rBox p0.Boxes),.int .i64 p0.Turn,.int .i64 p0.Idle,.fsl (eL rI p0.Out)] 0),(4,.ptr o6 0 0),(6,.ptr o7 0 0)]/\J=hp E0 [(o6,some ⟨30,6,[[.osl 34 1 (eL zK s.1.Codes),.osl 42 2 (eL zB s.1.Threads),.osl 103 2 (eL zM s.1.Boxes),.int .i64 s.1.Turn,.int .i64 s.1.Idle,.osl 3 1 (eL rI s.1.Out)]]⟩),(o7,some ⟨30,6,[[.osl 34 1 (eL zK s.2.Codes),.osl 42 2 (eL zB s.2.Threads),.osl 103 2 (eL zM s.2.Boxes),.int .i64 s.2.Turn,.int .i64 s.2.Idle,.osl 3 1 (eL rI s.2.Out)]]⟩)] M5) (AAct.keep a [1,2,4,6]) J) hse1 ?_ ?_ ?_
 .refine kp [1,2,4,6,32,33,34] ?_
  refine gP zI (N0+24) 0 0 ?_
  refine gP0 zI (N0+24) 0 1 42 2 (eL zB ([]:List gThread)) ?_
  refine gP zI (N0+24) 0 2 ?_
  refine gP zI (N0+24) 0 5 ?_
  exact R3 (M3+4) (N0+1) (N0+24)
 .clear H hse1
  rintro⟨s7,s8,s9⟩ fl a J H ⟨M4,o4,o5,fM4_0,fM4_1,fM4_2,fM4_3,fM4_4,fM4_5,rfl,rfl⟩ K3 O3 hK3 hO3
  unfold jT at H;dsimp only at H
  have e0:=nQ o4 o5
  refine qB [1,2,4,6,32,33,34,35] e0 ?_
  refine Wsq [1,2,4,6,32,33,34] fun K4 hK4=>?_
  refine Ci H ?_ ?_<;>intro H
  .refine Js hK4 ?_
   refine Wsq [1,2,4,6,32,33,34] fun K5 hK5=>?_
   refine Wb ?_
   obtain⟨v12,hv12,H⟩:=bE H
   have e0:=nQ o4 o5
   have e1:=nQ o4 (M4+3)
   have e2:=nQ o5 (M4+3)
   refine qB [1,2,4,6,8,32,33,34] (j e0 (j e1 (j e2 (ix27 hv12)))) ?_
   refine gU Wre o5 0 1 ?_
   obtain⟨r13,hr13,H⟩:=bE H
   obtain⟨l14,hl14,H⟩:=bE H
   have q0:∀(a0:Nat) (a1:Nat) (a2:Int) J i,bsA T 27 true i 1 [(0,.agg [.sl a0 0 a1,.int .i64 a2])] J=some (.fsl [[.sl a0 0 a1,.int .i64 a2]],J):=fun _ _ _ _ _=>rfl
   refine dX tok tokM [8] [1,3,4,6,7,8,9,11] [0,2,5,1,3,6,4,7,8,9,10,11] [(4,[1,6]),(8,[1])] [1,2,4,6,32,33,34] (fun a J=>∃M6 o8:Nat,M4+18<=M6/\M4+18<=o8/\o8<M6/\a=[(1,.int .i64 p1),(2,.fptr [.fsl (eL zA p0.Codes),.fsl (eL zJ p0.Threads),.fsl (eL rBox p0.Boxes),.int .i64 p0.Turn,.int .i64 p0.Idle,.fsl (eL rI p0.Out)] 0),(4,.ptr o4 0 0),(6,.ptr o5 0 0),(32,.fsl (eL zJ p0.Threads)),(33,.int .i64 (ilen p0.Threads)),(34,.int .i64 s7)]/\J=hp E0 [(o4,some ⟨30,6,[[.osl 34 1 (eL zK s8.Codes),.osl 42 2 (eL zB s8.Threads),.osl 103 2 (eL zM s8.Boxes),.int .i64 s8.Turn,.int .i64 s8.Idle,.osl 3 1 (eL rI s8.Out)]]⟩),(o5,some ⟨30,6,[[.osl 34 1 (eL zK s9.Codes),.sl (M4+15) 0 l14.length,.osl 103 2 (eL zM s9.Boxes),.int .i64 s9.Turn,.int .i64 s9.Idle,.osl 3 1 (eL rI s9.Out)]]⟩),(M4+3,some ⟨42,2,[[.fsl (eL rI v12.Regs),.int .i64 v12.Pc]]⟩),(o8,some ⟨3,1,eL rI r13⟩),(M4+15,some ⟨42,2,eL zB s9.Threads++[[.sl o8 0 r13.length,.int .i64 v12.Pc]]⟩)] M6) (by decide) (fun K hK=>?_) ?_
   .simp only[pickL,zO,zP]
    have e0:=nQ o4 o5
    have e1:=nQ o4 (M4+3)
    have e2:=nQ o4 (M4+5)
    have e3:=nQ o4 (M4+15)
    have e4:=nQ o5 (M4+3)
    have e5:=nQ o5 (M4+5)
    have e6:=nQ o5 (M4+15)
    refine m1 (j e0 (j e1 (j e2 (j e3 (j e4 (j e5 (j e6 (j q0 (apr27 zB hl14))))))))) ?_
    refine mo (c55_o (H:=hr13)) fun M6 o8 fM6_0 fM6_1 fM6_2=>?_
    have eM6_0:=nQ o8 o4
    have eM6_1:=nQ o8 o5
    have eM6_2:=nQ o8 (M4+3)
    have eM6_3:=nQ o8 (M4+5)
    have eM6_4:=nQ o8 (M4+15)
    refine m1 (j e0 (j e1 (j e2 (j e3 (j e4 (j e5 (j e6 (j q0 (j (apr27 zB hl14) (j eM6_0 (j eM6_1 (j eM6_2 (j eM6_3 (j eM6_4 (j @hoS @hoN))))))))))))))) ?_
    exact hK _ _ ⟨M6,o8,(by omega),(by omega),(by omega),rfl,rfl⟩
   rintro a J ⟨M6,o8,fM6_0,fM6_1,fM6_2,ha,rfl⟩
   refine hK5 _ _ ?_;rw[ha]
   refine Rc.mk ?_
   refine gP Wre (M4+15) s9.Threads.length 0 ?_ (hr:=by exact pG _ _ _)
   rw[show hp E0 [(o4,some ⟨30,6,[[.osl 34 1 (eL zK s8.Codes),.osl 42 2 (eL zB s8.Threads),.osl 103 2 (eL zM s8.Boxes),.int .i64 s8.Turn,.int .i64 s8.Idle,.osl 3 1 (eL rI s8.Out)]]⟩),(o5,some ⟨30,6,[[.osl 34 1 (eL zK s9.Codes),.sl (M4+15) 0 l14.length,.osl 103 2 (eL zM s9.Boxes),.int .i64 s9.Turn,.int .i64 s9.Idle,.osl 3 1 (eL rI s9.Out)]]⟩),(M4+3,some ⟨42,2,[[.fsl (eL rI v12.Regs),.int .i64 v12.Pc]]⟩),(M4+15,some ⟨42,2,eL zB s9.Threads++[[.osl 3 1 (eL rI r13),.int .i64 v12.Pc]]⟩)] M6=hp E0 [(o4,some ⟨30,6,[[.osl 34 1 (eL zK s8.Codes),.osl 42 2 (eL zB s8.Threads),.osl 103 2 (eL zM s8.Boxes),.int .i64 s8.Turn,.int .i64 s8.Idle,.osl 3 1 (eL rI s8.Out)]]⟩),(o5,some ⟨30,6,[[.osl 34 1 (eL zK s9.Codes),.sl (M4+15) 0 l14.length,.osl 103 2 (eL zM s9.Boxes),.int .i64 s9.Turn,.int .i64 s9.Idle,.osl 3 1 (eL rI s9.Out)]]⟩),(M4+3,some ⟨42,2,[[.fsl (eL rI v12.Regs),.int .i64 v12.Pc]]⟩),(M4+15,some ⟨42,2,eL zB l14⟩)] M6 from by rw[<- pH (f:=zB) (c:=[.osl 3 1 (eL rI r13),.int .i64 v12.Pc]) hl14 rfl]]
   have e0:=nQ o4 o5
   have e1:=nQ o4 (M4+3)
   have e2:=nQ o4 (M4+15)
   have e3:=nQ o5 (M4+3)
   have e4:=nQ o5 (M4+15)
   obtain rfl:=oi H
   refine qJ (j e0 (j e1 (j e2 (j e3 e4)))) hK3 ?_
   refine gP zI o5 0 1 ?_
   exact Rc.fin (zH (zH (AHeap.Sub.trans (AHeap.Sub.refl _) (zU rfl (by simp;try omega))))) ⟨M6+2,o4,o5,(by omega),(by omega),(by omega),(by omega),(by omega),(by omega),rfl,rfl⟩
  cases oj H
  refine zL (hO3 _ _ _ _ rfl ⟨rfl,?_⟩)
  refine kr ?_
  exact R3 (M4+1) o4 o5
 intro x a J hx
 obtain⟨y10,y11⟩:=e1
 obtain⟨rfl,b,U,hr,M5,o6,o7,fM5_0,fM5_1,fM5_2,fM5_3,fM5_4,fM5_5,rfl,rfl⟩:=hx
 (try dsimp only at H)
 show K2 _ _
 refine hK2 _ _ (zI hr ?_)
 refine Rc.mk ?_
 refine gU Wre o7 0 1 ?_
 obtain⟨r15,hr15,H⟩:=bE H
 refine Sm tok [] [4,6] (M5+19) (by
  intro K k
  have e0:=nQ o6 o7
  have e1:=nQ o6 M5
  have e2:=nQ o7 M5
  refine m1 (j e0 (j e1 e2)) ?_
  refine(c56_i_CrewRun_1_c4_0_1_mooooooo (w4_0c1:=M5) (W4_0:=[[.osl 34 1 (eL zK y11.Codes),.sl M5 0 y11.Threads.length,.osl 103 2 (eL zM y11.Boxes),.int .i64 y11.Turn,.int .i64 y11.Idle,.osl 3 1 (eL rI y11.Out)]]) (r4_0_:=0) (H:=hr15) (by simp[e0,e1,e2]) (by simp[e0,e1,e2]) (by simp[e0,e1,e2]) (by simp[e0,e1,e2])).mono ?_;rintro _ _ ⟨M7,fM7_0,rfl,rfl⟩;simp only[hpN] at fM7_0
  refine m1 (j e0 (j e1 (j e2 (j @hoS @hoN)))) ?_
  exact k M7 (by omega)) fun M7 fM7_0=>?_
 refine gU Wre o7 0 0 ?_
 refine gU Wre o7 0 1 ?_
 refine gU Wre o7 0 2 ?_
 refine gU Wre o7 0 5 ?_
 have e0:=nQ o6 o7
 have e1:=nQ o6 M7
 have e2:=nQ o6 (M7+1)
 have e3:=nQ o6 (M7+2)
 have e4:=nQ o6 (M7+3)
 have e5:=nQ o7 M7
 have e6:=nQ o7 (M7+1)
 have e7:=nQ o7 (M7+2)
 have e8:=nQ o7 (M7+3)
 refine qB [4,5] (j e0 (j e1 (j e2 (j e3 (j e4 (j e5 (j e6 (j e7 e8)))))))) ?_
 obtain rfl:=oi H
 refine Kp [4,5] ?_
 refine gDrop Wre [(o6,some ⟨30,6,[[.sl M7 0 r15.2.2.2.Codes.length,.sl (M7+1) 0 r15.2.2.2.Threads.length,.sl (M7+2) 0 r15.2.2.2.Boxes.length,.int .i64 r15.1,.int .i64 r15.2.1,.sl (M7+3) 0 r15.2.2.2.Out.length]]⟩),(M7,some ⟨34,1,eL zK r15.2.2.2.Codes⟩),(M7+1,some ⟨42,2,eL zB r15.2.2.2.Threads⟩),(M7+2,some ⟨103,2,eL zM r15.2.2.2.Boxes⟩),(M7+3,some ⟨3,1,eL rI r15.2.2.2.Out⟩)] (zH (AHeap.Sub.trans (zH (zH (zH (zH (AHeap.Sub.refl _))))) (zU rfl (by simp;try omega)))) ?_
 refine gP Wre o6 0 0 ?_
 refine gP Wre o6 0 1 ?_
 refine gP Wre o6 0 2 ?_
 refine gP Wre o6 0 5 ?_
 refine gU Wre o6 0 0 ?_
 refine gU Wre o6 0 1 ?_
 refine gU Wre o6 0 2 ?_
 refine gU Wre o6 0 5 ?_
 have z0:=nQ o6 (M7+7)
 have z1:=nQ o6 (M7+8)
 have z2:=nQ o6 (M7+9)
 have z3:=nQ o6 (M7+10)
 refine Wr ?_
 refine⟨[.agg [.sl (M7+7) 0 r15.2.2.2.Codes.length,.sl (M7+8) 0 r15.2.2.2.Threads.length,.sl (M7+9) 0 r15.2.2.2.Boxes.length,.int .i64 r15.1,.int .i64 r15.2.1,.sl (M7+10) 0 r15.2.2.2.Out.length],.bool true],by simp[z0,z1,z2,z3],(fun o=>[o6].contains o),M7+11,M7+7,M7+8,M7+9,M7+10,by omega,by omega,by omega,by omega,by omega,by omega,by omega,by omega,by omega,by omega,by omega,by omega,by omega,by omega,by omega,?_,?_⟩
 .simp[eN,z0,z1,z2,z3]
 rw[cutD (L':=[(M7+7,some ⟨34,1,eL zK r15.2.2.2.Codes⟩),(M7+8,some ⟨42,2,eL zB r15.2.2.2.Threads⟩),(M7+9,some ⟨103,2,eL zM r15.2.2.2.Boxes⟩),(M7+10,some ⟨3,1,eL rI r15.2.2.2.Out⟩)]) (by simp[z0,z1,z2,z3])]
 first|done|rfl|simp

theorem c20_o9_b {p0:gCrew}{p1:Int}{r:gCrew×Bool}(H:jU p0 p1=some r){J:AHeap}{args:List AV}(hy:args.map (thawA (fun _=>true) J 8)=[.agg [.fsl (eL zA p0.Codes),.fsl (eL zJ p0.Threads),.fsl (eL rBox p0.Boxes),.int .i64 p0.Turn,.int .i64 p0.Idle,.fsl (eL rI p0.Out)],.int .i64 p1]):ACalls Tryz.prog G 20 args J (fun v J'=>∃M n0 n1 n2 n3:Nat,J.next<=M/\J.next<=n0/\n0<M/\J.next<=n1/\n1<M/\J.next<=n2/\n2<M/\J.next<=n3/\n3<M/\¬n0=n1/\¬n0=n2/\¬n0=n3/\¬n1=n2/\¬n1=n3/\¬n2=n3/\v=.tup [.agg [.sl n0 0 r.1.Codes.length,.sl n1 0 r.1.Threads.length,.sl n2 0 r.1.Boxes.length,.int .i64 r.1.Turn,.int .i64 r.1.Idle,.sl n3 0 r.1.Out.length],.bool r.2]/\J'=hp J.objs [(n0,some ⟨34,1,eL zK r.1.Codes⟩),(n1,some ⟨42,2,eL zB r.1.Threads⟩),(n2,some ⟨103,2,eL zM r.1.Boxes⟩),(n3,some ⟨3,1,eL rI r.1.Out⟩)] M):=by
 refine borrowQ 8 8 (c20_o9 (J:=⟨E0,J.next⟩) H) hy ?_
 rintro _ _ ⟨M,n0,n1,n2,n3,h0,h1,h2,h3,h4,h5,h6,h7,h8,h9,h10,h11,h12,h13,h14,rfl,rfl⟩
 refine⟨_,M,rfl,by simp[AV.rnf,AV.simp1],fun p hp ob ho=>?_,by simp,M,n0,n1,n2,n3,h0,h1,h2,h3,h4,h5,h6,h7,h8,h9,h10,h11,h12,h13,h14,rfl,rfl⟩
 simp only[List.mem_cons,List.not_mem_nil,or_false] at hp
 rcases hp with rfl|rfl|rfl|rfl<;>(cases ho;first|exact tC (fun x=>nf_rL_Quad_o 6 x) _|exact tC (fun x=>nf_rThread_o 6 x) _|exact tC (fun x=>nf_rBox_o 6 x) _|exact tC (fun x=>nf_rI 7 x) _|simp[AV.nf,AV.simp1])

theorem c5 {p0:List Int}{p1:List Int}{r:Bool}(H:vV p0 p1=some r):APure Tryz.prog G 5 [.fsl (eL rU8 p0),.fsl (eL rU8 p1)] (.bool r):=by
 refine qK func5 ntmps5 results5 fun N0=>?_
 unfold vV at H
 refine qA [0,1] ?_
 refine Wsq [0,1] fun K1 hK1=>?_
 obtain⟨g1,hg1,H⟩:=bE H
 refine qF tok [0,1,26] ([(0,.fsl (eL rU8 p0)),(1,.fsl (eL rU8 p1)),(26,.bool g1)]) (hp E0 [] (N0+9)) (by
  intro K k
  refine m0 ?_
  cases hbg1:igt (ilen p0) 1048576
  .cases oj (ifF hbg1 hg1)
   exact m1 hbg1 k
  cases oj (ifT hbg1 hg1)
  refine m1 hbg1 ?_
  exact k) ?_
 refine Ci H ?_ ?_<;>intro H
 .refine qA [4] ?_
  cases oj H;exact W4
 refine Js hK1 ?_
 obtain⟨r2,hr2,H⟩:=bE H
 refine qD [1,5,6] (c12 hr2) ?_
 obtain⟨r3,hr3,H⟩:=bE H
 refine qD [1,5,6,7,8] (c13 hr3) ?_
 obtain⟨r4,hr4,H⟩:=bE H
 refine qD [1,5,6,7,8,9,10] (c14 hr4) ?_
 refine Wsq [1,5,6] fun K2 hK2=>?_
 obtain⟨g6,hg6,H⟩:=bE H
 obtain⟨g7,hg7,H⟩:=bE H
 refine qF tok [1,5,6,7,8,9,10,56] ([(1,.fsl (eL rU8 p1)),(5,.fsl (eL rI r2.1)),(6,.fsl (eL zA r2.2)),(7,.ptr (N0+22) 0 0),(8,.bool r3.2),(9,.ptr (N0+31) 0 0),(10,.bool r4.2),(56,.bool g7)]) (hp E0 [(N0+22,some ⟨30,6,[[.fsl (eL zA r3.1.Codes),.fsl (eL zJ r3.1.Threads),.fsl (eL rBox r3.1.Boxes),.int .i64 r3.1.Turn,.int .i64 r3.1.Idle,.fsl (eL rI r3.1.Out)]]⟩),(N0+31,some ⟨30,6,[[.fsl (eL zA r4.1.Codes),.fsl (eL zJ r4.1.Threads),.fsl (eL rBox r4.1.Boxes),.int .i64 r4.1.Turn,.int .i64 r4.1.Idle,.fsl (eL rI r4.1.Out)]]⟩)] (N0+47)) (by
  intro K k
  refine m0 ?_
  cases hbg6:bneb r3.2 r4.2
  .replace hg6:=ifF hbg6 hg6
   obtain⟨r5,hr5,hg6⟩:=bE hg6
   obtain rfl:=oi hg6
   refine m1 hbg6 ?_
   refine(c15 hr5).app (m1 hbg6 ?_)
   cases hbg7:(bnot r5)
   .cases oj (ifF hbg7 hg7)
    exact m2 hbg6 hbg7 k
   cases oj (ifT hbg7 hg7)
   exact m2 hbg6 hbg7 k
  cases oj (ifT hbg6 hg6)
  cases oj (ifT rfl hg7)
  refine m1 hbg6 ?_
  exact k) ?_
 refine Ci H ?_ ?_<;>intro H
 .obtain⟨g9,hg9,H⟩:=bE H
  refine qF tok [4] ([(4,.bool g9)]) (hp E0 [(N0+22,some ⟨30,6,[[.fsl (eL zA r3.1.Codes),.fsl (eL zJ r3.1.Threads),.fsl (eL rBox r3.1.Boxes),.int .i64 r3.1.Turn,.int .i64 r3.1.Idle,.fsl (eL rI r3.1.Out)]]⟩),(N0+31,some ⟨30,6,[[.fsl (eL zA r4.1.Codes),.fsl (eL zJ r4.1.Threads),.fsl (eL rBox r4.1.Boxes),.int .i64 r4.1.Turn,.int .i64 r4.1.Idle,.fsl (eL rI r4.1.Out)]]⟩)] (N0+56)) (by
   intro K k
   refine m0 ?_
   cases hbg9:beqb r3.2 r4.2
   .cases oj (ifF hbg9 hg9)
    exact m1 hbg9 k
   replace hg9:=ifT hbg9 hg9
   obtain⟨r8,hr8,hg9⟩:=bE hg9
   cases oj hg9
   refine m1 hbg9 ?_
   refine(c15 hr8).app (m1 hbg9 ?_)
   exact k) ?_
  cases oj H;exact W4
 refine Js hK2 ?_
 obtain⟨v10,hv10,H⟩:=bE H
 obtain⟨r11,hr11,H⟩:=bE H
 refine yU tok [] [1,6,11] (fun a J=>∃M1 o1:Nat,N0+55<=M1/\N0+55<=o1/\o1<M1/\a=[(1,.fsl (eL rU8 p1)),(6,.fsl (eL zA r2.2)),(11,.ptr (N0+53) 0 0)]/\J=hp E0 [(N0+22,some ⟨30,6,[[.fsl (eL zA r3.1.Codes),.fsl (eL zJ r3.1.Threads),.fsl (eL rBox r3.1.Boxes),.int .i64 r3.1.Turn,.int .i64 r3.1.Idle,.fsl (eL rI r3.1.Out)]]⟩),(N0+31,some ⟨30,6,[[.fsl (eL zA r4.1.Codes),.fsl (eL zJ r4.1.Threads),.fsl (eL rBox r4.1.Boxes),.int .i64 r4.1.Turn,.int .i64 r4.1.Idle,.fsl (eL rI r4.1.Out)]]⟩),(o1,some ⟨42,2,eL zB r11.Threads⟩),(N0+53,some ⟨30,6,[[.fsl (eL zA r11.Codes),.sl o1 0 r11.Threads.length,.fsl (eL rBox r11.Boxes),.int .i64 r11.Turn,.int .i64 r11.Idle,.fsl (eL rI r11.Out)]]⟩)] M1) (fun K hK=>?_) ?_
 .skip
  refine m1 hv10 ?_
  refine mo (c17_o (H:=hr11)) fun M1 o1 fM1_0 fM1_1 fM1_2=>?_
  have eM1_0:=nQ o1 (N0+22)
  have eM1_1:=nQ o1 (N0+31)
  have eM1_2:=nQ o1 (N0+53)
  refine m1 (j hv10 (j eM1_0 (j eM1_1 (j eM1_2 (j @hoS @hoN))))) ?_
  exact hK _ _ ⟨M1,o1,(by omega),(by omega),(by omega),rfl,rfl⟩
 rintro a J ⟨M1,o1,fM1_0,fM1_1,fM1_2,rfl,rfl⟩
 refine Wsq [1,6,11] fun K3 hK3=>?_
 have e0:=nQ (N0+22) o1
 have e1:=nQ (N0+31) o1
 have e2:=nQ o1 (N0+53)
 refine qB [1,6,11,76] (j e0 (j e1 e2)) ?_
 refine Ci H ?_ ?_<;>intro H
 .have e0:=nQ (N0+22) o1
  have e1:=nQ (N0+31) o1
  have e2:=nQ o1 (N0+53)
  refine qB [4] (j e0 (j e1 e2)) ?_
  cases oj H
  refine Kp [4] ?_
  have z0:=nQ (N0+22) o1
  have z1:=nQ (N0+31) o1
  have z2:=nQ o1 (N0+53)
  refine Wr ?_
  exact⟨[.bool false],by simp[z0,z1,z2],4,by simp[eN,z0,z1,z2]⟩
 refine Js hK3 ?_
 obtain⟨v12,hv12,H⟩:=bE H
 have e0:=nQ (N0+22) o1
 have e1:=nQ (N0+31) o1
 have e2:=nQ o1 (N0+53)
 refine qB [6,11,12] (j e0 (j e1 (j e2 hv12))) ?_
 refine gP Wre (N0+53) 0 1 ?_
 refine gU Wre (N0+53) 0 1 ?_
 obtain⟨v15,hv15,H⟩:=bE H
 obtain⟨r16,hr16,H⟩:=bE H
 obtain⟨v17,hv17,H⟩:=bE H
 obtain⟨v18,hv18,H⟩:=bE H
 refine Sd tok tokM [] [6,8,10] [0,1,2,3,4,5,7,6,8,9,10,11,12,13] [11,12,13] (by
  intro K k
  have e0:=nQ (N0+22) (M1+12)
  have e1:=nQ (N0+10) M1
  have e2:=nQ (N0+31) (M1+12)
  have e3:=nQ (N0+19) M1
  have e4:=nQ (N0+53) (M1+12)
  have e5:=nQ (N0+41) M1
  simp only[pickL,zO,zP]
  repeat first|simp -dsimp -implicitDefEqProofs [e0,e1,e2,e3,e4,e5,ix24 hv15,ixo27 hv17,(zC hv17).2.2,ix43 hv18]|refine Pc.mk (c19 hr16) ?_
  exact k) ?_
 refine gP Wre (N0+53) 0 1 ?_
 refine gU Wre (N0+53) 0 1 ?_
 obtain⟨r19,hr19,H⟩:=bE H
 refine yU tok [] [11,12,13,14,15] (fun a J=>∃M2 o2 o3 o4 o5:Nat,M1+36<=M2/\M1+36<=o2/\o2<M2/\M1+36<=o3/\o3<M2/\M1+36<=o4/\o4<M2/\M1+36<=o5/\o5<M2/\¬o2=o3/\¬o2=o4/\¬o2=o5/\¬o3=o4/\¬o3=o5/\¬o4=o5/\a=[(11,.ptr (N0+53) 0 0),(12,.int .i64 v12),(13,.fsl (eL rB v18)),(14,.ptr (M1+33) 0 0),(15,.bool r19.2)]/\J=hp E0 [(N0+22,some ⟨30,6,[[.fsl (eL zA r3.1.Codes),.fsl (eL zJ r3.1.Threads),.fsl (eL rBox r3.1.Boxes),.int .i64 r3.1.Turn,.int .i64 r3.1.Idle,.fsl (eL rI r3.1.Out)]]⟩),(N0+31,some ⟨30,6,[[.fsl (eL zA r4.1.Codes),.fsl (eL zJ r4.1.Threads),.fsl (eL rBox r4.1.Boxes),.int .i64 r4.1.Turn,.int .i64 r4.1.Idle,.fsl (eL rI r4.1.Out)]]⟩),(N0+53,some ⟨30,6,[[.fsl (eL zA r11.Codes),.sl (M1+27) 0 r11.Threads.length,.fsl (eL rBox r11.Boxes),.int .i64 r11.Turn,.int .i64 r11.Idle,.fsl (eL rI r11.Out)]]⟩),(M1+27,some ⟨42,2,eL zB r11.Threads⟩),(o2,some ⟨34,1,eL zK r19.1.Codes⟩),(o3,some ⟨42,2,eL zB r19.1.Threads⟩),(o4,some ⟨103,2,eL zM r19.1.Boxes⟩),(o5,some ⟨3,1,eL rI r19.1.Out⟩),(M1+33,some ⟨30,6,[[.sl o2 0 r19.1.Codes.length,.sl o3 0 r19.1.Threads.length,.sl o4 0 r19.1.Boxes.length,.int .i64 r19.1.Turn,.int .i64 r19.1.Idle,.sl o5 0 r19.1.Out.length]]⟩)] M2) (fun K hK=>?_) ?_
 .skip
  have e0:=nQ (N0+22) (M1+27)
  have e1:=nQ N0 (M1+5)
  have e2:=nQ (N0+22) (M1+33)
  have e3:=nQ N0 (M1+11)
  have e4:=nQ (N0+31) (M1+27)
  have e5:=nQ (N0+4) M1
  have e6:=nQ (N0+31) (M1+33)
  have e7:=nQ N0 (M1+2)
  have e8:=nQ (N0+53) (M1+27)
  have e9:=nQ (N0+26) M1
  have e10:=nQ (N0+53) (M1+33)
  have e11:=nQ (N0+20) M1
  refine m1 (j e0 (j e1 (j e2 (j e3 (j e4 (j e5 (j e6 (j e7 (j e8 (j e9 (j e10 e11))))))))))) ?_
  refine(c20_o9_b (H:=hr19) (by simp[e0,e1,e2,e3,e4,e5,e6,e7,e8,e9,e10,e11])).mono ?_;rintro _ _ ⟨M2,o2,o3,o4,o5,fM2_0,fM2_1,fM2_2,fM2_3,fM2_4,fM2_5,fM2_6,fM2_7,fM2_8,fM2_9,fM2_10,fM2_11,fM2_12,fM2_13,fM2_14,rfl,rfl⟩;simp only[hpN] at fM2_0 fM2_1 fM2_2 fM2_3 fM2_4 fM2_5 fM2_6 fM2_7 fM2_8 fM2_9 fM2_10 fM2_11 fM2_12 fM2_13 fM2_14
  have eM2_0:=nQ o2 (N0+22)
  have eM2_1:=nQ o2 (N0+31)
  have eM2_2:=nQ o2 (N0+53)
  have eM2_3:=nQ o2 (M1+27)
  have eM2_4:=nQ o2 (M1+33)
  have eM2_5:=nQ o2 o3
  have eM2_6:=nQ o2 o4
  have eM2_7:=nQ o2 o5
  have eM2_8:=nQ o3 (N0+22)
  have eM2_9:=nQ o3 (N0+31)
  have eM2_10:=nQ o3 (N0+53)
  have eM2_11:=nQ o3 (M1+27)
  have eM2_12:=nQ o3 (M1+33)
  have eM2_13:=nQ o3 o4
  have eM2_14:=nQ o3 o5
  have eM2_15:=nQ o4 (N0+22)
  have eM2_16:=nQ o4 (N0+31)
  have eM2_17:=nQ o4 (N0+53)
  have eM2_18:=nQ o4 (M1+27)
  have eM2_19:=nQ o4 (M1+33)
  have eM2_20:=nQ o4 o5
  have eM2_21:=nQ o5 (N0+22)
  have eM2_22:=nQ o5 (N0+31)
  have eM2_23:=nQ o5 (N0+53)
  have eM2_24:=nQ o5 (M1+27)
  have eM2_25:=nQ o5 (M1+33)
  refine m1 (j e0 (j e1 (j e2 (j e3 (j e4 (j e5 (j e6 (j e7 (j e8 (j e9 (j e10 (j e11 (j eM2_0 (j eM2_1 (j eM2_2 (j eM2_3 (j eM2_4 (j eM2_5 (j eM2_6 (j eM2_7 (j eM2_8 (j eM2_9 (j eM2_10 (j eM2_11 (j eM2_12 (j eM2_13 (j eM2_14 (j eM2_15 (j eM2_16 (j eM2_17 (j eM2_18 (j eM2_19 (j eM2_20 (j eM2_21 (j eM2_22 (j eM2_23 (j eM2_24 (j eM2_25 (j @hoS @hoN))))))))))))))))))))))))))))))))))))))) ?_
  exact hK _ _ ⟨M2,o2,o3,o4,o5,(by omega),(by omega),(by omega),(by omega),(by omega),(by omega),(by omega),(by omega),(by omega),(by omega),(by omega),(by omega),(by omega),(by omega),(by omega),rfl,rfl⟩
 rintro a J ⟨M2,o2,o3,o4,o5,fM2_0,fM2_1,fM2_2,fM2_3,fM2_4,fM2_5,fM2_6,fM2_7,fM2_8,fM2_9,fM2_10,fM2_11,fM2_12,fM2_13,fM2_14,rfl,rfl⟩
 refine Wsq [11,14,15] fun K4 hK4=>?_
 have e0:=nQ (N0+22) (M1+27)
 have e1:=nQ N0 (M1+5)
 have e2:=nQ (N0+22) o2
 have e3:=nQ (N0+22) o3
 have e4:=nQ (N0+22) o4
 have e5:=nQ (N0+22) o5
 have e6:=nQ (N0+22) (M1+33)
 have e7:=nQ N0 (M1+11)
 have e8:=nQ (N0+31) (M1+27)
 have e9:=nQ (N0+4) M1
 have e10:=nQ (N0+31) o2
 have e11:=nQ (N0+31) o3
 have e12:=nQ (N0+31) o4
 have e13:=nQ (N0+31) o5
 have e14:=nQ (N0+31) (M1+33)
 have e15:=nQ N0 (M1+2)
 have e16:=nQ (N0+53) (M1+27)
 have e17:=nQ (N0+26) M1
 have e18:=nQ (N0+53) o2
 have e19:=nQ (N0+53) o3
 have e20:=nQ (N0+53) o4
 have e21:=nQ (N0+53) o5
 have e22:=nQ (N0+53) (M1+33)
 have e23:=nQ (N0+20) M1
 have e24:=nQ (M1+27) o2
 have e25:=nQ (M1+27) o3
 have e26:=nQ (M1+27) o4
 have e27:=nQ (M1+27) o5
 have e28:=nQ o2 o3
 have e29:=nQ o2 o4
 have e30:=nQ o2 o5
 have e31:=nQ o2 (M1+33)
 have e32:=nQ o3 o4
 have e33:=nQ o3 o5
 have e34:=nQ o3 (M1+33)
 have e35:=nQ o4 o5
 have e36:=nQ o4 (M1+33)
 have e37:=nQ o5 (M1+33)
 refine qB [11,12,13,14,15,16] (j e0 (j e1 (j e2 (j e3 (j e4 (j e5 (j e6 (j e7 (j e8 (j e9 (j e10 (j e11 (j e12 (j e13 (j e14 (j e15 (j e16 (j e17 (j e18 (j e19 (j e20 (j e21 (j e22 (j e23 (j e24 (j e25 (j e26 (j e27 (j e28 (j e29 (j e30 (j e31 (j e32 (j e33 (j e34 (j e35 (j e36 e37))))))))))))))))))))))))))))))))))))) ?_
 refine Wb ?_
 obtain⟨e1,hse1,H⟩:=bE H
 refine zX [11,12,13,14,15,16] (fun s a J=>∃M3 o6 o7:Nat,N0<=M3/\N0<=o6/\o6<M3/\N0<=o7/\o7<M3/\¬o6=o7/\a=[(11,.ptr o6 0 0),(12,.int .i64 v12),(13,.fsl (eL rB v18)),(14,.ptr o7 0 0),(15,.bool r19.2),(16,.int .i64 s.1)]/\J=hp E0 [(o6,some ⟨30,6,[[.fsl (eL zA s.2.1.Codes),.osl 42 2 (eL zB s.2.1.Threads),.fsl (eL rBox s.2.1.Boxes),.int .i64 s.2.1.Turn,.int .i64 s.2.1.Idle,.fsl (eL rI s.2.1.Out)]]⟩),(o7,some ⟨30,6,[[.osl 34 1 (eL zK s.2.2.Codes),.osl 42 2 (eL zB s.2.2.Threads),.osl 103 2 (eL zM s.2.2.Boxes),.int .i64 s.2.2.Turn,.int .i64 s.2.2.Idle,.osl 3 1 (eL rI s.2.2.Out)]]⟩)] M3) (fun s x a J=>x=.exit 0/\Rc G 142 N0 (fun a J=>∃M4 o8 o9:Nat,N0<=M4/\N0<=o8/\o8<M4/\N0<=o9/\o9<M4/\¬o8=o9/\a=[(11,.ptr o8 0 0),(14,.ptr o9 0 0),(15,.bool r19.2)]/\J=hp E0 [(o8,some ⟨30,6,[[.fsl (eL zA s.1.Codes),.osl 42 2 (eL zB s.1.Threads),.fsl (eL rBox s.1.Boxes),.int .i64 s.1.Turn,.int .i64 s.1.Idle,.fsl (eL rI s.1.Out)]]⟩),(o9,some ⟨30,6,[[.osl 34 1 (eL zK s.2.Codes),.osl 42 2 (eL zB s.2.Threads),.osl 103 2 (eL zM s.2.Boxes),.int .i64 s.2.Turn,.int .i64 s.2.Idle,.osl 3 1 (eL rI s.2.Out)]]⟩)] M4) (AAct.keep a [11,14,15]) J) hse1 ?_ ?_ ?_
 .refine kp [11,12,13,14,15,16] ?_
  refine gP zI (N0+53) 0 1 ?_
  refine gP zI (M1+33) 0 0 ?_
  refine gP zI (M1+33) 0 1 ?_
  refine gP zI (M1+33) 0 2 ?_
  refine gP zI (M1+33) 0 5 ?_
  exact Rc.fin (AHeap.Sub.trans (AHeap.Sub.trans (zH (zH (AHeap.Sub.refl _))) (zU rfl (by simp;try omega))) (zU rfl (by simp;try omega))) ⟨M2+1,(N0+53),(M1+33),(by omega),(by omega),(by omega),(by omega),(by omega),(by omega),rfl,rfl⟩
 .clear H hse1
  rintro⟨s20,s21,s22⟩ fl a J H ⟨M3,o6,o7,fM3_0,fM3_1,fM3_2,fM3_3,fM3_4,fM3_5,rfl,rfl⟩ K5 O5 hK5 hO5
  unfold xD at H;dsimp only at H
  refine Wsq [11,12,13,14,15,16] fun K6 hK6=>?_
  have e0:=nQ o6 o7
  refine qB [11,12,13,14,15,16,101] e0 ?_
  refine Ci H ?_ ?_<;>intro H
  .refine Js hK6 ?_
   refine Wsq [11,12,13,14,15,16] fun K7 hK7=>?_
   refine Wb ?_
   obtain⟨v25,hv25,H⟩:=bE H
   have e0:=nQ o6 o7
   refine qC [11,12,13,14,15,16,108] e0 (ix39 hv25) ?_
   refine Ci H ?_ ?_<;>intro H
   .refine gU Wre o6 0 1 ?_
    obtain⟨v26,hv26,H⟩:=bE H
    refine gU Wre (M3+7) v12.toNat 0 ?_ (hr:=by exact vQ zB hv26)
    obtain⟨v27,hv27,H⟩:=bE H
    obtain⟨r28,hr28,H⟩:=bE H
    obtain⟨l29,hl29,H⟩:=bE H
    refine dX tok tokM [] [1,3,5,8,10,11,12,14,15,16,17,18,19] [0,2,6,7,9,13,1,3,4,5,8,10,11,12,14,15,16,17,18,19] [(17,[1,3,5])] [11,12,13,14,15,16] (fun a J=>a=[(11,.ptr o6 0 0),(12,.int .i64 v12),(13,.fsl (eL rB v18)),(14,.ptr o7 0 0),(15,.bool r19.2),(16,.int .i64 s20)]/\J=hp E0 [(o6,some ⟨30,6,[[.fsl (eL zA s21.Codes),.sl (M3+7) 0 s21.Threads.length,.fsl (eL rBox s21.Boxes),.int .i64 s21.Turn,.int .i64 s21.Idle,.fsl (eL rI s21.Out)]]⟩),(o7,some ⟨30,6,[[.osl 34 1 (eL zK s22.Codes),.osl 42 2 (eL zB s22.Threads),.osl 103 2 (eL zM s22.Boxes),.int .i64 s22.Turn,.int .i64 s22.Idle,.osl 3 1 (eL rI s22.Out)]]⟩),(M3+7,some ⟨42,2,(eL zB s21.Threads).set v12.toNat [.sl (M3+8) 0 v26.Regs.length,.int .i64 v26.Pc]⟩),(M3+8,some ⟨3,1,eL rI l29⟩)] (M3+29)) (by decide) (fun K hK=>?_) ?_
    .simp only[pickL,zO,zP]
     have e0:=nQ o6 o7
     have e1:=nQ o6 (M3+7)
     have e2:=nQ o6 (M3+8)
     have e3:=nQ o7 (M3+7)
     have e4:=nQ o7 (M3+8)
     refine m1 (j e0 (j e1 (j e2 (j e3 (j e4 (j (gSt hv26) (j (ixo27 hv26) (j ((zC hv26).2.2) (j (ixo23 hv27) (j ((zC hv27).2.2) ((setx_iff.1 hl29).2.symm))))))))))) ?_
     refine(c21 hr28).app (m1 (j e0 (j e1 (j e2 (j e3 (j e4 (j (gSt hv26) (j (ixo27 hv26) (j ((zC hv26).2.2) (j (ixo23 hv27) (j ((zC hv27).2.2) ((setx_iff.1 hl29).2.symm))))))))))) ?_)
     exact hK _ _ ⟨rfl,rfl⟩
    rintro a J ⟨ha,rfl⟩
    (try rw[<- zE hl29] at ha);(try rw[<- zE hl29])
    refine hK7 _ _ ?_;rw[ha]
    refine Rc.mk ?_
    have e0:=nQ o6 o7
    have e1:=nQ o6 (M3+7)
    have e2:=nQ o6 (M3+8)
    have e3:=nQ o7 (M3+7)
    have e4:=nQ o7 (M3+8)
    refine Rt tok [] [11,12,13,14,15,16] (by intro K k;simp -dsimp -implicitDefEqProofs [e0,e1,e2,e3,e4,(gset hv26 _)];exact k) fun a ha=>?_
    obtain⟨l30,hl30,H⟩:=bE H
    obtain rfl:=oi H
    refine hK5 _ _ _ rfl ?_;rw[ha]
    refine gP zI (M3+7) v12.toNat 0 ?_ (hr:=by exact gset hv26 _)
    rw[show hp E0 [(o6,some ⟨30,6,[[.fsl (eL zA s21.Codes),.sl (M3+7) 0 s21.Threads.length,.fsl (eL rBox s21.Boxes),.int .i64 s21.Turn,.int .i64 s21.Idle,.fsl (eL rI s21.Out)]]⟩),(o7,some ⟨30,6,[[.osl 34 1 (eL zK s22.Codes),.osl 42 2 (eL zB s22.Threads),.osl 103 2 (eL zM s22.Boxes),.int .i64 s22.Turn,.int .i64 s22.Idle,.osl 3 1 (eL rI s22.Out)]]⟩),(M3+7,some ⟨42,2,(eL zB s21.Threads).set v12.toNat [.osl 3 1 (eL rI l29),.int .i64 v26.Pc]⟩)] (M3+32)=hp E0 [(o6,some ⟨30,6,[[.fsl (eL zA s21.Codes),.sl (M3+7) 0 l30.length,.fsl (eL rBox s21.Boxes),.int .i64 s21.Turn,.int .i64 s21.Idle,.fsl (eL rI s21.Out)]]⟩),(o7,some ⟨30,6,[[.osl 34 1 (eL zK s22.Codes),.osl 42 2 (eL zB s22.Threads),.osl 103 2 (eL zM s22.Boxes),.int .i64 s22.Turn,.int .i64 s22.Idle,.osl 3 1 (eL rI s22.Out)]]⟩),(M3+7,some ⟨42,2,eL zB l30⟩)] (M3+32) from by(try rw[zE hl30]);rw[(setx_iff.1 hl30).2,<- kN];rfl];(try rw[<- zE hl30])
    refine gP zI o6 0 1 ?_
    exact R3 (M3+32) o6 o7
   refine Js hK7 ?_
   have e0:=nQ o6 o7
   obtain rfl:=oi H
   refine qJ e0 hK5 ?_
   exact R3 (M3+10) o6 o7
  obtain rfl:=oi H
  refine zL (hO5 _ _ _ _ rfl ⟨rfl,?_⟩)
  refine kr ?_
  exact R3 (M3+2) o6 o7
 intro x a J hx
 obtain⟨y23,y24⟩:=e1
 obtain⟨rfl,b,U,hr,M4,o8,o9,fM4_0,fM4_1,fM4_2,fM4_3,fM4_4,fM4_5,rfl,rfl⟩:=hx
 (try dsimp only at H)
 show K4 _ _
 refine hK4 _ _ (zI hr ?_)
 refine Rc.mk ?_
 refine gU Wre o8 0 1 ?_
 obtain⟨r31,hr31,H⟩:=bE H
 refine yU tok [] [14,15,17,18] (fun a J=>∃M5 o10 o11 o12 o13:Nat,M4+9<=M5/\M4+9<=o10/\o10<M5/\M4+9<=o11/\o11<M5/\M4+9<=o12/\o12<M5/\M4+9<=o13/\o13<M5/\¬o10=o11/\¬o10=o12/\¬o10=o13/\¬o11=o12/\¬o11=o13/\¬o12=o13/\a=[(14,.ptr o9 0 0),(15,.bool r19.2),(17,.ptr (M4+6) 0 0),(18,.bool r31.2)]/\J=hp E0 [(o8,some ⟨30,6,[[.fsl (eL zA y23.Codes),.sl M4 0 y23.Threads.length,.fsl (eL rBox y23.Boxes),.int .i64 y23.Turn,.int .i64 y23.Idle,.fsl (eL rI y23.Out)]]⟩),(o9,some ⟨30,6,[[.osl 34 1 (eL zK y24.Codes),.osl 42 2 (eL zB y24.Threads),.osl 103 2 (eL zM y24.Boxes),.int .i64 y24.Turn,.int .i64 y24.Idle,.osl 3 1 (eL rI y24.Out)]]⟩),(M4,some ⟨42,2,eL zB y23.Threads⟩),(o10,some ⟨34,1,eL zK r31.1.Codes⟩),(o11,some ⟨42,2,eL zB r31.1.Threads⟩),(o12,some ⟨103,2,eL zM r31.1.Boxes⟩),(o13,some ⟨3,1,eL rI r31.1.Out⟩),(M4+6,some ⟨30,6,[[.sl o10 0 r31.1.Codes.length,.sl o11 0 r31.1.Threads.length,.sl o12 0 r31.1.Boxes.length,.int .i64 r31.1.Turn,.int .i64 r31.1.Idle,.sl o13 0 r31.1.Out.length]]⟩)] M5) (fun K hK=>?_) ?_
 .skip
  have e0:=nQ o8 o9
  have e1:=nQ o8 M4
  have e2:=nQ o8 (M4+6)
  have e3:=nQ o9 M4
  have e4:=nQ o9 (M4+6)
  refine m1 (j e0 (j e1 (j e2 (j e3 e4)))) ?_
  refine(c20_o9_b (H:=hr31) (by simp[e0,e1,e2,e3,e4])).mono ?_;rintro _ _ ⟨M5,o10,o11,o12,o13,fM5_0,fM5_1,fM5_2,fM5_3,fM5_4,fM5_5,fM5_6,fM5_7,fM5_8,fM5_9,fM5_10,fM5_11,fM5_12,fM5_13,fM5_14,rfl,rfl⟩;simp only[hpN] at fM5_0 fM5_1 fM5_2 fM5_3 fM5_4 fM5_5 fM5_6 fM5_7 fM5_8 fM5_9 fM5_10 fM5_11 fM5_12 fM5_13 fM5_14
  have eM5_0:=nQ o10 o8
  have eM5_1:=nQ o10 o9
  have eM5_2:=nQ o10 M4
  have eM5_3:=nQ o10 (M4+6)
  have eM5_4:=nQ o10 o11
  have eM5_5:=nQ o10 o12
  have eM5_6:=nQ o10 o13
  have eM5_7:=nQ o11 o8
  have eM5_8:=nQ o11 o9
  have eM5_9:=nQ o11 M4
  have eM5_10:=nQ o11 (M4+6)
  have eM5_11:=nQ o11 o12
  have eM5_12:=nQ o11 o13
  have eM5_13:=nQ o12 o8
  have eM5_14:=nQ o12 o9
  have eM5_15:=nQ o12 M4
  have eM5_16:=nQ o12 (M4+6)
  have eM5_17:=nQ o12 o13
  have eM5_18:=nQ o13 o8
  have eM5_19:=nQ o13 o9
  have eM5_20:=nQ o13 M4
  have eM5_21:=nQ o13 (M4+6)
  refine m1 (j e0 (j e1 (j e2 (j e3 (j e4 (j eM5_0 (j eM5_1 (j eM5_2 (j eM5_3 (j eM5_4 (j eM5_5 (j eM5_6 (j eM5_7 (j eM5_8 (j eM5_9 (j eM5_10 (j eM5_11 (j eM5_12 (j eM5_13 (j eM5_14 (j eM5_15 (j eM5_16 (j eM5_17 (j eM5_18 (j eM5_19 (j eM5_20 (j eM5_21 (j @hoS @hoN)))))))))))))))))))))))))))) ?_
  exact hK _ _ ⟨M5,o10,o11,o12,o13,(by omega),(by omega),(by omega),(by omega),(by omega),(by omega),(by omega),(by omega),(by omega),(by omega),(by omega),(by omega),(by omega),(by omega),(by omega),rfl,rfl⟩
 rintro a J ⟨M5,o10,o11,o12,o13,fM5_0,fM5_1,fM5_2,fM5_3,fM5_4,fM5_5,fM5_6,fM5_7,fM5_8,fM5_9,fM5_10,fM5_11,fM5_12,fM5_13,fM5_14,rfl,rfl⟩
 refine gDrop Wre [(o9,some ⟨30,6,[[.osl 34 1 (eL zK y24.Codes),.osl 42 2 (eL zB y24.Threads),.osl 103 2 (eL zM y24.Boxes),.int .i64 y24.Turn,.int .i64 y24.Idle,.osl 3 1 (eL rI y24.Out)]]⟩),(o10,some ⟨34,1,eL zK r31.1.Codes⟩),(o11,some ⟨42,2,eL zB r31.1.Threads⟩),(o12,some ⟨103,2,eL zM r31.1.Boxes⟩),(o13,some ⟨3,1,eL rI r31.1.Out⟩),(M4+6,some ⟨30,6,[[.sl o10 0 r31.1.Codes.length,.sl o11 0 r31.1.Threads.length,.sl o12 0 r31.1.Boxes.length,.int .i64 r31.1.Turn,.int .i64 r31.1.Idle,.sl o13 0 r31.1.Out.length]]⟩)] (AHeap.Sub.trans (zH (AHeap.Sub.trans (zH (zH (zH (zH (zH (AHeap.Sub.refl _)))))) (zU rfl (by simp;try omega)))) (zU rfl (by simp;try omega))) ?_
 refine gP Wre (M4+6) 0 0 ?_
 refine gP Wre (M4+6) 0 1 ?_
 refine gP Wre (M4+6) 0 2 ?_
 refine gP Wre (M4+6) 0 5 ?_
 refine gU Wre o9 0 0 ?_
 refine gU Wre o9 0 1 ?_
 refine gU Wre o9 0 2 ?_
 refine gU Wre o9 0 5 ?_
 refine gU Wre (M4+6) 0 0 ?_
 refine gU Wre (M4+6) 0 1 ?_
 refine gU Wre (M4+6) 0 2 ?_
 refine gU Wre (M4+6) 0 5 ?_
 obtain⟨g40,hg40,H⟩:=bE H
 obtain⟨g42,hg42,H⟩:=bE H
 refine yU tok [] [4] (fun a J=>a=[(4,.bool g42)]/\J=hp E0 [(o9,some ⟨30,6,[[.sl M5 0 y24.Codes.length,.sl (M5+1) 0 y24.Threads.length,.sl (M5+2) 0 y24.Boxes.length,.int .i64 y24.Turn,.int .i64 y24.Idle,.sl (M5+3) 0 y24.Out.length]]⟩),(M4+6,some ⟨30,6,[[.sl (M5+4) 0 r31.1.Codes.length,.sl (M5+5) 0 r31.1.Threads.length,.sl (M5+6) 0 r31.1.Boxes.length,.int .i64 r31.1.Turn,.int .i64 r31.1.Idle,.sl (M5+7) 0 r31.1.Out.length]]⟩),(M5,some ⟨34,1,eL zK y24.Codes⟩),(M5+1,some ⟨42,2,eL zB y24.Threads⟩),(M5+2,some ⟨103,2,eL zM y24.Boxes⟩),(M5+3,some ⟨3,1,eL rI y24.Out⟩),(M5+4,some ⟨34,1,eL zK r31.1.Codes⟩),(M5+5,some ⟨42,2,eL zB r31.1.Threads⟩),(M5+6,some ⟨103,2,eL zM r31.1.Boxes⟩),(M5+7,some ⟨3,1,eL rI r31.1.Out⟩)] (M5+18)) (fun K hK=>?_) ?_
 .skip
  have e0:=nQ o9 (M4+6)
  have e1:=nQ o9 M5
  have e2:=nQ o9 (M5+1)
  have e3:=nQ o9 (M5+2)
  have e4:=nQ o9 (M5+3)
  have e5:=nQ o9 (M5+4)
  have e6:=nQ o9 (M5+5)
  have e7:=nQ o9 (M5+6)
  have e8:=nQ o9 (M5+7)
  have e9:=nQ (M4+6) M5
  have e10:=nQ (M4+6) (M5+1)
  have e11:=nQ (M4+5) M5
  have e12:=nQ (M4+6) (M5+2)
  have e13:=nQ (M4+4) M5
  have e14:=nQ (M4+6) (M5+3)
  have e15:=nQ (M4+3) M5
  have e16:=nQ (M4+6) (M5+4)
  have e17:=nQ (M4+2) M5
  have e18:=nQ (M4+6) (M5+5)
  have e19:=nQ (M4+1) M5
  have e20:=nQ (M4+6) (M5+6)
  have e21:=nQ M4 M5
  have e22:=nQ (M4+6) (M5+7)
  have e23:=nQ M4 (M5+1)
  refine m1 (j e0 (j e1 (j e2 (j e3 (j e4 (j e5 (j e6 (j e7 (j e8 (j e9 (j e10 (j e11 (j e12 (j e13 (j e14 (j e15 (j e16 (j e17 (j e18 (j e19 (j e20 (j e21 (j e22 e23))))))))))))))))))))))) ?_
  cases hbg40:r19.2
  .cases oj (ifF hbg40 hg40)
   cases oj (ifF rfl hg42)
   refine m1 (j e0 (j e1 (j e2 (j e3 (j e4 (j e5 (j e6 (j e7 (j e8 (j e9 (j e10 (j e11 (j e12 (j e13 (j e14 (j e15 (j e16 (j e17 (j e18 (j e19 (j e20 (j e21 (j e22 (j e23 hbg40)))))))))))))))))))))))) ?_
   exact hK _ _ ⟨rfl,rfl⟩
  cases oj (ifT hbg40 hg40)
  refine m1 (j e0 (j e1 (j e2 (j e3 (j e4 (j e5 (j e6 (j e7 (j e8 (j e9 (j e10 (j e11 (j e12 (j e13 (j e14 (j e15 (j e16 (j e17 (j e18 (j e19 (j e20 (j e21 (j e22 (j e23 hbg40)))))))))))))))))))))))) ?_
  cases hbg42:r31.2
  .cases oj (ifF hbg42 hg42)
   refine m1 (j e0 (j e1 (j e2 (j e3 (j e4 (j e5 (j e6 (j e7 (j e8 (j e9 (j e10 (j e11 (j e12 (j e13 (j e14 (j e15 (j e16 (j e17 (j e18 (j e19 (j e20 (j e21 (j e22 (j e23 (j hbg40 hbg42))))))))))))))))))))))))) ?_
   exact hK _ _ ⟨rfl,rfl⟩
  replace hg42:=ifT hbg42 hg42
  obtain⟨r41,hr41,hg42⟩:=bE hg42
  cases oj hg42
  refine m1 (j e0 (j e1 (j e2 (j e3 (j e4 (j e5 (j e6 (j e7 (j e8 (j e9 (j e10 (j e11 (j e12 (j e13 (j e14 (j e15 (j e16 (j e17 (j e18 (j e19 (j e20 (j e21 (j e22 (j e23 (j hbg40 hbg42))))))))))))))))))))))))) ?_
  refine(borrow 8 (c22 hr41) (by simp[e0,e1,e2,e3,e4,e5,e6,e7,e8,e9,e10,e11,e12,e13,e14,e15,e16,e17,e18,e19,e20,e21,e22,e23,hbg40,hbg42]) rfl).mono ?_;rintro _ _ ⟨rfl,rfl⟩;try simp -dsimp -implicitDefEqProofs [e0,e1,e2,e3,e4,e5,e6,e7,e8,e9,e10,e11,e12,e13,e14,e15,e16,e17,e18,e19,e20,e21,e22,e23,hbg40,hbg42]
  exact hK _ _ ⟨rfl,rfl⟩
 rintro a J ⟨rfl,rfl⟩
 obtain rfl:=oi H
 refine Kp [4] ?_
 have z3:=nQ o9 (M4+6)
 have z4:=nQ o9 M5
 have z5:=nQ o9 (M5+1)
 have z6:=nQ o9 (M5+2)
 have z7:=nQ o9 (M5+3)
 have z8:=nQ o9 (M5+4)
 have z9:=nQ o9 (M5+5)
 have z10:=nQ o9 (M5+6)
 have z11:=nQ o9 (M5+7)
 have z12:=nQ (M4+6) M5
 have z13:=nQ (M4+6) (M5+1)
 have z14:=nQ (M4+5) M5
 have z15:=nQ (M4+6) (M5+2)
 have z16:=nQ (M4+4) M5
 have z17:=nQ (M4+6) (M5+3)
 have z18:=nQ (M4+3) M5
 have z19:=nQ (M4+6) (M5+4)
 have z20:=nQ (M4+2) M5
 have z21:=nQ (M4+6) (M5+5)
 have z22:=nQ (M4+1) M5
 have z23:=nQ (M4+6) (M5+6)
 have z24:=nQ M4 M5
 have z25:=nQ (M4+6) (M5+7)
 have z26:=nQ M4 (M5+1)
 refine Wr ?_
 exact⟨[.bool g42],by simp[z3,z4,z5,z6,z7,z8,z9,z10,z11,z12,z13,z14,z15,z16,z17,z18,z19,z20,z21,z22,z23,z24,z25,z26],4,by simp[eN,z3,z4,z5,z6,z7,z8,z9,z10,z11,z12,z13,z14,z15,z16,z17,z18,z19,z20,z21,z22,z23,z24,z25,z26]⟩
end Go.Proofs.YtolmjhgondilhaaGreat
