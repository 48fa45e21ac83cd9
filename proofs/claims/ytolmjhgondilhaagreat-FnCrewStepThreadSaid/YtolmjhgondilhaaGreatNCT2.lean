/- The contracts of functions of the program (CT2): each computes what its mirror computes. No conditions. -/
import Derived.Test.YtolmjhgondilhaaGreatNCT1
set_option linter.unusedSimpArgs false
set_option linter.unusedVariables false
set_option maxRecDepth 20000
set_option maxHeartbeats 4000000
namespace Go.Proofs.YtolmjhgondilhaaGreat
open Go Go.Abs Go.RowKit Tryz

theorem c159_o {p0:List gQuad}{r:List Bool}(H:uV p0=some r){J:AHeap}:ACalls Tryz.prog G 159 [.fsl (eL rQuad p0)] J (fun v J'=>∃M n0:Nat,J.next<=M/\J.next<=n0/\n0<M/\v=.sl n0 0 r.length/\J'=hp J.objs [(n0,some ⟨4,1,eL rB r⟩)] M):=by
 refine fr2 [] (by simp) (fun hlt=>?_) ⟨_,func159,rfl,rfl⟩
 generalize J.next=N0 at hlt ⊢
 refine fnK tok func159 ntmps159 results159 ?_
 simp only[argsA,Nat.reduceAdd,hpN]
 unfold uV at H
 refine qA [0] ?_
 refine Wsq [0] fun K1 hK1=>?_
 obtain⟨r1,hr1,H⟩:=bE H
 refine qD [0,6] (c103 hr1) ?_
 refine Ci H ?_ ?_<;>intro H
 .have q0:∀J i,bsA T 39 true i 0 [] J=some (.esl,J):=fun _ _=>rfl
  refine Sy tok [0] [2] q0 ?_
  cases oj H
  refine Kp [2] ?_
  refine gNilS Wre 2 4 1 [(N0+6,some ⟨4,1,eL rB ([]:List Bool)⟩)] [(2,.sl (N0+6) 0 ([]:List Bool).length)] (by simp(disch:=omega)) (by simp(disch:=omega) [eN]) [2] rfl ?_
  exact V2 j0 (N0+7) (N0+6)
 refine Js hK1 ?_
 obtain⟨l2,hl2,H⟩:=bE H
 refine qB [0,3] (mak39 hl2) ?_
 obtain⟨v3,hv3,H⟩:=bE H
 obtain⟨l4,hl4,H⟩:=bE H
 refine qB [0,3] (j (ixo39 hv3) (j (show _[0]? =some v3 from(zG hv3).2.2) (show List.set _ 0 _=l4 from(setx_iff.1 hl4).2.symm))) ?_
 try rw[<- zE hl4]
 refine Wsq [3] fun K2 hK2=>?_
 refine Wb ?_
 obtain⟨e1,hse1,H⟩:=bE H
 refine zR [0,3] (fun s a J=>∃M1 o1:Nat,N0<=M1/\N0<=o1/\o1<M1/\a=[(0,.fsl (eL rQuad p0)),(3,.sl o1 0 s.length)]/\J=hp E0 [(o1,some ⟨4,1,eL rB s⟩)] M1) (fun s x a J=>x=.exit 0/\Rc G 17 N0 (fun a J=>∃M2 o2:Nat,N0<=M2/\N0<=o2/\o2<M2/\a=[(3,.sl o2 0 s.length)]/\J=hp E0 [(o2,some ⟨4,1,eL rB s⟩)] M2) (AAct.keep a [3]) J) hse1 ?_ ?_ ?_
 .refine kp [0,3] ?_
  exact R2 (N0+11) (N0+6)
 .clear H hse1
  rintro s5 fl a J H ⟨M1,o1,fM1_0,fM1_1,fM1_2,rfl,rfl⟩ K3 O3 hK3 hO3
  unfold oA at H;dsimp only at H
  refine Wsq [0,3] fun K4 hK4=>?_
  obtain⟨r7,hr7,H⟩:=bE H
  refine jC tok [] [0,3,15] (fun a J=>∃M3:Nat,M1+3<=M3/\r7.2.length=s5.length/\a=[(0,.fsl (eL rQuad p0)),(3,.sl o1 0 s5.length),(15,.bool r7.1)]/\J=hp E0 [(o1,some ⟨4,1,eL rB r7.2⟩)] M3) (fun K hK=>?_) ?_
  .skip
   refine m0 ?_
   refine(c177 (H:=hr7) (by simp)).mono ?_;rintro _ _ ⟨M3,fM3_0,fM3_1,rfl,rfl⟩;simp only[hpN] at fM3_0
   refine m2 @hoS @hoN ?_
   exact hK _ _ ⟨M3,(by omega),fM3_1,rfl,rfl⟩
  rintro a J ⟨M3,fM3_0,fM3_1,rfl,rfl⟩
  try rw[<- fM3_1]
  refine Ci H ?_ ?_<;>intro H
  .refine Js hK4 ?_
   refine Wb ?_
   refine Wsk ?_
   show K3 _ _
   refine kE [0,3] fun a' ha=>?_
   cases oj H
   refine hK3 _ _ _ rfl ?_;rw[ha]
   exact R2 M3 o1
  obtain rfl:=oi H
  refine zK (hO3 _ _ _ _ rfl ⟨rfl,?_⟩)
  refine kr ?_
  exact R2 M3 o1
 intro x a J hx
 obtain⟨y6,rfl⟩:∃x,x=e1:=⟨_,rfl⟩
 obtain⟨rfl,b,U,hr,M2,o2,fM2_0,fM2_1,fM2_2,rfl,rfl⟩:=hx
 (try dsimp only at H)
 show K2 _ _
 refine hK2 _ _ (zH hr ?_)
 refine Rc.mk ?_
 refine qA [2] ?_
 obtain rfl:=oi H
 refine Kp [2] ?_
 exact V2 j0 (M2+2) o2

theorem c161 {p0:List Bool}{p1:Int}{r:Int}(H:qS p0 p1=some r):APure Tryz.prog G 161 [.fsl (eL rB p0),.int .i64 p1] (.int .i64 r):=by
 refine qK func161 ntmps161 results161 fun N0=>?_
 unfold qS at H
 refine qA [0,1] ?_
 refine qA [0,1,5] ?_
 refine Wsq [5] fun K1 hK1=>?_
 refine qA [0,1,5,6] ?_
 refine Wb ?_
 obtain⟨e1,hse1,H⟩:=bE H
 refine zR [0,1,5,6] (fun s a J=>∃M1:Nat,N0<=M1/\a=[(0,.fsl (eL rB p0)),(1,.int .i64 p1),(5,.int .i64 s.1),(6,.int .i64 s.2)]/\J=hp E0 [] M1) (fun s x a J=>x=.exit 0/\Rc G 19 N0 (fun a J=>∃M2:Nat,N0<=M2/\a=[(5,.int .i64 s)]/\J=hp E0 [] M2) (AAct.keep a [5]) J) hse1 ?_ ?_ ?_
 .refine kp [0,1,5,6] ?_
  exact R1 (N0+3)
 .clear H hse1
  rintro⟨s1,s2⟩ fl a J H ⟨M1,fM1_0,rfl,rfl⟩ K2 O2 hK2 hO2
  unfold xW at H;dsimp only at H
  refine Wsq [0,1,5,6] fun K3 hK3=>?_
  refine qA [0,1,5,6,9] ?_
  refine Ci H ?_ ?_<;>intro H
  .refine Js hK3 ?_
   refine Wsq [0,1,5,6] fun K4 hK4=>?_
   refine Wb ?_
   obtain⟨v4,hv4,H⟩:=bE H
   refine qB [0,1,5,6,15] (ix39 hv4) ?_
   refine Ci H ?_ ?_<;>intro H
   .refine qG hK4 ?_
    obtain rfl:=oi H
    refine qI hK2 ?_
    exact R1 (M1+13)
   refine Js hK4 ?_
   obtain rfl:=oi H
   refine qI hK2 ?_
   exact R1 (M1+10)
  cases oj H
  refine zK (hO2 _ _ _ _ rfl ⟨rfl,?_⟩)
  refine kr ?_
  exact R1 (M1+3)
 intro x a J hx
 obtain⟨y3,rfl⟩:∃x,x=e1:=⟨_,rfl⟩
 obtain⟨rfl,b,U,hr,M2,fM2_0,rfl,rfl⟩:=hx
 (try dsimp only at H)
 show K1 _ _
 refine hK1 _ _ (zH hr ?_)
 refine Rc.mk ?_
 refine qA [4] ?_
 cases oj H;exact W4

theorem c134 {p0:List gQuad}{r:(List gQuad)×Bool}(H:wJ p0=some r):APure Tryz.prog G 134 [.fsl (eL rQuad p0)] (.tup [.fsl (eL rQuad r.1),.bool r.2]):=by
 refine qK func134 ntmps134 results134 fun N0=>?_
 unfold wJ at H
 refine qA [0] ?_
 have q0:∀J i,bsA T 34 true i 0 [] J=some (.esl,J):=fun _ _=>rfl
 refine Sy tok [0] [0,4] q0 ?_
 refine Wsq [0,4] fun K1 hK1=>?_
 obtain⟨r1,hr1,H⟩:=bE H
 refine qD [0,4,12] (c103 hr1) ?_
 refine Ci H ?_ ?_<;>intro H
 .refine qA [2,3] ?_
  cases oj H;exact W4
 refine Js hK1 ?_
 obtain⟨r2,hr2,H⟩:=bE H
 refine jC tok [] [0,4,5] (fun a J=>∃M1 o1:Nat,N0+10<=M1/\N0+10<=o1/\o1<M1/\a=[(0,.fsl (eL rQuad p0)),(4,.esl),(5,.sl o1 0 r2.length)]/\J=hp E0 [(o1,some ⟨4,1,eL rB r2⟩)] M1) (fun K hK=>?_) ?_
 .skip
  refine m0 ?_
  refine mo (c159_o (H:=hr2)) fun M1 o1 fM1_0 fM1_1 fM1_2=>?_
  refine m2 @hoS @hoN ?_
  exact hK _ _ ⟨M1,o1,(by omega),(by omega),(by omega),rfl,rfl⟩
 rintro a J ⟨M1,o1,fM1_0,fM1_1,fM1_2,rfl,rfl⟩
 refine Wsq [0,4,5] fun K2 hK2=>?_
 refine qA [0,4,5,6] ?_
 refine Wb ?_
 obtain⟨e1,hse1,H⟩:=bE H
 refine zR [0,4,5,6] (fun s a J=>∃M2 o2:Nat,N0<=M2/\N0<=o2/\o2<M2/\a=[(0,.fsl (eL rQuad p0)),(4,.esl),(5,.sl o2 0 s.2.length),(6,.int .i64 s.1)]/\J=hp E0 [(o2,some ⟨4,1,eL rB s.2⟩)] M2) (fun s x a J=>x=.exit 0/\Rc G 71 N0 (fun a J=>∃M3 o3:Nat,N0<=M3/\N0<=o3/\o3<M3/\a=[(0,.fsl (eL rQuad p0)),(4,.esl),(5,.sl o3 0 s.length)]/\J=hp E0 [(o3,some ⟨4,1,eL rB s⟩)] M3) (AAct.keep a [0,4,5]) J) hse1 ?_ ?_ ?_
 .refine kp [0,4,5,6] ?_
  exact R2 (M1+1) o1
 .clear H hse1
  rintro⟨s3,s4⟩ fl a J H ⟨M2,o2,fM2_0,fM2_1,fM2_2,rfl,rfl⟩ K3 O3 hK3 hO3
  unfold yX at H;dsimp only at H
  refine Wsq [0,4,5,6] fun K4 hK4=>?_
  refine qA [0,4,5,6,19] ?_
  refine Ci H ?_ ?_<;>intro H
  .refine Js hK4 ?_
   refine Wsq [0,4,5,6] fun K5 hK5=>?_
   refine Wb ?_
   obtain⟨v6,hv6,H⟩:=bE H
   obtain⟨g9,hg9,H⟩:=bE H
   obtain⟨l10,hl10,H⟩:=bE H
   refine hG tok [] [0,4,5,6] (fun a J=>a=[(0,.fsl (eL rQuad p0)),(4,.esl),(5,.sl o2 0 s4.length),(6,.int .i64 s3)]/\J=hp E0 [(o2,some ⟨4,1,eL rB l10⟩)] (M2+21)) (fun K hK=>?_) ?_
   .skip
    refine m1 (j (ixo39 hv6) (j ((zG hv6).2.2) ((setx_iff.1 hl10).2.symm))) ?_
    cases hbg9:v6
    .cases oj (ifF hbg9 hg9)
     refine m1 (j (ixo39 hv6) (j ((zG hv6).2.2) (j ((setx_iff.1 hl10).2.symm) hbg9))) ?_
     exact hK _ _ ⟨rfl,rfl⟩
    replace hg9:=ifT hbg9 hg9
    obtain⟨v7,hv7,hg9⟩:=bE hg9
    obtain⟨r8,hr8,hg9⟩:=bE hg9
    cases oj hg9
    refine m1 (j (ixo39 hv6) (j ((zG hv6).2.2) (j ((setx_iff.1 hl10).2.symm) (j hbg9 (ix34 hv7))))) ?_
    refine(c160 hr8).app (m1 (j (ixo39 hv6) (j ((zG hv6).2.2) (j ((setx_iff.1 hl10).2.symm) (j hbg9 (ix34 hv7))))) ?_)
    exact hK _ _ ⟨rfl,rfl⟩
   rintro a J ⟨ha,rfl⟩
   (try rw[<- zE hl10] at ha);(try rw[<- zE hl10])
   refine hK5 _ _ ?_;rw[ha]
   refine Rc.mk ?_
   obtain rfl:=oi H
   refine qI hK3 ?_
   exact R2 (M2+24) o2
  cases oj H
  refine zK (hO3 _ _ _ _ rfl ⟨rfl,?_⟩)
  refine kr ?_
  exact R2 (M2+4) o2
 intro x a J hx
 obtain⟨y5,rfl⟩:∃x,x=e1:=⟨_,rfl⟩
 obtain⟨rfl,b,U,hr,M3,o3,fM3_0,fM3_1,fM3_2,rfl,rfl⟩:=hx
 (try dsimp only at H)
 show K2 _ _
 refine hK2 _ _ (zH hr ?_)
 refine Rc.mk ?_
 refine Wsq [4] fun K6 hK6=>?_
 refine qA [0,4,5,7] ?_
 refine Wb ?_
 obtain⟨e3,hse3,H⟩:=bE H
 refine zR [0,4,5,7] (fun s a J=>∃M4 o4 o5:Nat,N0<=M4/\N0<=o4/\o4<M4/\N0<=o5/\o5<M4/\¬o4=o5/\a=[(0,.fsl (eL rQuad p0)),(4,.sl o5 0 s.2.2.length),(5,.sl o4 0 s.2.1.length),(7,.int .i64 s.1)]/\J=hp E0 [(o4,some ⟨4,1,eL rB s.2.1⟩),(o5,some ⟨36,5,eL rQuad s.2.2⟩)] M4) (fun s x a J=>x=.exit 2/\Rc G 71 N0 (fun a J=>∃M5 o6:Nat,N0<=M5/\N0<=o6/\o6<M5/\a=[(4,.sl o6 0 s.length)]/\J=hp E0 [(o6,some ⟨36,5,eL rQuad s⟩)] M5) (AAct.keep a [4]) J) hse3 ?_ ?_ ?_
 .refine kp [0,4,5,7] ?_
  refine gNilS zH 4 36 5 [(o3,some ⟨4,1,eL rB y5⟩),(M3+1,some ⟨36,5,eL rQuad ([]:List gQuad)⟩)] [(0,.fsl (eL rQuad p0)),(4,.sl (M3+1) 0 ([]:List gQuad).length),(5,.sl o3 0 y5.length),(7,.int .i64 0)] (by simp(disch:=omega)) (by simp(disch:=omega) [eN]) [0,4,5,7] rfl ?_
  exact R3 (M3+2) o3 (M3+1)
 .clear H hse3
  rintro⟨s11,s12,s13⟩ fl a J H ⟨M4,o4,o5,fM4_0,fM4_1,fM4_2,fM4_3,fM4_4,fM4_5,rfl,rfl⟩ K7 O7 hK7 hO7
  unfold uJ at H;dsimp only at H
  refine Wsq [0,4,5,7] fun K8 hK8=>?_
  have e0:=nQ o4 o5
  refine qB [0,4,5,7,41] e0 ?_
  refine Ci H ?_ ?_<;>intro H
  .refine Js hK8 ?_
   refine Wsq [0,4,5,7] fun K9 hK9=>?_
   refine Wb ?_
   obtain⟨v15,hv15,H⟩:=bE H
   have e0:=nQ o4 o5
   have e1:=nQ o4 (M4+8)
   have e2:=nQ o5 (M4+8)
   refine qB [0,4,5,7,8] (j e0 (j e1 (j e2 (ix34 hv15)))) ?_
   refine Wsq [0,4,5,7,8] fun K10 hK10=>?_
   obtain⟨v16,hv16,H⟩:=bE H
   have e0:=nQ o4 o5
   have e1:=nQ o4 (M4+8)
   have e2:=nQ o5 (M4+8)
   refine qB [0,4,5,7,8,52] (j e0 (j e1 (j e2 (j (ixo39 hv16) ((zG hv16).2.2))))) ?_
   refine Ci H ?_ ?_<;>intro H
   .refine zK ?_
    show K9 _ _
    refine kE [0,4,5,7] fun a' ha=>?_
    refine hK9 _ _ ?_;rw[ha]
    refine Rc.mk ?_
    have e0:=nQ o4 o5
    have e1:=nQ o4 (M4+8)
    have e2:=nQ o5 (M4+8)
    obtain rfl:=oi H
    refine qJ (j e0 (j e1 e2)) hK7 ?_
    exact Rc.fin (zM (zM (AHeap.Sub.trans (AHeap.Sub.refl _) (zU rfl (by simp;try omega))))) ⟨M4+18,o4,o5,(by omega),(by omega),(by omega),(by omega),(by omega),(by omega),rfl,rfl⟩
   refine Js hK10 ?_
   obtain⟨j2,hj2,H⟩:=bE H
   refine kP (kN fun K11 hK11=>?_)
   have hJ1:∀a J,Rc G 71 N0 (fun a J=>∃M6:Nat,N0<=M6/\o4<M6/\o5<M6/\M4+8<M6/\a=[(0,.fsl (eL rQuad p0)),(4,.sl o5 0 s13.length),(5,.sl o4 0 s12.length),(7,.int .i64 s11),(8,.ptr (M4+8) 0 0)]/\J=hp E0 [(o4,some ⟨4,1,eL rB s12⟩),(o5,some ⟨36,5,eL rQuad s13⟩),(M4+8,some ⟨36,5,[[.int .i64 j2.Op,.int .i64 j2.Dst,.int .i64 j2.A,.int .i64 j2.B,.int .i64 j2.N]]⟩)] M6) (a.keep [0,4,5,7,8]) J->K11 a J:=by
    rintro a J ⟨b,U,hr,M6,fM6_0,fM6_1,fM6_2,fM6_3,rfl,rfl⟩
    refine hK11 _ _ (kG [0,4,5,7,8] (Wre hr ?_))
    obtain⟨l18,hl18,H⟩:=bE H
    have q1:∀J i,bsA T 34 true i 1 [(0,.agg [.int .i64 j2.Op,.int .i64 j2.Dst,.int .i64 j2.A,.int .i64 j2.B,.int .i64 j2.N])] J=some (.fsl (eL rQuad ([j2]:List gQuad)),J):=fun _ _=>rfl
    have e0:=nQ o4 o5
    have e1:=nQ o4 (M4+8)
    have e2:=nQ o4 (M6+3)
    have e3:=nQ o5 (M4+8)
    have e4:=nQ o5 (M6+3)
    have e5:=nQ (M4+8) (M6+3)
    have e6:=nQ (M4+5) M6
    refine Rb tok [2] (j e0 (j e1 (j e2 (j e3 (j e4 (j e5 (j e6 (j q1 (app34 hl18))))))))) hK9 ?_
    have e0:=nQ o4 (M4+8)
    have e1:=nQ o4 (M6+3)
    have e2:=nQ (M4+8) (M6+3)
    have e3:=nQ (M4+5) M6
    obtain rfl:=oi H
    refine qJ (j e0 (j e1 (j e2 e3))) hK7 ?_
    exact Rc.fin (zM (AHeap.Sub.trans (zM (AHeap.Sub.refl _)) (zU rfl (by simp;try omega)))) ⟨M6+8,o4,(M6+3),(by omega),(by omega),(by omega),(by omega),(by omega),(by omega),rfl,rfl⟩
   replace H:=hj2
   obtain⟨g19,hg19,H⟩:=bE H
   refine qF tok [0,4,5,7,8,60] ([(0,.fsl (eL rQuad p0)),(4,.sl o5 0 s13.length),(5,.sl o4 0 s12.length),(7,.int .i64 s11),(8,.ptr (M4+8) 0 0),(60,.bool g19)]) (hp E0 [(o4,some ⟨4,1,eL rB s12⟩),(o5,some ⟨36,5,eL rQuad s13⟩),(M4+8,some ⟨36,5,[[.int .i64 v15.Op,.int .i64 v15.Dst,.int .i64 v15.A,.int .i64 v15.B,.int .i64 v15.N]]⟩)] (M4+23)) (by
    intro K k
    have e0:=nQ o4 o5
    have e1:=nQ o4 (M4+8)
    have e2:=nQ o5 (M4+8)
    refine m1 (j e0 (j e1 e2)) ?_
    cases hbg19:ieq v15.Op 4
    .cases oj (ifF hbg19 hg19)
     exact m1 (j e0 (j e1 (j e2 hbg19))) k
    cases oj (ifT hbg19 hg19)
    refine m1 (j e0 (j e1 (j e2 hbg19))) ?_
    exact k) ?_
   refine Ci H ?_ ?_<;>intro H
   .obtain⟨r20,hr20,H⟩:=bE H
    refine hG tok [] [0,4,5,7,8] (fun a J=>a=[(0,.fsl (eL rQuad p0)),(4,.sl o5 0 s13.length),(5,.sl o4 0 s12.length),(7,.int .i64 s11),(8,.ptr (M4+8) 0 0)]/\J=hp E0 [(o4,some ⟨4,1,eL rB s12⟩),(o5,some ⟨36,5,eL rQuad s13⟩),(M4+8,some ⟨36,5,[[.int .i64 v15.Op,.int .i64 v15.Dst,.int .i64 v15.A,.int .i64 v15.B,.int .i64 r20]]⟩)] (M4+29)) (fun K hK=>?_) ?_
    .skip
     have e0:=nQ o4 o5
     have e1:=nQ o4 (M4+8)
     have e2:=nQ o5 (M4+8)
     refine m1 (j e0 (j e1 e2)) ?_
     refine(borrow 8 (c161 hr20) (by simp[e0,e1,e2]) rfl).mono ?_;rintro _ _ ⟨rfl,rfl⟩;try simp -dsimp -implicitDefEqProofs [e0,e1,e2]
     exact hK _ _ ⟨rfl,rfl⟩
    rintro a J ⟨ha,rfl⟩
    cases oj H
    refine hJ1 _ _ ?_;rw[ha]
    exact R1 (M4+29)
   refine Wsk ?_
   show K11 _ _
   refine kE [0,4,5,7,8] fun a' ha=>?_
   cases oj H
   refine hJ1 _ _ ?_;rw[ha]
   exact R1 (M4+23)
  cases oj H
  refine zK (hO7 _ _ _ _ rfl ⟨rfl,?_⟩)
  refine kr ?_
  exact Rc.fin (AHeap.Sub.trans (zM (AHeap.Sub.refl _)) (zU rfl (by simp;try omega))) ⟨M4+4,o5,(by omega),(by omega),(by omega),rfl,rfl⟩
 intro x a J hx
 obtain⟨y14,rfl⟩:∃x,x=e3:=⟨_,rfl⟩
 obtain⟨rfl,b,U,hr,M5,o6,fM5_0,fM5_1,fM5_2,rfl,rfl⟩:=hx
 (try dsimp only at H)
 show K6 _ _
 refine hK6 _ _ (zH hr ?_)
 refine Rc.mk ?_
 refine qA [2,3] ?_
 cases oj H;exact W4

theorem c118 {p0:List gQuad}{r:List gQuad}(H:oO p0=some r):APure Tryz.prog G 118 [.fsl (eL rQuad p0)] (.fsl (eL rQuad r)):=by
 refine qK func118 ntmps118 results118 fun N0=>?_
 unfold oO at H
 refine qA [0] ?_
 obtain⟨r1,hr1,H⟩:=bE H
 refine qD [3] (c130 hr1) ?_
 obtain⟨r2,hr2,H⟩:=bE H
 refine qD [5] (c131 hr2) ?_
 obtain⟨r3,hr3,H⟩:=bE H
 refine qD [7] (c132 hr3) ?_
 obtain⟨r4,hr4,H⟩:=bE H
 refine qD [9] (c133 hr4) ?_
 obtain⟨r5,hr5,H⟩:=bE H
 refine qD [11] (c134 hr5) ?_
 refine qA [2] ?_
 cases oj H;exact W4

theorem c101 {p0:List gQuad}{p1:Int}{r:(List gQuad)×Bool}(H:jV p0 p1=some r):APure Tryz.prog G 101 [.fsl (eL rQuad p0),.int .i64 p1] (.tup [.fsl (eL rQuad r.1),.bool r.2]):=by
 refine qK func101 ntmps101 results101 fun N0=>?_
 unfold jV at H
 refine qA [0,1] ?_
 refine Wsq [0,1] fun K1 hK1=>?_
 obtain⟨r1,hr1,H⟩:=bE H
 obtain⟨g3,hg3,H⟩:=bE H
 refine qF tok [0,1,15] ([(0,.fsl (eL rQuad p0)),(1,.int .i64 p1),(15,.bool g3)]) (hp E0 [] (N0+10)) (by
  intro K k
  refine m0 ?_
  refine(c103 hr1).app (m0 ?_)
  cases hbg3:bnot r1
  .replace hg3:=ifF hbg3 hg3
   obtain⟨r2,hr2,hg3⟩:=bE hg3
   cases oj hg3
   refine m1 hbg3 ?_
   refine(c66 hr2).app (m1 hbg3 ?_)
   exact k
  cases oj (ifT hbg3 hg3)
  refine m1 hbg3 ?_
  exact k) ?_
 refine Ci H ?_ ?_<;>intro H
 .have q0:∀J i,bsA T 34 true i 0 [] J=some (.esl,J):=fun _ _=>rfl
  refine Sy tok [0] [4,5] q0 ?_
  cases oj H;exact W4
 refine Js hK1 ?_
 obtain⟨l4,hl4,H⟩:=bE H
 have q1:∀J i,bsA T 34 true i 0 [] J=some (.esl,J):=fun _ _=>rfl
 refine Sz tok [0,2] [1,6] q1 (appf34 hl4) ?_
 refine Wsq [6] fun K2 hK2=>?_
 refine qA [1,6,7] ?_
 refine Wb ?_
 obtain⟨e1,hse1,H⟩:=bE H
 refine zR [1,6,7] (fun s a J=>∃M1:Nat,N0<=M1/\a=[(1,.int .i64 p1),(6,.fsl (eL rQuad s.1)),(7,.int .i64 s.2)]/\J=hp E0 [] M1) (fun s x a J=>x=.exit 0/\Rc G 28 N0 (fun a J=>∃M2:Nat,N0<=M2/\a=[(6,.fsl (eL rQuad s))]/\J=hp E0 [] M2) (AAct.keep a [6]) J) hse1 ?_ ?_ ?_
 .refine kp [1,6,7] ?_
  exact R1 (N0+15)
 .clear H hse1
  rintro⟨s5,s6⟩ fl a J H ⟨M1,fM1_0,rfl,rfl⟩ K3 O3 hK3 hO3
  unfold vA at H;dsimp only at H
  refine Wsq [1,6,7] fun K4 hK4=>?_
  refine qA [1,6,7,22] ?_
  refine Ci H ?_ ?_<;>intro H
  .refine Js hK4 ?_
   refine Wsq [1,6,7] fun K5 hK5=>?_
   refine Wb ?_
   obtain⟨r8,hr8,H⟩:=bE H
   refine Rt tok [] [1,6,7] (by intro K k;(repeat first|simp -dsimp -implicitDefEqProofs|refine(c118 hr8).app ?_);exact k) fun a ha=>?_
   refine hK5 _ _ ?_;rw[ha]
   refine Rc.mk ?_
   obtain rfl:=oi H
   refine qI hK3 ?_
   exact R1 (M1+9)
  cases oj H
  refine zK (hO3 _ _ _ _ rfl ⟨rfl,?_⟩)
  refine kr ?_
  exact R1 (M1+3)
 intro x a J hx
 obtain⟨y7,rfl⟩:∃x,x=e1:=⟨_,rfl⟩
 obtain⟨rfl,b,U,hr,M2,fM2_0,rfl,rfl⟩:=hx
 (try dsimp only at H)
 show K2 _ _
 refine hK2 _ _ (zH hr ?_)
 refine Rc.mk ?_
 refine qA [4,5] ?_
 cases oj H;exact W4

theorem c75 {p0:gL6Rd}{r:(List gQuad)×gL6Rd}(H:qP p0=some r){J:AHeap}{w0:Nat}{W0:List (List AV)}{r0_:Nat}(q0:J.objs w0=some ⟨105,2,W0⟩)(g0:W0[r0_]? =some [.fsl (eL rU8 p0.b),.int .i64 p0.p]):ACalls Tryz.prog G 75 [.ptr w0 r0_ 0] J (fun v J'=>∃M:Nat,J.next<=M/\v=.fsl (eL rQuad r.1)/\J'=hp J.objs [(w0,some ⟨105,2,W0.set r0_ [.fsl (eL rU8 r.2.b),.int .i64 r.2.p]⟩)] M):=by
 refine fr1 ([(w0,some ⟨105,2,W0⟩)]) (by simp[q0]) (fun hlt=>?_) ⟨_,func75,rfl,rfl⟩
 generalize J.next=N0 at hlt ⊢
 have lw0:w0<N0:=hlt _ (.head _) rfl
 have gs_W0:∀x,(W0.set r0_ x)[r0_]? =some x:=gsetW g0
 rw[<- kC g0]
 refine fnK tok func75 ntmps75 results75 ?_
 simp only[argsA,Nat.reduceAdd,hpN]
 unfold qP at H
 refine qB [0] gs_W0 ?_
 refine Wsq [0] fun K1 hK1=>?_
 obtain⟨r1,hr1,H⟩:=bE H
 refine Sm tok [] [0,9] (N0+4) (by
  intro K k
  refine m1 gs_W0 ?_
  refine mc gs_W0 (c41 (r0_:=r0_) (H:=hr1)) fun M1 fM1_0=>?_
  refine m1 (j gs_W0 (j @hoS @hoN)) ?_
  exact k M1 (by omega)) fun M1 fM1_0=>?_
 refine Ci H ?_ ?_<;>intro H
 .obtain⟨r2,hr2,H⟩:=bE H
  refine Sm tok [] [2] (M1+3) (by
   intro K k
   refine m1 gs_W0 ?_
   refine mc gs_W0 (c98 (r0_:=r0_) (H:=hr2)) fun M2 fM2_0=>?_
   refine m1 (j gs_W0 (j @hoS @hoN)) ?_
   exact k M2 (by omega)) fun M2 fM2_0=>?_
  obtain rfl:=oi H
  refine Kp [2] ?_
  exact V1 gs_W0 M2
 refine Js hK1 ?_
 obtain⟨r3,hr3,H⟩:=bE H
 obtain⟨r4,hr4,H⟩:=bE H
 refine Sm tok [] [0,3] (M1+8) (by
  intro K k
  refine m1 gs_W0 ?_
  refine mc gs_W0 (c100 (r0_:=r0_) (H:=hr3)) fun M3 fM3_0=>?_
  refine m1 (j gs_W0 (j @hoS @hoN)) ?_
  refine(c99 hr4).app (m1 (j gs_W0 (j @hoS @hoN)) ?_)
  exact k M3 (by omega)) fun M3 fM3_0=>?_
 refine Wsq [0,3] fun K2 hK2=>?_
 refine qB [0,3,20] gs_W0 ?_
 refine Ci H ?_ ?_<;>intro H
 .obtain⟨r5,hr5,H⟩:=bE H
  refine Sm tok [] [2] (M3+6) (by
   intro K k
   refine m1 gs_W0 ?_
   refine mc gs_W0 (c98 (r0_:=r0_) (H:=hr5)) fun M4 fM4_0=>?_
   refine m1 (j gs_W0 (j @hoS @hoN)) ?_
   exact k M4 (by omega)) fun M4 fM4_0=>?_
  obtain rfl:=oi H
  refine Kp [2] ?_
  exact V1 gs_W0 M4
 refine Js hK2 ?_
 obtain⟨r6,hr6,H⟩:=bE H
 obtain⟨v7,hv7,H⟩:=bE H
 obtain⟨r8,hr8,H⟩:=bE H
 refine Sm tok [] [5] (M3+13) (by
  intro K k
  refine m2 gs_W0 hv7 ?_
  refine mc (j gs_W0 hv7) (c41 (r0_:=r0_) (H:=hr6)) fun M5 fM5_0=>?_
  refine m1 (j gs_W0 (j hv7 (j @hoS @hoN))) ?_
  refine(c101 hr8).app (m1 (j gs_W0 (j hv7 (j @hoS @hoN))) ?_)
  exact k M5 (by omega)) fun M5 fM5_0=>?_
 refine qB [2] gs_W0 ?_
 obtain rfl:=oi H
 refine Kp [2] ?_
 exact V1 gs_W0 (M5+2)

theorem c42 {p0:gL6Rd}{r:(List (List gQuad))×gL6Rd}(H:hJ p0=some r){J:AHeap}{w0:Nat}{W0:List (List AV)}{r0_:Nat}(q0:J.objs w0=some ⟨105,2,W0⟩)(g0:W0[r0_]? =some [.fsl (eL rU8 p0.b),.int .i64 p0.p]):ACalls Tryz.prog G 42 [.ptr w0 r0_ 0] J (fun v J'=>∃M:Nat,J.next<=M/\v=.fsl (eL zA r.1)/\J'=hp J.objs [(w0,some ⟨105,2,W0.set r0_ [.fsl (eL rU8 r.2.b),.int .i64 r.2.p]⟩)] M):=by
 refine fr1 ([(w0,some ⟨105,2,W0⟩)]) (by simp[q0]) (fun hlt=>?_) ⟨_,func42,rfl,rfl⟩
 generalize J.next=N0 at hlt ⊢
 have lw0:w0<N0:=hlt _ (.head _) rfl
 have gs_W0:∀x,(W0.set r0_ x)[r0_]? =some x:=gsetW g0
 rw[<- kC g0]
 refine fnK tok func42 ntmps42 results42 ?_
 simp only[argsA,Nat.reduceAdd,hpN]
 unfold hJ at H
 refine qB [0] gs_W0 ?_
 have q0:∀J i,bsA T 24 true i 0 [] J=some (.esl,J):=fun _ _=>rfl
 refine Sz tok [0] [0,3] gs_W0 q0 ?_
 obtain⟨r1,hr1,H⟩:=bE H
 refine Sm tok [] [0,3,4] (N0+7) (by
  intro K k
  refine m1 gs_W0 ?_
  refine mc gs_W0 (c41 (r0_:=r0_) (H:=hr1)) fun M1 fM1_0=>?_
  refine m1 (j gs_W0 (j @hoS @hoN)) ?_
  exact k M1 (by omega)) fun M1 fM1_0=>?_
 refine Wsq [3] fun K1 hK1=>?_
 refine qB [0,3,4,5] gs_W0 ?_
 refine Wb ?_
 obtain⟨e1,hse1,H⟩:=bE H
 refine zR [0,3,4,5] (fun s a J=>∃M2 o1:Nat,N0<=M2/\N0<=o1/\o1<M2/\a=[(0,.ptr w0 r0_ 0),(3,.sl o1 0 s.2.2.length),(4,.int .i64 (iadd .i64 1 r1.1)),(5,.int .i64 s.1)]/\J=hp E0 [(w0,some ⟨105,2,W0.set r0_ [.fsl (eL rU8 s.2.1.b),.int .i64 s.2.1.p]⟩),(o1,some ⟨34,1,eL zA s.2.2⟩)] M2) (fun s x a J=>x=.exit 0/\Rc G 21 N0 (fun a J=>∃M3 o2:Nat,N0<=M3/\N0<=o2/\o2<M3/\a=[(3,.sl o2 0 s.2.length)]/\J=hp E0 [(w0,some ⟨105,2,W0.set r0_ [.fsl (eL rU8 s.1.b),.int .i64 s.1.p]⟩),(o2,some ⟨34,1,eL zA s.2⟩)] M3) (AAct.keep a [3]) J) hse1 ?_ ?_ ?_
 .refine kp [0,3,4,5] ?_
  refine gNilS zH 3 34 1 [(w0,some ⟨105,2,W0.set r0_ [.fsl (eL rU8 r1.2.b),.int .i64 r1.2.p]⟩),(M1+1,some ⟨34,1,eL zA ([]:List (List gQuad))⟩)] [(0,.ptr w0 r0_ 0),(3,.sl (M1+1) 0 ([]:List (List gQuad)).length),(4,.int .i64 (iadd .i64 1 r1.1)),(5,.int .i64 0)] (by simp(disch:=omega)) (by simp(disch:=omega) [eN]) [0,3,4,5] rfl ?_
  exact R2 (M1+2) (M1+1)
 .clear H hse1
  rintro⟨s2,s3,s4⟩ fl a J H ⟨M2,o1,fM2_0,fM2_1,fM2_2,rfl,rfl⟩ K2 O2 hK2 hO2
  unfold fJ at H;dsimp only at H
  refine Wsq [0,3,4,5] fun K3 hK3=>?_
  have e0:=nQ w0 o1
  refine qC [0,3,4,5,12] e0 gs_W0 ?_
  refine Ci H ?_ ?_<;>intro H
  .refine Js hK3 ?_
   refine Wsq [0,3,4,5] fun K4 hK4=>?_
   refine Wb ?_
   obtain⟨r7,hr7,H⟩:=bE H
   obtain⟨l8,hl8,H⟩:=bE H
   have q1:∀J i,bsA T 24 true i 1 [(0,.fsl (eL rQuad r7.1))] J=some (.fsl (eL zA ([r7.1]:List (List gQuad))),J):=fun _ _=>rfl
   refine hG tok [3] [0,3,4,5] (fun a J=>∃M4:Nat,M2+9<=M4/\a=[(0,.ptr w0 r0_ 0),(3,.sl (M2+7) 0 l8.length),(4,.int .i64 (iadd .i64 1 r1.1)),(5,.int .i64 s2)]/\J=hp E0 [(w0,some ⟨105,2,W0.set r0_ [.fsl (eL rU8 r7.2.b),.int .i64 r7.2.p]⟩),(M2+7,some ⟨34,1,eL zA l8⟩)] M4) (fun K hK=>?_) ?_
   .skip
    have e0:=nQ w0 o1
    have e1:=nQ w0 (M2+7)
    have e2:=nQ o1 (M2+7)
    refine m1 (j e0 (j e1 (j e2 (j gs_W0 (j q1 (app24 hl8)))))) ?_
    refine mc (j e0 (j e1 (j e2 (j gs_W0 (j q1 (app24 hl8)))))) (c75 (r0_:=r0_) (H:=hr7)) fun M4 fM4_0=>?_
    refine m1 (j e0 (j e1 (j e2 (j gs_W0 (j q1 (j (app24 hl8) (j @hoS @hoN))))))) ?_
    exact hK _ _ ⟨M4,(by omega),rfl,rfl⟩
   rintro a J ⟨M4,fM4_0,ha,rfl⟩
   refine hK4 _ _ ?_;rw[ha]
   refine Rc.mk ?_
   have e0:=nQ w0 (M2+7)
   obtain rfl:=oi H
   refine qJ (j e0 gs_W0) hK2 ?_
   exact R2 (M4+3) (M2+7)
  cases oj H
  refine zK (hO2 _ _ _ _ rfl ⟨rfl,?_⟩)
  refine kr ?_
  exact R2 (M2+3) o1
 intro x a J hx
 obtain⟨y5,y6⟩:=e1
 obtain⟨rfl,b,U,hr,M3,o2,fM3_0,fM3_1,fM3_2,rfl,rfl⟩:=hx
 (try dsimp only at H)
 show K1 _ _
 refine hK1 _ _ (zH hr ?_)
 refine Rc.mk ?_
 have e0:=nQ w0 o2
 refine qC [2] e0 gs_W0 ?_
 obtain rfl:=oi H
 refine Kp [2] ?_
 have z0:=nQ w0 o2
 refine gFrz Wre 4 [o2] [(w0,some ⟨105,2,W0.set r0_ [.fsl (eL rU8 y5.b),.int .i64 y5.p]⟩)] [(2,.fsl (eL zA y6))] (by simp[z0]) (cutD (by simp[z0])) ?_
 exact V1 gs_W0 (M3+2)

theorem c46 {p0:List Int}{r:Bool}(H:pF p0=some r):APure Tryz.prog G 46 [.fsl (eL rI p0)] (.bool r):=by
 refine qK func46 ntmps46 results46 fun N0=>?_
 unfold pF at H
 refine qA [0] ?_
 refine Wsq [0] fun K1 hK1=>?_
 refine qA [0,3] ?_
 refine Wb ?_
 obtain⟨e1,hse1,H⟩:=bE H
 refine zR [0,3] (fun s a J=>∃M1:Nat,N0<=M1/\a=[(0,.fsl (eL rI p0)),(3,.int .i64 s)]/\J=hp E0 [] M1) (fun e x a J=>match e with|.inl s=>x=.exit 0/\Rc G 19 N0 (fun a J=>∃M2:Nat,N0<=M2/\a=[(0,.fsl (eL rI p0))]/\J=hp E0 [] M2) (AAct.keep a [0]) J|.inr s=>x=.ret/\∃vs,resA T J a [.tmp 2]=some vs/\∃d,thawA (fun _=>true) J d (tupA vs)=.bool s) hse1 ?_ ?_ ?_
 .refine kp [0,3] ?_
  exact R1 (N0+2)
 .clear H hse1
  rintro s1 fl a J H ⟨M1,fM1_0,rfl,rfl⟩ K2 O2 hK2 hO2
  unfold wH at H;dsimp only at H
  refine Wsq [0,3] fun K3 hK3=>?_
  refine qA [0,3,7] ?_
  refine Ci H ?_ ?_<;>intro H
  .refine Js hK3 ?_
   refine Wsq [0,3] fun K4 hK4=>?_
   refine Wb ?_
   obtain⟨v2,hv2,H⟩:=bE H
   obtain⟨r3,hr3,H⟩:=bE H
   refine qE [0,3,15] (ix23 hv2) (c66 hr3) ?_
   refine Ci H ?_ ?_<;>intro H
   .refine qA [2] ?_
    cases oj H
    refine Kp [2] ?_
    refine Wr (hO2 _ _ _ _ rfl ⟨rfl,?_⟩)
    exact⟨[.bool false],by simp,4,by simp[eN]⟩
   refine Js hK4 ?_
   obtain rfl:=oi H
   refine qI hK2 ?_
   exact R1 (M1+13)
  cases oj H
  refine zK (hO2 _ _ _ _ rfl ⟨rfl,?_⟩)
  refine kr ?_
  exact R1 (M1+4)
 intro x a J hx
 rcases e1 with⟨⟩|r0
 .obtain⟨rfl,b,U,hr,M2,fM2_0,rfl,rfl⟩:=hx
  (try dsimp only at H)
  show K1 _ _
  refine hK1 _ _ (zH hr ?_)
  refine Rc.mk ?_
  refine qA [2] ?_
  cases oj H;exact W4
 obtain⟨rfl,hx2⟩:=hx
 (try dsimp only at H)
 cases oj H;first|exact hx2|(simp only[List.set_set] at hx2 ⊢;exact hx2)

theorem c47 {p0:(List (List gQuad))}{r:(List (List gQuad))}(H:tB p0=some r):APure Tryz.prog G 47 [.fsl (eL zA p0)] (.fsl (eL zA r)):=by
 refine qK func47 ntmps47 results47 fun N0=>?_
 unfold tB at H
 refine qA [0] ?_
 have q0:∀J i,bsA T 24 true i 0 [] J=some (.esl,J):=fun _ _=>rfl
 refine Sy tok [0] [0,3] q0 ?_
 refine Wsq [3] fun K1 hK1=>?_
 refine qA [0,3,4] ?_
 refine Wb ?_
 obtain⟨e1,hse1,H⟩:=bE H
 refine zR [0,3,4] (fun s a J=>∃M1 o1:Nat,N0<=M1/\N0<=o1/\o1<M1/\a=[(0,.fsl (eL zA p0)),(3,.sl o1 0 s.2.length),(4,.int .i64 s.1)]/\J=hp E0 [(o1,some ⟨34,1,eL zA s.2⟩)] M1) (fun s x a J=>x=.exit 0/\Rc G 22 N0 (fun a J=>∃M2 o2:Nat,N0<=M2/\N0<=o2/\o2<M2/\a=[(3,.sl o2 0 s.length)]/\J=hp E0 [(o2,some ⟨34,1,eL zA s⟩)] M2) (AAct.keep a [3]) J) hse1 ?_ ?_ ?_
 .refine kp [0,3,4] ?_
  refine gNilS zH 3 34 1 [(N0+4,some ⟨34,1,eL zA ([]:List (List gQuad))⟩)] [(0,.fsl (eL zA p0)),(3,.sl (N0+4) 0 ([]:List (List gQuad)).length),(4,.int .i64 0)] (by simp(disch:=omega)) (by simp(disch:=omega) [eN]) [0,3,4] rfl ?_
  exact R2 (N0+5) (N0+4)
 .clear H hse1
  rintro⟨s1,s2⟩ fl a J H ⟨M1,o1,fM1_0,fM1_1,fM1_2,rfl,rfl⟩ K2 O2 hK2 hO2
  unfold wD at H;dsimp only at H
  refine Wsq [0,3,4] fun K3 hK3=>?_
  refine qA [0,3,4,9] ?_
  refine Ci H ?_ ?_<;>intro H
  .refine Js hK3 ?_
   refine Wsq [0,3,4] fun K4 hK4=>?_
   refine Wb ?_
   obtain⟨v4,hv4,H⟩:=bE H
   obtain⟨l5,hl5,H⟩:=bE H
   obtain⟨l6,hl6,H⟩:=bE H
   have q1:∀J i,bsA T 34 true i 0 [] J=some (.esl,J):=fun _ _=>rfl
   have q2:∀J i,bsA T 24 true i 1 [(0,.fsl (eL rQuad l5))] J=some (.fsl (eL zA ([l5]:List (List gQuad))),J):=fun _ _=>rfl
   have e0:=nQ o1 (M1+12)
   refine Rb tok [1,6,7] (j e0 (j q1 (j (ix24 hv4) (j (appf34 hl5) (j q2 (app24 hl6)))))) hK4 ?_
   obtain rfl:=oi H
   refine qI hK2 ?_
   exact R2 (M1+17) (M1+12)
  cases oj H
  refine zK (hO2 _ _ _ _ rfl ⟨rfl,?_⟩)
  refine kr ?_
  exact R2 (M1+4) o1
 intro x a J hx
 obtain⟨y3,rfl⟩:∃x,x=e1:=⟨_,rfl⟩
 obtain⟨rfl,b,U,hr,M2,o2,fM2_0,fM2_1,fM2_2,rfl,rfl⟩:=hx
 (try dsimp only at H)
 show K1 _ _
 refine hK1 _ _ (zH hr ?_)
 refine Rc.mk ?_
 refine qA [2] ?_
 cases oj H;exact W4

theorem c48 {p0:List Int}{r:List gBox}(H:pC p0=some r):APure Tryz.prog G 48 [.fsl (eL rI p0)] (.fsl (eL rBox r)):=by
 refine qK func48 ntmps48 results48 fun N0=>?_
 unfold pC at H
 refine qA [0] ?_
 have q0:∀J i,bsA T 28 true i 0 [] J=some (.esl,J):=fun _ _=>rfl
 refine Sy tok [0] [0,3] q0 ?_
 refine Wsq [3] fun K1 hK1=>?_
 refine qA [0,3,4] ?_
 refine Wb ?_
 obtain⟨e1,hse1,H⟩:=bE H
 refine zR [0,3,4] (fun s a J=>∃M1 o1:Nat,N0<=M1/\N0<=o1/\o1<M1/\a=[(0,.fsl (eL rI p0)),(3,.sl o1 0 s.2.length),(4,.int .i64 s.1)]/\J=hp E0 [(o1,some ⟨103,2,eL rBox s.2⟩)] M1) (fun s x a J=>x=.exit 0/\Rc G 22 N0 (fun a J=>∃M2 o2:Nat,N0<=M2/\N0<=o2/\o2<M2/\a=[(3,.sl o2 0 s.length)]/\J=hp E0 [(o2,some ⟨103,2,eL rBox s⟩)] M2) (AAct.keep a [3]) J) hse1 ?_ ?_ ?_
 .refine kp [0,3,4] ?_
  refine gNilS zH 3 103 2 [(N0+4,some ⟨103,2,eL rBox ([]:List gBox)⟩)] [(0,.fsl (eL rI p0)),(3,.sl (N0+4) 0 ([]:List gBox).length),(4,.int .i64 0)] (by simp(disch:=omega)) (by simp(disch:=omega) [eN]) [0,3,4] rfl ?_
  exact R2 (N0+5) (N0+4)
 .clear H hse1
  rintro⟨s1,s2⟩ fl a J H ⟨M1,o1,fM1_0,fM1_1,fM1_2,rfl,rfl⟩ K2 O2 hK2 hO2
  unfold wF at H;dsimp only at H
  refine Wsq [0,3,4] fun K3 hK3=>?_
  refine qA [0,3,4,9] ?_
  refine Ci H ?_ ?_<;>intro H
  .refine Js hK3 ?_
   refine Wsq [0,3,4] fun K4 hK4=>?_
   refine Wb ?_
   obtain⟨v4,hv4,H⟩:=bE H
   obtain⟨l5,hl5,H⟩:=bE H
   have q1:∀J i,bsA T 23 true i 0 [] J=some (.esl,J):=fun _ _=>rfl
   have q2:∀J i,bsA T 28 true i 1 [(0,.agg [.int .i64 v4,.fsl []])] J=some (.fsl (eL rBox ([(⟨v4,([]:List Int)⟩:gBox)]:List gBox)),J):=fun _ _=>rfl
   have e0:=nQ o1 (M1+12)
   refine Rb tok [5,7] (j e0 (j (ix23 hv4) (j q1 (j q2 (app28 hl5))))) hK4 ?_
   obtain rfl:=oi H
   refine qI hK2 ?_
   exact R2 (M1+17) (M1+12)
  cases oj H
  refine zK (hO2 _ _ _ _ rfl ⟨rfl,?_⟩)
  refine kr ?_
  exact R2 (M1+4) o1
 intro x a J hx
 obtain⟨y3,rfl⟩:∃x,x=e1:=⟨_,rfl⟩
 obtain⟨rfl,b,U,hr,M2,o2,fM2_0,fM2_1,fM2_2,rfl,rfl⟩:=hx
 (try dsimp only at H)
 show K1 _ _
 refine hK1 _ _ (zH hr ?_)
 refine Rc.mk ?_
 refine qA [2] ?_
 cases oj H;exact W4

theorem c79 {p0:List Int}{p1:Int}{r:Bool}(H:tL p0 p1=some r):APure Tryz.prog G 79 [.fsl (eL rI p0),.int .i64 p1] (.bool r):=by
 refine qK func79 ntmps79 results79 fun N0=>?_
 unfold tL at H
 refine qA [0,1] ?_
 refine Wsq [0] fun K1 hK1=>?_
 refine qA [0,9] ?_
 refine Ci H ?_ ?_<;>intro H
 .refine qA [4] ?_
  cases oj H;exact W4
 refine Js hK1 ?_
 refine Wsq [] fun K2 hK2=>?_
 refine qA [0,5] ?_
 refine Wb ?_
 obtain⟨e1,hse1,H⟩:=bE H
 refine zR [0,5] (fun s a J=>∃M1:Nat,N0<=M1/\a=[(0,.fsl (eL rI p0)),(5,.int .i64 s)]/\J=hp E0 [] M1) (fun e x a J=>match e with|.inl s=>x=.exit 0/\Rc G 22 N0 (fun a J=>∃M2:Nat,N0<=M2/\a=[]/\J=hp E0 [] M2) (AAct.keep a []) J|.inr s=>x=.ret/\∃vs,resA T J a [.tmp 4]=some vs/\∃d,thawA (fun _=>true) J d (tupA vs)=.bool s) hse1 ?_ ?_ ?_
 .refine kp [0,5] ?_
  exact R1 (N0+6)
 .clear H hse1
  rintro s1 fl a J H ⟨M1,fM1_0,rfl,rfl⟩ K3 O3 hK3 hO3
  unfold vP at H;dsimp only at H
  refine Wsq [0,5] fun K4 hK4=>?_
  refine qA [0,5,13] ?_
  refine Ci H ?_ ?_<;>intro H
  .refine Js hK4 ?_
   refine Wsq [0,5] fun K5 hK5=>?_
   refine Wb ?_
   obtain⟨v2,hv2,H⟩:=bE H
   obtain⟨r3,hr3,H⟩:=bE H
   refine qE [0,5,21] (ix23 hv2) (c106 hr3) ?_
   refine Ci H ?_ ?_<;>intro H
   .refine qA [4] ?_
    cases oj H
    refine Kp [4] ?_
    refine Wr (hO3 _ _ _ _ rfl ⟨rfl,?_⟩)
    exact⟨[.bool false],by simp,4,by simp[eN]⟩
   refine Js hK5 ?_
   obtain rfl:=oi H
   refine qI hK3 ?_
   exact R1 (M1+13)
  cases oj H
  refine zK (hO3 _ _ _ _ rfl ⟨rfl,?_⟩)
  refine kr ?_
  exact R1 (M1+4)
 intro x a J hx
 rcases e1 with⟨⟩|r0
 .obtain⟨rfl,b,U,hr,M2,fM2_0,rfl,rfl⟩:=hx
  (try dsimp only at H)
  show K2 _ _
  refine hK2 _ _ (zH hr ?_)
  refine Rc.mk ?_
  refine qA [4] ?_
  cases oj H;exact W4
 obtain⟨rfl,hx2⟩:=hx
 (try dsimp only at H)
 cases oj H;first|exact hx2|(simp only[List.set_set] at hx2 ⊢;exact hx2)

theorem c102 {p0:gBox}{r:Bool}(H:vB p0=some r):APure Tryz.prog G 102 [.agg [.int .i64 p0.Room,.fsl (eL rI p0.Items)]] (.bool r):=by
 refine qK func102 ntmps102 results102 fun N0=>?_
 unfold vB at H
 refine S0 tok [0] [1] ?_
 obtain⟨r1,hr1,H⟩:=bE H
 obtain⟨g2,hg2,H⟩:=bE H
 obtain⟨g4,hg4,H⟩:=bE H
 refine qF tok [2] ([(2,.bool g4)]) (hp E0 [] (N0+22)) (by
  intro K k
  refine m0 ?_
  refine(c66 hr1).app (m0 ?_)
  cases hbg2:r1
  .cases oj (ifF hbg2 hg2)
   cases oj (ifF rfl hg4)
   exact m1 hbg2 k
  cases oj (ifT hbg2 hg2)
  refine m1 hbg2 ?_
  cases hbg4:(ile (ilen p0.Items) p0.Room)
  .cases oj (ifF hbg4 hg4)
   exact m2 hbg2 hbg4 k
  replace hg4:=ifT hbg4 hg4
  obtain⟨r3,hr3,hg4⟩:=bE hg4
  cases oj hg4
  refine m2 hbg2 hbg4 ?_
  refine(c79 hr3).app (m2 hbg2 hbg4 ?_)
  exact k) ?_
 cases oj H;exact W4

theorem c76 {p0:List gBox}{r:Bool}(H:pE p0=some r):APure Tryz.prog G 76 [.fsl (eL rBox p0)] (.bool r):=by
 refine qK func76 ntmps76 results76 fun N0=>?_
 unfold pE at H
 refine qA [0] ?_
 refine Wsq [0] fun K1 hK1=>?_
 refine qA [0,3] ?_
 refine Wb ?_
 obtain⟨e1,hse1,H⟩:=bE H
 refine zR [0,3] (fun s a J=>∃M1:Nat,N0<=M1/\a=[(0,.fsl (eL rBox p0)),(3,.int .i64 s)]/\J=hp E0 [] M1) (fun e x a J=>match e with|.inl s=>x=.exit 0/\Rc G 19 N0 (fun a J=>∃M2:Nat,N0<=M2/\a=[(0,.fsl (eL rBox p0))]/\J=hp E0 [] M2) (AAct.keep a [0]) J|.inr s=>x=.ret/\∃vs,resA T J a [.tmp 2]=some vs/\∃d,thawA (fun _=>true) J d (tupA vs)=.bool s) hse1 ?_ ?_ ?_
 .refine kp [0,3] ?_
  exact R1 (N0+2)
 .clear H hse1
  rintro s1 fl a J H ⟨M1,fM1_0,rfl,rfl⟩ K2 O2 hK2 hO2
  unfold wG at H;dsimp only at H
  refine Wsq [0,3] fun K3 hK3=>?_
  refine qA [0,3,7] ?_
  refine Ci H ?_ ?_<;>intro H
  .refine Js hK3 ?_
   refine Wsq [0,3] fun K4 hK4=>?_
   refine Wb ?_
   obtain⟨v2,hv2,H⟩:=bE H
   obtain⟨r3,hr3,H⟩:=bE H
   refine qE [0,3,15] (ix28 hv2) (c102 hr3) ?_
   refine Ci H ?_ ?_<;>intro H
   .refine qA [2] ?_
    cases oj H
    refine Kp [2] ?_
    refine Wr (hO2 _ _ _ _ rfl ⟨rfl,?_⟩)
    exact⟨[.bool false],by simp,4,by simp[eN]⟩
   refine Js hK4 ?_
   obtain rfl:=oi H
   refine qI hK2 ?_
   exact R1 (M1+13)
  cases oj H
  refine zK (hO2 _ _ _ _ rfl ⟨rfl,?_⟩)
  refine kr ?_
  exact R1 (M1+4)
 intro x a J hx
 rcases e1 with⟨⟩|r0
 .obtain⟨rfl,b,U,hr,M2,fM2_0,rfl,rfl⟩:=hx
  (try dsimp only at H)
  show K1 _ _
  refine hK1 _ _ (zH hr ?_)
  refine Rc.mk ?_
  refine qA [2] ?_
  cases oj H;exact W4
 obtain⟨rfl,hx2⟩:=hx
 (try dsimp only at H)
 cases oj H;first|exact hx2|(simp only[List.set_set] at hx2 ⊢;exact hx2)

theorem c104 {p0:gThread}{p1:Int}{r:Bool}(H:mB p0 p1=some r):APure Tryz.prog G 104 [.agg [.fsl (eL rI p0.Regs),.int .i64 p0.Pc],.int .i64 p1] (.bool r):=by
 refine qK func104 ntmps104 results104 fun N0=>?_
 unfold mB at H
 refine S0 tok [0] [1,2] ?_
 obtain⟨r1,hr1,H⟩:=bE H
 obtain⟨g3,hg3,H⟩:=bE H
 refine qF tok [4] ([(4,.bool g3)]) (hp E0 [] (N0+13)) (by
  intro K k
  refine m0 ?_
  refine(c79 hr1).app (m0 ?_)
  cases hbg3:r1
  .cases oj (ifF hbg3 hg3)
   exact m1 hbg3 k
  replace hg3:=ifT hbg3 hg3
  obtain⟨r2,hr2,hg3⟩:=bE hg3
  cases oj hg3
  refine m1 hbg3 ?_
  refine(c66 hr2).app (m1 hbg3 ?_)
  exact k) ?_
 cases oj H;exact W4

theorem c77 {p0:gThread}{p1:List gQuad}{r:Bool}(H:yT p0 p1=some r):APure Tryz.prog G 77 [.agg [.fsl (eL rI p0.Regs),.int .i64 p0.Pc],.fsl (eL rQuad p1)] (.bool r):=by
 refine qK func77 ntmps77 results77 fun N0=>?_
 unfold yT at H
 refine S0 tok [0] [1,2] ?_
 obtain⟨r1,hr1,H⟩:=bE H
 obtain⟨g3,hg3,H⟩:=bE H
 refine qF tok [4] ([(4,.bool g3)]) (hp E0 [] (N0+11)) (by
  intro K k
  refine m0 ?_
  refine(c103 hr1).app (m0 ?_)
  cases hbg3:r1
  .cases oj (ifF hbg3 hg3)
   exact m1 hbg3 k
  replace hg3:=ifT hbg3 hg3
  obtain⟨r2,hr2,hg3⟩:=bE hg3
  cases oj hg3
  refine m1 hbg3 ?_
  refine(c104 hr2).app (m1 hbg3 ?_)
  exact k) ?_
 cases oj H;exact W4

theorem c105 {p0:gQuad}{p1:Int}{r:Bool}(H:mA p0 p1=some r):APure Tryz.prog G 105 [.agg [.int .i64 p0.Op,.int .i64 p0.Dst,.int .i64 p0.A,.int .i64 p0.B,.int .i64 p0.N],.int .i64 p1] (.bool r):=by
 refine qK func105 ntmps105 results105 fun N0=>?_
 unfold mA at H
 refine S0 tok [0] [1,2] ?_
 obtain⟨g1,hg1,H⟩:=bE H
 obtain⟨g2,hg2,H⟩:=bE H
 refine qF tok [4] ([(4,.bool g2)]) (hp E0 [] (N0+17)) (by
  intro K k
  refine m0 ?_
  cases hbg1:ine p0.Op 6
  .cases oj (ifF hbg1 hg1)
   cases oj (ifF rfl hg2)
   exact m1 hbg1 k
  cases oj (ifT hbg1 hg1)
  refine m1 hbg1 ?_
  cases hbg2:(ine p0.Op 7)
  .cases oj (ifF hbg2 hg2)
   exact m2 hbg1 hbg2 k
  cases oj (ifT hbg2 hg2)
  refine m2 hbg1 hbg2 ?_
  exact k) ?_
 cases oj H;exact W4

theorem c78 {p0:List gQuad}{p1:Int}{r:Bool}(H:oY p0 p1=some r):APure Tryz.prog G 78 [.fsl (eL rQuad p0),.int .i64 p1] (.bool r):=by
 refine qK func78 ntmps78 results78 fun N0=>?_
 unfold oY at H
 refine qA [0,1] ?_
 refine Wsq [] fun K1 hK1=>?_
 refine qA [0,1,5] ?_
 refine Wb ?_
 obtain⟨e1,hse1,H⟩:=bE H
 refine zR [0,1,5] (fun s a J=>∃M1:Nat,N0<=M1/\a=[(0,.fsl (eL rQuad p0)),(1,.int .i64 p1),(5,.int .i64 s)]/\J=hp E0 [] M1) (fun e x a J=>match e with|.inl s=>x=.exit 0/\Rc G 19 N0 (fun a J=>∃M2:Nat,N0<=M2/\a=[]/\J=hp E0 [] M2) (AAct.keep a []) J|.inr s=>x=.ret/\∃vs,resA T J a [.tmp 4]=some vs/\∃d,thawA (fun _=>true) J d (tupA vs)=.bool s) hse1 ?_ ?_ ?_
 .refine kp [0,1,5] ?_
  exact R1 (N0+2)
 .clear H hse1
  rintro s1 fl a J H ⟨M1,fM1_0,rfl,rfl⟩ K2 O2 hK2 hO2
  unfold vV at H;dsimp only at H
  refine Wsq [0,1,5] fun K3 hK3=>?_
  refine qA [0,1,5,9] ?_
  refine Ci H ?_ ?_<;>intro H
  .refine Js hK3 ?_
   refine Wsq [0,1,5] fun K4 hK4=>?_
   refine Wb ?_
   obtain⟨v2,hv2,H⟩:=bE H
   obtain⟨r3,hr3,H⟩:=bE H
   refine qE [0,1,5,18] (ix34 hv2) (c105 hr3) ?_
   refine Ci H ?_ ?_<;>intro H
   .refine qA [4] ?_
    cases oj H
    refine Kp [4] ?_
    refine Wr (hO2 _ _ _ _ rfl ⟨rfl,?_⟩)
    exact⟨[.bool false],by simp,4,by simp[eN]⟩
   refine Js hK4 ?_
   obtain rfl:=oi H
   refine qI hK2 ?_
   exact R1 (M1+14)
  cases oj H
  refine zK (hO2 _ _ _ _ rfl ⟨rfl,?_⟩)
  refine kr ?_
  exact R1 (M1+4)
 intro x a J hx
 rcases e1 with⟨⟩|r0
 .obtain⟨rfl,b,U,hr,M2,fM2_0,rfl,rfl⟩:=hx
  (try dsimp only at H)
  show K1 _ _
  refine hK1 _ _ (zH hr ?_)
  refine Rc.mk ?_
  refine qA [4] ?_
  cases oj H;exact W4
 obtain⟨rfl,hx2⟩:=hx
 (try dsimp only at H)
 cases oj H;first|exact hx2|(simp only[List.set_set] at hx2 ⊢;exact hx2)

theorem c49 {p0:gCrew}{r:Bool}(H:xM p0=some r):APure Tryz.prog G 49 [.agg [.fsl (eL zA p0.Codes),.fsl (eL zB p0.Threads),.fsl (eL rBox p0.Boxes),.int .i64 p0.Turn,.int .i64 p0.Idle,.fsl (eL rI p0.Out)]] (.bool r):=by
 refine qK func49 ntmps49 results49 fun N0=>?_
 unfold xM at H
 refine S0 tok [0] [1] ?_
 refine qA [1,3] ?_
 refine Wsq [1,3] fun K1 hK1=>?_
 obtain⟨r1,hr1,H⟩:=bE H
 obtain⟨g2,hg2,H⟩:=bE H
 obtain⟨g4,hg4,H⟩:=bE H
 obtain⟨g6,hg6,H⟩:=bE H
 obtain⟨g8,hg8,H⟩:=bE H
 refine qF tok [1,3,38] ([(1,.fptr [.fsl (eL zA p0.Codes),.fsl (eL zB p0.Threads),.fsl (eL rBox p0.Boxes),.int .i64 p0.Turn,.int .i64 p0.Idle,.fsl (eL rI p0.Out)] 0),(3,.int .i64 (ilen p0.Threads)),(38,.bool g8)]) (hp E0 [] (N0+37)) (by
  intro K k
  refine m0 ?_
  refine(c66 hr1).app (m0 ?_)
  cases hbg2:bnot r1
  .cases oj (ifF hbg2 hg2)
   refine m1 hbg2 ?_
   cases hbg4:(ine (ilen p0.Codes) (ilen p0.Threads))
   .replace hg4:=ifF hbg4 hg4
    obtain⟨r3,hr3,hg4⟩:=bE hg4
    obtain rfl:=oi hg4
    refine m2 hbg2 hbg4 ?_
    refine(c76 hr3).app (m2 hbg2 hbg4 ?_)
    cases hbg6:(bnot r3)
    .replace hg6:=ifF hbg6 hg6
     obtain⟨r5,hr5,hg6⟩:=bE hg6
     obtain rfl:=oi hg6
     refine m1 (j hbg2 (j hbg4 hbg6)) ?_
     refine(c66 hr5).app (m1 (j hbg2 (j hbg4 hbg6)) ?_)
     cases hbg8:(bnot r5)
     .replace hg8:=ifF hbg8 hg8
      obtain⟨r7,hr7,hg8⟩:=bE hg8
      cases oj hg8
      refine m1 (j hbg2 (j hbg4 (j hbg6 hbg8))) ?_
      refine(c66 hr7).app (m1 (j hbg2 (j hbg4 (j hbg6 hbg8))) ?_)
      exact k
     cases oj (ifT hbg8 hg8)
     exact m1 (j hbg2 (j hbg4 (j hbg6 hbg8))) k
    cases oj (ifT hbg6 hg6)
    cases oj (ifT rfl hg8)
    exact m1 (j hbg2 (j hbg4 hbg6)) k
   cases oj (ifT hbg4 hg4)
   cases oj (ifT rfl hg6)
   cases oj (ifT rfl hg8)
   exact m2 hbg2 hbg4 k
  cases oj (ifT hbg2 hg2)
  cases oj (ifT rfl hg4)
  cases oj (ifT rfl hg6)
  cases oj (ifT rfl hg8)
  refine m1 hbg2 ?_
  exact k) ?_
 refine Ci H ?_ ?_<;>intro H
 .refine qA [2] ?_
  cases oj H;exact W4
 refine Js hK1 ?_
 refine Wsq [1] fun K2 hK2=>?_
 refine qA [1,3,4] ?_
 refine Wb ?_
 obtain⟨e1,hse1,H⟩:=bE H
 refine zR [1,3,4] (fun s a J=>∃M1:Nat,N0<=M1/\a=[(1,.fptr [.fsl (eL zA p0.Codes),.fsl (eL zB p0.Threads),.fsl (eL rBox p0.Boxes),.int .i64 p0.Turn,.int .i64 p0.Idle,.fsl (eL rI p0.Out)] 0),(3,.int .i64 (ilen p0.Threads)),(4,.int .i64 s)]/\J=hp E0 [] M1) (fun e x a J=>match e with|.inl s=>x=.exit 0/\Rc G 74 N0 (fun a J=>∃M2:Nat,N0<=M2/\a=[(1,.fptr [.fsl (eL zA p0.Codes),.fsl (eL zB p0.Threads),.fsl (eL rBox p0.Boxes),.int .i64 p0.Turn,.int .i64 p0.Idle,.fsl (eL rI p0.Out)] 0)]/\J=hp E0 [] M2) (AAct.keep a [1]) J|.inr s=>x=.ret/\∃vs,resA T J a [.tmp 2]=some vs/\∃d,thawA (fun _=>true) J d (tupA vs)=.bool s) hse1 ?_ ?_ ?_
 .refine kp [1,3,4] ?_
  exact R1 (N0+38)
 .clear H hse1
  rintro s9 fl a J H ⟨M1,fM1_0,rfl,rfl⟩ K3 O3 hK3 hO3
  unfold jX at H;dsimp only at H
  refine Wsq [1,3,4] fun K4 hK4=>?_
  refine qA [1,3,4,41] ?_
  refine Ci H ?_ ?_<;>intro H
  .refine Js hK4 ?_
   refine Wsq [1,3,4] fun K5 hK5=>?_
   refine Wb ?_
   obtain⟨v10,hv10,H⟩:=bE H
   obtain⟨v11,hv11,H⟩:=bE H
   obtain⟨r12,hr12,H⟩:=bE H
   obtain⟨g14,hg14,H⟩:=bE H
   refine gO tok tokM [] [] [0,1,2,3,4,5,6,7,8,9,10,11,12,13,14,15,16,17,18,19,20,21,22,23] [1,3,4,67] (fun a J=>a=[(1,.fptr [.fsl (eL zA p0.Codes),.fsl (eL zB p0.Threads),.fsl (eL rBox p0.Boxes),.int .i64 p0.Turn,.int .i64 p0.Idle,.fsl (eL rI p0.Out)] 0),(3,.int .i64 (ilen p0.Threads)),(4,.int .i64 s9),(67,.bool g14)]/\J=hp E0 [] (M1+27)) (by decide) (fun K hK=>?_) ?_
   .simp only[pickL,zJ,zL]
    refine m2 (ix27 hv10) (ix24 hv11) ?_
    refine Pc.mk (c77 hr12) (m2 (ix27 hv10) (ix24 hv11) ?_)
    cases hbg14:bnot r12
    .replace hg14:=ifF hbg14 hg14
     obtain⟨r13,hr13,hg14⟩:=bE hg14
     cases oj hg14
     refine m1 (j (ix27 hv10) (j (ix24 hv11) hbg14)) ?_
     refine Pc.mk (c78 hr13) (m1 (j (ix27 hv10) (j (ix24 hv11) hbg14)) ?_)
     exact hK _ _ ⟨rfl,rfl⟩
    cases oj (ifT hbg14 hg14)
    refine m1 (j (ix27 hv10) (j (ix24 hv11) hbg14)) ?_
    exact hK _ _ ⟨rfl,rfl⟩
   rintro a J ⟨rfl,rfl⟩
   refine Ci H ?_ ?_<;>intro H
   .refine qA [2] ?_
    cases oj H
    refine Kp [2] ?_
    refine Wr (hO3 _ _ _ _ rfl ⟨rfl,?_⟩)
    exact⟨[.bool false],by simp,4,by simp[eN]⟩
   refine Js hK5 ?_
   obtain rfl:=oi H
   refine qI hK3 ?_
   exact R1 (M1+30)
  cases oj H
  refine zK (hO3 _ _ _ _ rfl ⟨rfl,?_⟩)
  refine kr ?_
  exact R1 (M1+3)
 intro x a J hx
 rcases e1 with⟨⟩|r0
 .obtain⟨rfl,b,U,hr,M2,fM2_0,rfl,rfl⟩:=hx
  (try dsimp only at H)
  show K2 _ _
  refine hK2 _ _ (zH hr ?_)
  refine Rc.mk ?_
  obtain⟨r15,hr15,H⟩:=bE H
  refine qD [2] (c79 hr15) ?_
  cases oj H;exact W4
 obtain⟨rfl,hx2⟩:=hx
 (try dsimp only at H)
 cases oj H;first|exact hx2|(simp only[List.set_set] at hx2 ⊢;exact hx2)

theorem c14 {p0:List Int}{p1:(List (List gQuad))}{r:gCrew×Bool}(H:mI p0 p1=some r):APure Tryz.prog G 14 [.fsl (eL rI p0),.fsl (eL zA p1)] (.tup [.agg [.fsl (eL zA r.1.Codes),.fsl (eL zB r.1.Threads),.fsl (eL rBox r.1.Boxes),.int .i64 r.1.Turn,.int .i64 r.1.Idle,.fsl (eL rI r.1.Out)],.bool r.2]):=by
 refine qK func14 ntmps14 results14 fun N0=>?_
 unfold mI at H
 refine qA [0,1,4] ?_
 refine Wsq [0,1,4] fun K1 hK1=>?_
 refine gW Wre N0 0 0 ?_
 refine gW Wre N0 0 1 ?_
 refine gW Wre N0 0 2 ?_
 refine gW Wre N0 0 5 ?_
 obtain⟨r1,hr1,H⟩:=bE H
 refine qD [0,1,4,10] (c46 hr1) ?_
 refine Ci H ?_ ?_<;>intro H
 .refine qA [4,5] ?_
  cases oj H
  refine Kp [4,5] ?_
  exact V0
 refine Js hK1 ?_
 obtain⟨r2,hr2,H⟩:=bE H
 obtain⟨l3,hl3,H⟩:=bE H
 obtain⟨r4,hr4,H⟩:=bE H
 have q0:∀J i,bsA T 27 false i 0 [] J=some (.sl i 0 (List.length l3),J.put i ⟨42,2,eL zB l3⟩):=by rw[<- Option.some.inj hl3];exact fun _ _=>rfl
 have q1:∀J i,bsA T 23 true i 0 [] J=some (.esl,J):=fun _ _=>rfl
 refine Sx tok [5] [1,4,6] (by intro K k;(repeat first|simp -dsimp -implicitDefEqProofs [q0,q1]|refine(c47 hr2).app ?_|refine(c48 hr4).app ?_);exact k) ?_
 refine Wsq [4,6] fun K2 hK2=>?_
 refine qA [1,4,6,7] ?_
 refine Wb ?_
 obtain⟨e1,hse1,H⟩:=bE H
 refine zR [1,4,6,7] (fun s a J=>∃M1 o1 o2:Nat,N0<=M1/\N0<=o1/\o1<M1/\N0<=o2/\o2<M1/\¬o1=o2/\a=[(1,.fsl (eL zA p1)),(4,.ptr o1 0 0),(6,.ptr o2 0 0),(7,.int .i64 s.1)]/\J=hp E0 [(o1,some ⟨30,6,[[.fsl (eL zA s.2.1.Codes),.fsl (eL zB s.2.1.Threads),.fsl (eL rBox s.2.1.Boxes),.int .i64 s.2.1.Turn,.int .i64 s.2.1.Idle,.fsl (eL rI s.2.1.Out)]]⟩),(o2,some ⟨30,6,[[.fsl (eL zA s.2.2.Codes),.osl 42 2 (eL zB s.2.2.Threads),.fsl (eL rBox s.2.2.Boxes),.int .i64 s.2.2.Turn,.int .i64 s.2.2.Idle,.fsl (eL rI s.2.2.Out)]]⟩)] M1) (fun s x a J=>x=.exit 0/\Rc G 37 N0 (fun a J=>∃M2 o3 o4:Nat,N0<=M2/\N0<=o3/\o3<M2/\N0<=o4/\o4<M2/\¬o3=o4/\a=[(4,.ptr o3 0 0),(6,.ptr o4 0 0)]/\J=hp E0 [(o3,some ⟨30,6,[[.fsl (eL zA s.1.Codes),.fsl (eL zB s.1.Threads),.fsl (eL rBox s.1.Boxes),.int .i64 s.1.Turn,.int .i64 s.1.Idle,.fsl (eL rI s.1.Out)]]⟩),(o4,some ⟨30,6,[[.fsl (eL zA s.2.Codes),.osl 42 2 (eL zB s.2.Threads),.fsl (eL rBox s.2.Boxes),.int .i64 s.2.Turn,.int .i64 s.2.Idle,.fsl (eL rI s.2.Out)]]⟩)] M2) (AAct.keep a [4,6]) J) hse1 ?_ ?_ ?_
 .refine kp [1,4,6,7] ?_
  refine gP zH (N0+12) 0 1 ?_
  exact R3 (N0+15) N0 (N0+12)
 .clear H hse1
  rintro⟨s5,s6,s7⟩ fl a J H ⟨M1,o1,o2,fM1_0,fM1_1,fM1_2,fM1_3,fM1_4,fM1_5,rfl,rfl⟩ K3 O3 hK3 hO3
  unfold uA at H;dsimp only at H
  refine Wsq [1,4,6,7] fun K4 hK4=>?_
  have e0:=nQ o1 o2
  refine qB [1,4,6,7,22] e0 ?_
  refine Ci H ?_ ?_<;>intro H
  .refine Js hK4 ?_
   refine Wsq [1,4,6,7] fun K5 hK5=>?_
   refine Wb ?_
   refine gU Wre o2 0 1 ?_
   obtain⟨l10,hl10,H⟩:=bE H
   obtain⟨l11,hl11,H⟩:=bE H
   have q2:∀J i,bsA T 27 true i 1 [(0,.agg [.fsl (eL rI l10),.int .i64 0])] J=some (.fsl (eL zB ([(⟨l10,0⟩:gThread)]:List gThread)),J):=fun _ _=>rfl
   refine oF tok tokM [2,4] [1,5,7] [0,2,3,4,1,5,6,7] [1,4,6,7] (fun a J=>a=[(1,.fsl (eL zA p1)),(4,.ptr o1 0 0),(6,.ptr o2 0 0),(7,.int .i64 s5)]/\J=hp E0 [(o1,some ⟨30,6,[[.fsl (eL zA s6.Codes),.fsl (eL zB s6.Threads),.fsl (eL rBox s6.Boxes),.int .i64 s6.Turn,.int .i64 s6.Idle,.fsl (eL rI s6.Out)]]⟩),(o2,some ⟨30,6,[[.fsl (eL zA s7.Codes),.sl (M1+10) 0 l11.length,.fsl (eL rBox s7.Boxes),.int .i64 s7.Turn,.int .i64 s7.Idle,.fsl (eL rI s7.Out)]]⟩),(M1+10,some ⟨42,2,eL zB l11⟩)] (M1+13)) (by decide) (fun K hK=>?_) ?_
   .simp only[pickL,zJ,zL]
    have e0:=nQ o1 o2
    have e1:=nQ o1 (M1+4)
    have e2:=nQ o1 (M1+10)
    have e3:=nQ o2 (M1+4)
    have e4:=nQ o2 (M1+10)
    refine m1 (j e0 (j e1 (j e2 (j e3 (j e4 (j (makf23 hl10) (j q2 (app27 hl11)))))))) ?_
    exact hK _ _ ⟨rfl,rfl⟩
   rintro a J ⟨ha,rfl⟩
   refine hK5 _ _ ?_;rw[ha]
   refine Rc.mk ?_
   have e0:=nQ o1 o2
   have e1:=nQ o1 (M1+10)
   have e2:=nQ o2 (M1+10)
   obtain rfl:=oi H
   refine qJ (j e0 (j e1 e2)) hK3 ?_
   refine gP zH o2 0 1 ?_
   exact R3 (M1+16) o1 o2
  cases oj H
  refine zK (hO3 _ _ _ _ rfl ⟨rfl,?_⟩)
  refine kr ?_
  exact R3 (M1+4) o1 o2
 intro x a J hx
 obtain⟨y8,y9⟩:=e1
 obtain⟨rfl,b,U,hr,M2,o3,o4,fM2_0,fM2_1,fM2_2,fM2_3,fM2_4,fM2_5,rfl,rfl⟩:=hx
 (try dsimp only at H)
 show K2 _ _
 refine hK2 _ _ (zH hr ?_)
 refine Rc.mk ?_
 refine Wsq [4,6] fun K6 hK6=>?_
 refine gU Wre o4 0 1 ?_
 obtain⟨r12,hr12,H⟩:=bE H
 refine jC tok [] [4,6,34] (fun a J=>a=[(4,.ptr o3 0 0),(6,.ptr o4 0 0),(34,.bool (bnot r12))]/\J=hp E0 [(o3,some ⟨30,6,[[.fsl (eL zA y8.Codes),.fsl (eL zB y8.Threads),.fsl (eL rBox y8.Boxes),.int .i64 y8.Turn,.int .i64 y8.Idle,.fsl (eL rI y8.Out)]]⟩),(o4,some ⟨30,6,[[.fsl (eL zA y9.Codes),.sl M2 0 y9.Threads.length,.fsl (eL rBox y9.Boxes),.int .i64 y9.Turn,.int .i64 y9.Idle,.fsl (eL rI y9.Out)]]⟩),(M2,some ⟨42,2,eL zB y9.Threads⟩)] (M2+4)) (fun K hK=>?_) ?_
 .skip
  have e0:=nQ o3 o4
  have e1:=nQ o3 M2
  have e2:=nQ o4 M2
  refine m1 (j e0 (j e1 e2)) ?_
  refine(borrow 8 (c49 hr12) (by simp[e0,e1,e2]) rfl).mono ?_;rintro _ _ ⟨rfl,rfl⟩;try simp -dsimp -implicitDefEqProofs [e0,e1,e2]
  exact hK _ _ ⟨rfl,rfl⟩
 rintro a J ⟨rfl,rfl⟩
 refine Ci H ?_ ?_<;>intro H
 .have e0:=nQ o3 o4
  have e1:=nQ o3 M2
  have e2:=nQ o4 M2
  refine qB [4,5] (j e0 (j e1 e2)) ?_
  cases oj H
  refine Kp [4,5] ?_
  have z0:=nQ o3 o4
  have z1:=nQ o3 M2
  have z2:=nQ o4 M2
  refine Wr ?_
  exact⟨[.agg [.fsl [],.fsl [],.fsl [],.int .i64 0,.int .i64 0,.fsl []],.bool false],by simp[z0,z1,z2],4,by simp[eN,z0,z1,z2]⟩
 refine Js hK6 ?_
 have e0:=nQ o3 o4
 have e1:=nQ o3 M2
 have e2:=nQ o4 M2
 refine qB [4,5] (j e0 (j e1 e2)) ?_
 obtain rfl:=oi H
 refine Kp [4,5] ?_
 have z3:=nQ o3 o4
 have z4:=nQ o3 M2
 have z5:=nQ o4 M2
 refine Wr ?_
 exact⟨[.agg [.fsl (eL zA y9.Codes),.sl M2 0 y9.Threads.length,.fsl (eL rBox y9.Boxes),.int .i64 y9.Turn,.int .i64 y9.Idle,.fsl (eL rI y9.Out)],.bool true],by simp[z3,z4,z5],4,by simp[eN,z3,z4,z5]⟩

theorem c91 {p0:List gBox}{r:List gBox}(H:kL p0=some r):APure Tryz.prog G 91 [.fsl (eL rBox p0)] (.fsl (eL rBox r)):=by
 refine qK func91 ntmps91 results91 fun N0=>?_
 unfold kL at H
 refine qA [0] ?_
 have q0:∀J i,bsA T 28 true i 0 [] J=some (.esl,J):=fun _ _=>rfl
 refine Sy tok [0] [0,3] q0 ?_
 refine Wsq [3] fun K1 hK1=>?_
 refine qA [0,3,4] ?_
 refine Wb ?_
 obtain⟨e1,hse1,H⟩:=bE H
 refine zR [0,3,4] (fun s a J=>∃M1 o1:Nat,N0<=M1/\N0<=o1/\o1<M1/\a=[(0,.fsl (eL rBox p0)),(3,.sl o1 0 s.2.length),(4,.int .i64 s.1)]/\J=hp E0 [(o1,some ⟨103,2,eL rBox s.2⟩)] M1) (fun s x a J=>x=.exit 0/\Rc G 29 N0 (fun a J=>∃M2 o2:Nat,N0<=M2/\N0<=o2/\o2<M2/\a=[(3,.sl o2 0 s.length)]/\J=hp E0 [(o2,some ⟨103,2,eL rBox s⟩)] M2) (AAct.keep a [3]) J) hse1 ?_ ?_ ?_
 .refine kp [0,3,4] ?_
  refine gNilS zH 3 103 2 [(N0+4,some ⟨103,2,eL rBox ([]:List gBox)⟩)] [(0,.fsl (eL rBox p0)),(3,.sl (N0+4) 0 ([]:List gBox).length),(4,.int .i64 0)] (by simp(disch:=omega)) (by simp(disch:=omega) [eN]) [0,3,4] rfl ?_
  exact R2 (N0+5) (N0+4)
 .clear H hse1
  rintro⟨s1,s2⟩ fl a J H ⟨M1,o1,fM1_0,fM1_1,fM1_2,rfl,rfl⟩ K2 O2 hK2 hO2
  unfold yK at H;dsimp only at H
  refine Wsq [0,3,4] fun K3 hK3=>?_
  refine qA [0,3,4,9] ?_
  refine Ci H ?_ ?_<;>intro H
  .refine Js hK3 ?_
   refine Wsq [0,3,4] fun K4 hK4=>?_
   refine Wb ?_
   obtain⟨v4,hv4,H⟩:=bE H
   obtain⟨l5,hl5,H⟩:=bE H
   obtain⟨l6,hl6,H⟩:=bE H
   have q1:∀J i,bsA T 23 true i 0 [] J=some (.esl,J):=fun _ _=>rfl
   have q2:∀J i,bsA T 28 true i 1 [(0,.agg [.int .i64 v4.Room,.fsl (eL rI l5)])] J=some (.fsl (eL rBox ([(⟨v4.Room,l5⟩:gBox)]:List gBox)),J):=fun _ _=>rfl
   refine oF tok tokM [6,12,14] [15] [0,1,2,3,4,5,6,7,8,9,10,11,12,13,14,15,16] [0,3,4] (fun a J=>a=[(0,.fsl (eL rBox p0)),(3,.sl (M1+19) 0 l6.length),(4,.int .i64 s1)]/\J=hp E0 [(M1+19,some ⟨103,2,eL rBox l6⟩)] (M1+21)) (by decide) (fun K hK=>?_) ?_
   .simp only[pickL,zJ,zL]
    have e0:=nQ o1 (M1+19)
    refine m1 (j e0 (j (ix28 hv4) (j q1 (j (appf23 hl5) (j q2 (app28 hl6)))))) ?_
    exact hK _ _ ⟨rfl,rfl⟩
   rintro a J ⟨ha,rfl⟩
   refine hK4 _ _ ?_;rw[ha]
   refine Rc.mk ?_
   obtain rfl:=oi H
   refine qI hK2 ?_
   exact R2 (M1+24) (M1+19)
  cases oj H
  refine zK (hO2 _ _ _ _ rfl ⟨rfl,?_⟩)
  refine kr ?_
  exact R2 (M1+4) o1
 intro x a J hx
 obtain⟨y3,rfl⟩:∃x,x=e1:=⟨_,rfl⟩
 obtain⟨rfl,b,U,hr,M2,o2,fM2_0,fM2_1,fM2_2,rfl,rfl⟩:=hx
 (try dsimp only at H)
 show K1 _ _
 refine hK1 _ _ (zH hr ?_)
 refine Rc.mk ?_
 refine qA [2] ?_
 cases oj H;exact W4

theorem c92 {p0:gThread}{p1:Int}{r:gThread}(H:xL p0 p1=some r):APure Tryz.prog G 92 [.agg [.fsl (eL rI p0.Regs),.int .i64 p0.Pc],.int .i64 p1] (.agg [.fsl (eL rI r.Regs),.int .i64 r.Pc]):=by
 refine qK func92 ntmps92 results92 fun N0=>?_
 unfold xL at H
 refine S0 tok [0] [1,2,4] ?_
 obtain⟨l1,hl1,H⟩:=bE H
 have q0:∀J i,bsA T 23 true i 0 [] J=some (.esl,J):=fun _ _=>rfl
 refine Sz tok [0,3] [4] q0 (appf23 hl1) ?_
 obtain rfl:=oi H
 refine Kp [4] ?_
 exact V0

theorem c120 {p0:gBox}{p1:Int}{r:gBox×Bool}(H:fR p0 p1=some r):APure Tryz.prog G 120 [.agg [.int .i64 p0.Room,.fsl (eL rI p0.Items)],.int .i64 p1] (.tup [.agg [.int .i64 r.1.Room,.fsl (eL rI r.1.Items)],.bool r.2]):=by
 refine qK func120 ntmps120 results120 fun N0=>?_
 unfold fR at H
 refine S0 tok [0] [1,2,4] ?_
 refine Wsq [1,2,4] fun K1 hK1=>?_
 refine gW Wre (N0+1) 0 1 ?_
 obtain⟨r1,hr1,H⟩:=bE H
 obtain⟨g3,hg3,H⟩:=bE H
 obtain⟨g4,hg4,H⟩:=bE H
 refine qF tok [1,2,4,21] ([(1,.int .i64 p1),(2,.fptr [.int .i64 p0.Room,.fsl (eL rI p0.Items)] 0),(4,.ptr (N0+1) 0 0),(21,.bool g4)]) (hp E0 [(N0+1,some ⟨103,2,[[.int .i64 0,.fsl []]]⟩)] (N0+19)) (by
  intro K k
  refine m0 ?_
  refine(c102 hr1).app (m0 ?_)
  cases hbg3:bnot r1
  .replace hg3:=ifF hbg3 hg3
   obtain⟨r2,hr2,hg3⟩:=bE hg3
   obtain rfl:=oi hg3
   refine m1 hbg3 ?_
   refine(c106 hr2).app (m1 hbg3 ?_)
   cases hbg4:(bnot r2)
   .cases oj (ifF hbg4 hg4)
    exact m2 hbg3 hbg4 k
   cases oj (ifT hbg4 hg4)
   exact m2 hbg3 hbg4 k
  cases oj (ifT hbg3 hg3)
  cases oj (ifT rfl hg4)
  refine m1 hbg3 ?_
  exact k) ?_
 refine Ci H ?_ ?_<;>intro H
 .refine qA [4,5] ?_
  cases oj H
  refine Kp [4,5] ?_
  exact V0
 refine Js hK1 ?_
 obtain⟨l5,hl5,H⟩:=bE H
 obtain⟨l6,hl6,H⟩:=bE H
 have q0:∀J i,bsA T 23 true i 0 [] J=some (.esl,J):=fun _ _=>rfl
 have q1:∀J i,bsA T 23 true i 1 [(0,.int .i64 p1)] J=some (.fsl (eL rI ([p1]:List Int)),J):=fun _ _=>rfl
 refine Sd tok tokM [2,7] [5,8,10] [0,1,2,3,4,6,7,5,8,9,10,11] [4,5] (by
  intro K k
  simp only[pickL,zJ,zL]
  refine m1 (j q0 (j q1 (j (sP hl5) (app23 hl6)))) ?_
  exact k) ?_
 obtain rfl:=oi H
 refine Kp [4,5] ?_
 exact V0

theorem c91_o {p0:List gBox}{r:List gBox}(H:xH p0=some r){J:AHeap}:ACalls Tryz.prog G 91 [.fsl (eL rBox p0)] J (fun v J'=>∃M n0:Nat,J.next<=M/\J.next<=n0/\n0<M/\v=.sl n0 0 r.length/\J'=hp J.objs [(n0,some ⟨103,2,eL rBox r⟩)] M):=by
 refine fr2 [] (by simp) (fun hlt=>?_) ⟨_,func91,rfl,rfl⟩
 generalize J.next=N0 at hlt ⊢
 refine fnK tok func91 ntmps91 results91 ?_
 simp only[argsA,Nat.reduceAdd,hpN]
 unfold xH at H
 refine qA [0] ?_
 have q0:∀J i,bsA T 28 true i 0 [] J=some (.esl,J):=fun _ _=>rfl
 refine Sy tok [0] [0,3] q0 ?_
 refine Wsq [3] fun K1 hK1=>?_
 refine qA [0,3,4] ?_
 refine Wb ?_
 obtain⟨e1,hse1,H⟩:=bE H
 refine zR [0,3,4] (fun s a J=>∃M1 o1:Nat,N0<=M1/\N0<=o1/\o1<M1/\a=[(0,.fsl (eL rBox p0)),(3,.sl o1 0 s.2.length),(4,.int .i64 s.1)]/\J=hp E0 [(o1,some ⟨103,2,eL rBox s.2⟩)] M1) (fun s x a J=>x=.exit 0/\Rc G 29 N0 (fun a J=>∃M2 o2:Nat,N0<=M2/\N0<=o2/\o2<M2/\a=[(3,.sl o2 0 s.length)]/\J=hp E0 [(o2,some ⟨103,2,eL rBox s⟩)] M2) (AAct.keep a [3]) J) hse1 ?_ ?_ ?_
 .refine kp [0,3,4] ?_
  refine gNilS zH 3 103 2 [(N0+4,some ⟨103,2,eL rBox ([]:List gBox)⟩)] [(0,.fsl (eL rBox p0)),(3,.sl (N0+4) 0 ([]:List gBox).length),(4,.int .i64 0)] (by simp(disch:=omega)) (by simp(disch:=omega) [eN]) [0,3,4] rfl ?_
  exact R2 (N0+5) (N0+4)
 .clear H hse1
  rintro⟨s1,s2⟩ fl a J H ⟨M1,o1,fM1_0,fM1_1,fM1_2,rfl,rfl⟩ K2 O2 hK2 hO2
  unfold tR at H;dsimp only at H
  refine Wsq [0,3,4] fun K3 hK3=>?_
  refine qA [0,3,4,9] ?_
  refine Ci H ?_ ?_<;>intro H
  .refine Js hK3 ?_
   refine Wsq [0,3,4] fun K4 hK4=>?_
   refine Wb ?_
   obtain⟨v4,hv4,H⟩:=bE H
   obtain⟨l5,hl5,H⟩:=bE H
   obtain⟨l6,hl6,H⟩:=bE H
   have q1:∀J i,bsA T 23 true i 0 [] J=some (.esl,J):=fun _ _=>rfl
   have q2:∀J i,bsA T 28 true i 1 [(0,.agg [.int .i64 v4.Room,.fsl (eL rI l5)])] J=some (.fsl (eL rBox ([(⟨v4.Room,l5⟩:gBox)]:List gBox)),J):=fun _ _=>rfl
   refine oF tok tokM [6,12,14] [15] [0,1,2,3,4,5,6,7,8,9,10,11,12,13,14,15,16] [0,3,4] (fun a J=>a=[(0,.fsl (eL rBox p0)),(3,.sl (M1+19) 0 l6.length),(4,.int .i64 s1)]/\J=hp E0 [(M1+19,some ⟨103,2,eL rBox l6⟩)] (M1+21)) (by decide) (fun K hK=>?_) ?_
   .simp only[pickL,zJ,zL]
    have e0:=nQ o1 (M1+19)
    refine m1 (j e0 (j (ix28 hv4) (j q1 (j (appf23 hl5) (j q2 (app28 hl6)))))) ?_
    exact hK _ _ ⟨rfl,rfl⟩
   rintro a J ⟨ha,rfl⟩
   refine hK4 _ _ ?_;rw[ha]
   refine Rc.mk ?_
   obtain rfl:=oi H
   refine qI hK2 ?_
   exact R2 (M1+24) (M1+19)
  cases oj H
  refine zK (hO2 _ _ _ _ rfl ⟨rfl,?_⟩)
  refine kr ?_
  exact R2 (M1+4) o1
 intro x a J hx
 obtain⟨y3,rfl⟩:∃x,x=e1:=⟨_,rfl⟩
 obtain⟨rfl,b,U,hr,M2,o2,fM2_0,fM2_1,fM2_2,rfl,rfl⟩:=hx
 (try dsimp only at H)
 show K1 _ _
 refine hK1 _ _ (zH hr ?_)
 refine Rc.mk ?_
 refine qA [2] ?_
 obtain rfl:=oi H
 refine Kp [2] ?_
 exact V2 j0 (M2+2) o2

theorem c121 {p0:gBox}{r:gBox×Int×Bool}(H:mJ p0=some r):APure Tryz.prog G 121 [.agg [.int .i64 p0.Room,.fsl (eL rI p0.Items)]] (.tup [.agg [.int .i64 r.1.Room,.fsl (eL rI r.1.Items)],.int .i64 r.2.1,.bool r.2.2]):=by
 refine qK func121 ntmps121 results121 fun N0=>?_
 unfold mJ at H
 refine S0 tok [0] [1,2] ?_
 refine Wsq [1,2] fun K1 hK1=>?_
 refine gW Wre (N0+1) 0 1 ?_
 obtain⟨r1,hr1,H⟩:=bE H
 obtain⟨g2,hg2,H⟩:=bE H
 refine qF tok [1,2,13] ([(1,.fptr [.int .i64 p0.Room,.fsl (eL rI p0.Items)] 0),(2,.ptr (N0+1) 0 0),(13,.bool g2)]) (hp E0 [(N0+1,some ⟨103,2,[[.int .i64 0,.fsl []]]⟩)] (N0+13)) (by
  intro K k
  refine m0 ?_
  refine(c102 hr1).app (m0 ?_)
  cases hbg2:bnot r1
  .cases oj (ifF hbg2 hg2)
   exact m1 hbg2 k
  cases oj (ifT hbg2 hg2)
  refine m1 hbg2 ?_
  exact k) ?_
 refine Ci H ?_ ?_<;>intro H
 .refine qA [2,3,4] ?_
  cases oj H
  refine Kp [2,3,4] ?_
  exact V0
 refine Js hK1 ?_
 obtain⟨l3,hl3,H⟩:=bE H
 obtain⟨l4,hl4,H⟩:=bE H
 obtain⟨v5,hv5,H⟩:=bE H
 have q0:∀J i,bsA T 23 true i 0 [] J=some (.esl,J):=fun _ _=>rfl
 refine Sd tok tokM [2,6] [12] [0,1,2,3,4,5,6,7,8,9,10,11,12,13,14] [2,3,4] (by
  intro K k
  simp only[pickL,zJ,zL]
  refine m1 (j q0 (j (cutl_23 hl3) (j (appf23 hl4) (ix23 hv5)))) ?_
  exact k) ?_
 obtain rfl:=oi H
 refine Kp [2,3,4] ?_
 exact V0

theorem c122 {p0:gThread}{p1:Int}{p2:Int}{p3:Int}{r:gThread}(H:sJ p0 p1 p2 p3=some r):APure Tryz.prog G 122 [.agg [.fsl (eL rI p0.Regs),.int .i64 p0.Pc],.int .i64 p1,.int .i64 p2,.int .i64 p3] (.agg [.fsl (eL rI r.Regs),.int .i64 r.Pc]):=by
 refine qK func122 ntmps122 results122 fun N0=>?_
 unfold sJ at H
 refine S0 tok [0] [1,2,3,4,8] ?_
 obtain⟨l1,hl1,H⟩:=bE H
 have q0:∀J i,bsA T 23 true i 0 [] J=some (.esl,J):=fun _ _=>rfl
 refine Sz tok [0] [1,2,8,9] q0 (sP hl1) ?_
 obtain⟨v2,hv2,H⟩:=bE H
 obtain⟨l3,hl3,H⟩:=bE H
 refine qB [8,9] (j (ixo23 hv2) (j ((zG hv2).2.2) ((setx_iff.1 hl3).2.symm))) ?_
 try rw[<- zE hl3]
 refine qA [8] ?_
 obtain rfl:=oi H
 refine Kp [8] ?_
 exact V0

theorem c111 {p0:gQuad}{p1:gThread}{p2:List gBox}{r:gThread×(List gBox)×Int}(H:fO p0 p1 p2=some r):APure Tryz.prog G 111 [.agg [.int .i64 p0.Op,.int .i64 p0.Dst,.int .i64 p0.A,.int .i64 p0.B,.int .i64 p0.N],.agg [.fsl (eL rI p1.Regs),.int .i64 p1.Pc],.fsl (eL rBox p2)] (.tup [.agg [.fsl (eL rI r.1.Regs),.int .i64 r.1.Pc],.fsl (eL rBox r.2.1),.int .i64 r.2.2]):=by
 refine qK func111 ntmps111 results111 fun N0=>?_
 unfold fO at H
 refine S0 tok [0,1] [2,3,4,6] ?_
 refine gW Wre (N0+2) 0 0 ?_
 obtain⟨r1,hr1,H⟩:=bE H
 refine jC tok [] [2,3,4,6,9] (fun a J=>∃M1 o1:Nat,N0+8<=M1/\N0+8<=o1/\o1<M1/\a=[(2,.fsl (eL rBox p2)),(3,.fptr [.int .i64 p0.Op,.int .i64 p0.Dst,.int .i64 p0.A,.int .i64 p0.B,.int .i64 p0.N] 0),(4,.fptr [.fsl (eL rI p1.Regs),.int .i64 p1.Pc] 0),(6,.ptr (N0+2) 0 0),(9,.sl o1 0 r1.length)]/\J=hp E0 [(N0+2,some ⟨42,2,[[.fsl [],.int .i64 0]]⟩),(o1,some ⟨103,2,eL rBox r1⟩)] M1) (fun K hK=>?_) ?_
 .skip
  refine m0 ?_
  refine mo (c91_o (H:=hr1)) fun M1 o1 fM1_0 fM1_1 fM1_2=>?_
  have eM1_0:=nQ o1 (N0+2)
  refine m1 (j eM1_0 (j @hoS @hoN)) ?_
  exact hK _ _ ⟨M1,o1,(by omega),(by omega),(by omega),rfl,rfl⟩
 rintro a J ⟨M1,o1,fM1_0,fM1_1,fM1_2,rfl,rfl⟩
 refine Wsq [2,3,4,6,9] fun K1 hK1=>?_
 have e0:=nQ (N0+2) o1
 refine qB [2,3,4,6,9,19] e0 ?_
 refine Ci H ?_ ?_<;>intro H
 .obtain⟨v2,hv2,H⟩:=bE H
  obtain⟨v3,hv3,H⟩:=bE H
  obtain⟨r4,hr4,H⟩:=bE H
  refine Sd tok tokM [] [15,16] [0,1,2,3,4,5,6,7,8,9,10,11,12,13,14,15,16,17] [3,4,6,9,10,11] (by
   intro K k
   have e0:=nQ (N0+2) o1
   have e1:=nQ (N0+2) (M1+18)
   have e2:=nQ N0 (M1+16)
   have e3:=nQ o1 (M1+18)
   simp only[pickL,zJ,zL]
   repeat first|simp -dsimp -implicitDefEqProofs [e0,e1,e2,e3,ix28 hv2,ix23 hv3]|refine Pc.mk (c120 hr4) ?_
   exact k) ?_
  refine Wsq [3,4,6,9,10] fun K2 hK2=>?_
  have e0:=nQ (N0+2) o1
  have e1:=nQ (N0+2) (M1+18)
  have e2:=nQ N0 (M1+16)
  have e3:=nQ o1 (M1+18)
  refine qB [3,4,6,9,10,36] (j e0 (j e1 (j e2 e3))) ?_
  refine Ci H ?_ ?_<;>intro H
  .obtain⟨r5,hr5,H⟩:=bE H
   have e0:=nQ (N0+2) o1
   have e1:=nQ (N0+2) (M1+18)
   have e2:=nQ N0 (M1+16)
   have e3:=nQ o1 (M1+18)
   refine qE [6,7,8] (j e0 (j e1 (j e2 e3))) (c92 hr5) ?_
   obtain rfl:=oi H
   refine Kp [6,7,8] ?_
   have z0:=nQ (N0+2) o1
   have z1:=nQ (N0+2) (M1+18)
   have z2:=nQ N0 (M1+16)
   have z3:=nQ o1 (M1+18)
   refine Wr ?_
   exact⟨[.agg [.fsl (eL rI r5.Regs),.int .i64 r5.Pc],.sl o1 0 r1.length,.int .i64 3],by simp[z0,z1,z2,z3],4,by simp[eN,z0,z1,z2,z3]⟩
  refine Js hK2 ?_
  obtain⟨v6,hv6,H⟩:=bE H
  obtain⟨l7,hl7,H⟩:=bE H
  have e0:=nQ (N0+2) o1
  have e1:=nQ (N0+2) (M1+18)
  have e2:=nQ N0 (M1+16)
  have e3:=nQ o1 (M1+18)
  refine qB [4,6,9] (j e0 (j e1 (j e2 (j e3 (j (ixo28 hv6) (j ((zG hv6).2.2) ((setx_iff.1 hl7).2.symm))))))) ?_
  try rw[<- zE hl7]
  obtain⟨r8,hr8,H⟩:=bE H
  have e0:=nQ (N0+2) o1
  have e1:=nQ (N0+2) (M1+18)
  have e2:=nQ N0 (M1+16)
  have e3:=nQ o1 (M1+18)
  refine qE [6,7,8] (j e0 (j e1 (j e2 e3))) (c92 hr8) ?_
  obtain rfl:=oi H
  refine Kp [6,7,8] ?_
  have z4:=nQ (N0+2) o1
  have z5:=nQ (N0+2) (M1+18)
  have z6:=nQ N0 (M1+16)
  have z7:=nQ o1 (M1+18)
  refine Wr ?_
  exact⟨[.agg [.fsl (eL rI r8.Regs),.int .i64 r8.Pc],.sl o1 0 l7.length,.int .i64 1],by simp[z4,z5,z6,z7],4,by simp[eN,z4,z5,z6,z7]⟩
 refine Js hK1 ?_
 obtain⟨v9,hv9,H⟩:=bE H
 obtain⟨r10,hr10,H⟩:=bE H
 have e0:=nQ (N0+2) o1
 have e1:=nQ (N0+2) (M1+13)
 have e2:=nQ N0 (M1+11)
 have e3:=nQ o1 (M1+13)
 refine qE [3,4,6,9,12,13,14] (j e0 (j e1 (j e2 (j e3 (ix28 hv9))))) (c121 hr10) ?_
 refine Wsq [3,4,6,9,12,13] fun K3 hK3=>?_
 have e0:=nQ (N0+2) o1
 have e1:=nQ (N0+2) (M1+13)
 have e2:=nQ N0 (M1+11)
 have e3:=nQ o1 (M1+13)
 refine qB [3,4,6,9,12,13,64] (j e0 (j e1 (j e2 e3))) ?_
 refine Ci H ?_ ?_<;>intro H
 .obtain⟨r11,hr11,H⟩:=bE H
  have e0:=nQ (N0+2) o1
  have e1:=nQ (N0+2) (M1+13)
  have e2:=nQ N0 (M1+11)
  have e3:=nQ o1 (M1+13)
  refine qE [6,7,8] (j e0 (j e1 (j e2 e3))) (c92 hr11) ?_
  obtain rfl:=oi H
  refine Kp [6,7,8] ?_
  have z8:=nQ (N0+2) o1
  have z9:=nQ (N0+2) (M1+13)
  have z10:=nQ N0 (M1+11)
  have z11:=nQ o1 (M1+13)
  refine Wr ?_
  exact⟨[.agg [.fsl (eL rI r11.Regs),.int .i64 r11.Pc],.sl o1 0 r1.length,.int .i64 3],by simp[z8,z9,z10,z11],4,by simp[eN,z8,z9,z10,z11]⟩
 refine Js hK3 ?_
 obtain⟨v12,hv12,H⟩:=bE H
 obtain⟨l13,hl13,H⟩:=bE H
 have e0:=nQ (N0+2) o1
 have e1:=nQ (N0+2) (M1+13)
 have e2:=nQ N0 (M1+11)
 have e3:=nQ o1 (M1+13)
 refine qB [3,4,6,9,13] (j e0 (j e1 (j e2 (j e3 (j (ixo28 hv12) (j ((zG hv12).2.2) ((setx_iff.1 hl13).2.symm))))))) ?_
 try rw[<- zE hl13]
 obtain⟨r14,hr14,H⟩:=bE H
 have e0:=nQ (N0+2) o1
 have e1:=nQ (N0+2) (M1+13)
 have e2:=nQ N0 (M1+11)
 have e3:=nQ o1 (M1+13)
 refine qE [6,7,8] (j e0 (j e1 (j e2 e3))) (c122 hr14) ?_
 obtain rfl:=oi H
 refine Kp [6,7,8] ?_
 have z12:=nQ (N0+2) o1
 have z13:=nQ (N0+2) (M1+13)
 have z14:=nQ N0 (M1+11)
 have z15:=nQ o1 (M1+13)
 refine Wr ?_
 exact⟨[.agg [.fsl (eL rI r14.Regs),.int .i64 r14.Pc],.sl o1 0 l13.length,.int .i64 1],by simp[z12,z13,z14,z15],4,by simp[eN,z12,z13,z14,z15]⟩

theorem c112 {p0:gQuad}{p1:gThread}{r:gThread}(H:fP p0 p1=some r):APure Tryz.prog G 112 [.agg [.int .i64 p0.Op,.int .i64 p0.Dst,.int .i64 p0.A,.int .i64 p0.B,.int .i64 p0.N],.agg [.fsl (eL rI p1.Regs),.int .i64 p1.Pc]] (.agg [.fsl (eL rI r.Regs),.int .i64 r.Pc]):=by
 refine qK func112 ntmps112 results112 fun N0=>?_
 unfold fP at H
 refine S0 tok [0,1] [2,3,4] ?_
 refine Wsq [2,3,4] fun K1 hK1=>?_
 refine qA [2,3,4,8] ?_
 refine Wb ?_
 refine qA [2,3,4,8,9] ?_
 refine Ci H ?_ ?_<;>intro H
 .refine gW Wre (N0+2) 0 0 ?_
  obtain⟨r1,hr1,H⟩:=bE H
  refine qD [4] (c122 hr1) ?_
  obtain rfl:=oi H
  refine Kp [4] ?_
  exact V0
 refine qA [2,3,4,8,20] ?_
 refine Ci H ?_ ?_<;>intro H
 .refine gW Wre (N0+2) 0 0 ?_
  obtain⟨v2,hv2,H⟩:=bE H
  obtain⟨r3,hr3,H⟩:=bE H
  refine Sd tok tokM [] [13] [0,1,2,3,4,5,6,7,8,9,10,11,12,13] [4] (by
   intro K k
   simp only[pickL,zJ,zL]
   repeat first|simp -dsimp -implicitDefEqProofs [ix23 hv2]|refine Pc.mk (c122 hr3) ?_
   exact k) ?_
  obtain rfl:=oi H
  refine Kp [4] ?_
  exact V0
 refine qA [2,3,4,8,35] ?_
 refine Ci H ?_ ?_<;>intro H
 .refine gW Wre (N0+2) 0 0 ?_
  obtain⟨v4,hv4,H⟩:=bE H
  obtain⟨v5,hv5,H⟩:=bE H
  obtain⟨r6,hr6,H⟩:=bE H
  refine Sd tok tokM [] [] [0,1,2,3,4,5,6,7,8,9,10,11,12,13,14,15,16,17,18,19] [2,3,4,5] (by
   intro K k
   simp only[pickL,zJ,zL]
   repeat first|simp -dsimp -implicitDefEqProofs [ix23 hv4,ix23 hv5]|refine Pc.mk (c123 hr6) ?_
   exact k) ?_
  obtain⟨r7,hr7,H⟩:=bE H
  refine qD [4] (c122 hr7) ?_
  obtain rfl:=oi H
  refine Kp [4] ?_
  exact V0
 refine qA [2,3,4,63] ?_
 refine Ci H ?_ ?_<;>intro H
 .refine gW Wre (N0+2) 0 0 ?_
  obtain⟨r8,hr8,H⟩:=bE H
  refine qD [4] (c92 hr8) ?_
  obtain rfl:=oi H
  refine Kp [4] ?_
  exact V0
 refine Js hK1 ?_
 refine Wsq [3,4] fun K2 hK2=>?_
 obtain⟨g10,hg10,H⟩:=bE H
 refine qF tok [2,3,4,80] ([(2,.fptr [.int .i64 p0.Op,.int .i64 p0.Dst,.int .i64 p0.A,.int .i64 p0.B,.int .i64 p0.N] 0),(3,.fptr [.fsl (eL rI p1.Regs),.int .i64 p1.Pc] 0),(4,.ptr (N0+2) 0 0),(80,.bool g10)]) (hp E0 [(N0+2,some ⟨42,2,[[.nilsl,.int .i64 0]]⟩)] (N0+25)) (by
  intro K k
  refine m0 ?_
  cases hbg10:ieq p0.Op 5
  .cases oj (ifF hbg10 hg10)
   exact m1 hbg10 k
  replace hg10:=ifT hbg10 hg10
  obtain⟨v9,hv9,hg10⟩:=bE hg10
  cases oj hg10
  refine m2 hbg10 (ix23 hv9) ?_
  exact k) ?_
 refine Ci H ?_ ?_<;>intro H
 .refine gW Wre (N0+2) 0 0 ?_
  obtain⟨r11,hr11,H⟩:=bE H
  refine qD [4] (c92 hr11) ?_
  obtain rfl:=oi H
  refine Kp [4] ?_
  exact V0
 refine Js hK2 ?_
 refine gW Wre (N0+2) 0 0 ?_
 obtain⟨r12,hr12,H⟩:=bE H
 refine qD [4] (c92 hr12) ?_
 obtain rfl:=oi H
 refine Kp [4] ?_
 exact V0

theorem c93 {p0:gQuad}{p1:gThread}{p2:List gBox}{r:gThread×(List gBox)×(List Int)×Int}(H:oZ p0 p1 p2=some r):APure Tryz.prog G 93 [.agg [.int .i64 p0.Op,.int .i64 p0.Dst,.int .i64 p0.A,.int .i64 p0.B,.int .i64 p0.N],.agg [.fsl (eL rI p1.Regs),.int .i64 p1.Pc],.fsl (eL rBox p2)] (.tup [.agg [.fsl (eL rI r.1.Regs),.int .i64 r.1.Pc],.fsl (eL rBox r.2.1),.fsl (eL rI r.2.2.1),.int .i64 r.2.2.2]):=by
 refine qK func93 ntmps93 results93 fun N0=>?_
 unfold oZ at H
 refine S0 tok [0,1] [2,3,4,6] ?_
 refine Wsq [2,3,4,6] fun K1 hK1=>?_
 refine qA [2,3,4,6,14] ?_
 refine Wb ?_
 obtain⟨j1,hj1,H⟩:=bE H
 refine kP (kN fun K2 hK2=>?_)
 have hJ1:∀a J,Rc G 71 N0 (fun a J=>∃M1:Nat,N0<=M1/\N0+2<M1/\a=[(2,.fsl (eL rBox p2)),(3,.fptr [.int .i64 p0.Op,.int .i64 p0.Dst,.int .i64 p0.A,.int .i64 p0.B,.int .i64 p0.N] 0),(4,.fptr [.fsl (eL rI p1.Regs),.int .i64 p1.Pc] 0),(6,.ptr (N0+2) 0 0),(14,.int .i64 p0.Op),(15,.bool j1)]/\J=hp E0 [(N0+2,some ⟨42,2,[[.fsl [],.int .i64 0]]⟩)] M1) (a.keep [2,3,4,6,14,15]) J->K2 a J:=by
  rintro a J ⟨b,U,hr,M1,fM1_0,fM1_1,rfl,rfl⟩
  refine hK2 _ _ (kG [2,3,4,6,14,15] (Wre hr ?_))
  refine Ci H ?_ ?_<;>intro H
  .obtain⟨r2,hr2,H⟩:=bE H
   have e0:=nQ (N0+2) (M1+8)
   have e1:=nQ N0 (M1+6)
   refine qE [6,10,11,12] (j e0 e1) (c111 hr2) ?_
   have q0:∀J i,bsA T 23 true i 0 [] J=some (.esl,J):=fun _ _=>rfl
   have e0:=nQ (N0+2) (M1+8)
   have e1:=nQ N0 (M1+6)
   refine Sy tok [2] [6,7,8,9] (j e0 (j e1 q0)) ?_
   obtain rfl:=oi H
   refine Kp [6,7,8,9] ?_
   have z0:=nQ (N0+2) (M1+8)
   have z1:=nQ N0 (M1+6)
   refine Wr ?_
   exact⟨[.agg [.fsl (eL rI r2.1.Regs),.int .i64 r2.1.Pc],.fsl (eL rBox r2.2.1),.esl,.int .i64 r2.2.2],by simp[z0,z1],4,by simp[eN,z0,z1]⟩
  refine qA [2,3,4,6,14,30] ?_
  refine Ci H ?_ ?_<;>intro H
  .obtain⟨r3,hr3,H⟩:=bE H
   obtain⟨r4,hr4,H⟩:=bE H
   have q1:∀J i,bsA T 23 true i 0 [] J=some (.esl,J):=fun _ _=>rfl
   refine Sx tok [6] [6,7,8,9] (by intro K k;(repeat first|simp -dsimp -implicitDefEqProofs [q1]|refine(c92 hr3).app ?_|refine(c91 hr4).app ?_);exact k) ?_
   obtain rfl:=oi H
   refine Kp [6,7,8,9] ?_
   exact V0
  refine qA [2,3,4,6,14,39] ?_
  refine Ci H ?_ ?_<;>intro H
  .obtain⟨r5,hr5,H⟩:=bE H
   obtain⟨r6,hr6,H⟩:=bE H
   have q2:∀J i,bsA T 23 true i 0 [] J=some (.esl,J):=fun _ _=>rfl
   refine Sx tok [7] [6,7,8,9] (by intro K k;(repeat first|simp -dsimp -implicitDefEqProofs [q2]|refine(c92 hr5).app ?_|refine(c91 hr6).app ?_);exact k) ?_
   obtain rfl:=oi H
   refine Kp [6,7,8,9] ?_
   exact V0
  refine qA [2,3,4,6,49] ?_
  refine Ci H ?_ ?_<;>intro H
  .obtain⟨r7,hr7,H⟩:=bE H
   obtain⟨r8,hr8,H⟩:=bE H
   obtain⟨v9,hv9,H⟩:=bE H
   have q3:∀J i,bsA T 23 true i 1 [(0,.int .i64 v9)] J=some (.fsl (eL rI ([v9]:List Int)),J):=fun _ _=>rfl
   refine Sd tok tokM [13] [14] [0,1,2,3,4,5,6,7,8,9,10,11,12,13,14,15,16,17] [6,7,8,9] (by
    intro K k
    simp only[pickL,zJ,zL]
    repeat first|simp -dsimp -implicitDefEqProofs [ix23 hv9,q3]|refine Pc.mk (c92 hr7) ?_|refine Pc.mk (c91 hr8) ?_
    exact k) ?_
   obtain rfl:=oi H
   refine Kp [6,7,8,9] ?_
   exact V0
  refine Js hK1 ?_
  obtain⟨r10,hr10,H⟩:=bE H
  obtain⟨r11,hr11,H⟩:=bE H
  have q4:∀J i,bsA T 23 true i 0 [] J=some (.esl,J):=fun _ _=>rfl
  refine Sx tok [5] [6,7,8,9] (by intro K k;(repeat first|simp -dsimp -implicitDefEqProofs [q4]|refine(c112 hr10).app ?_|refine(c91 hr11).app ?_);exact k) ?_
  obtain rfl:=oi H
  refine Kp [6,7,8,9] ?_
  exact V0
 replace H:=hj1
 refine qA [2,3,4,6,14,15] ?_
 refine Ci H ?_ ?_<;>intro H
 .refine Wsk ?_
  show K2 _ _
  refine kE [2,3,4,6,14,15] fun a' ha=>?_
  cases oj H
  refine hJ1 _ _ ?_;rw[ha]
  refine gW zH (N0+2) 0 0 ?_
  exact R1 (N0+10)
 refine Rt0 tok [] [2,3,4,6,14,15] fun a ha=>?_
 cases oj H
 refine hJ1 _ _ ?_;rw[ha]
 refine gW zH (N0+2) 0 0 ?_
 exact R1 (N0+12)

theorem c94 {p0:Int}{p1:Int}{p2:Int}{p3:Int}{r:Int×Int×Bool}(H:pG p0 p1 p2 p3=some r):APure Tryz.prog G 94 [.int .i64 p0,.int .i64 p1,.int .i64 p2,.int .i64 p3] (.tup [.int .i64 r.1,.int .i64 r.2.1,.bool r.2.2]):=by
 refine qK func94 ntmps94 results94 fun N0=>?_
 unfold pG at H
 refine qA [0,1,2,3] ?_
 refine Wsq [0,1,2,3] fun K1 hK1=>?_
 obtain⟨r1,hr1,H⟩:=bE H
 obtain⟨g3,hg3,H⟩:=bE H
 obtain⟨g5,hg5,H⟩:=bE H
 refine qF tok [0,1,2,3,27] ([(0,.int .i64 p0),(1,.int .i64 p1),(2,.int .i64 p2),(3,.int .i64 p3),(27,.bool g5)]) (hp E0 [] (N0+20)) (by
  intro K k
  refine m0 ?_
  refine(c66 hr1).app (m0 ?_)
  cases hbg3:bnot r1
  .replace hg3:=ifF hbg3 hg3
   obtain⟨r2,hr2,hg3⟩:=bE hg3
   obtain rfl:=oi hg3
   refine m1 hbg3 ?_
   refine(c66 hr2).app (m1 hbg3 ?_)
   cases hbg5:(bnot r2)
   .replace hg5:=ifF hbg5 hg5
    obtain⟨r4,hr4,hg5⟩:=bE hg5
    cases oj hg5
    refine m2 hbg3 hbg5 ?_
    refine(c66 hr4).app (m2 hbg3 hbg5 ?_)
    exact k
   cases oj (ifT hbg5 hg5)
   exact m2 hbg3 hbg5 k
  cases oj (ifT hbg3 hg3)
  cases oj (ifT rfl hg5)
  refine m1 hbg3 ?_
  exact k) ?_
 refine Ci H ?_ ?_<;>intro H
 .refine qA [8,9,10] ?_
  cases oj H;exact W4
 refine Js hK1 ?_
 refine Wsq [] fun K2 hK2=>?_
 refine qA [0,1,2,28] ?_
 refine Wb ?_
 refine qA [0,1,2,28,29] ?_
 refine Ci H ?_ ?_<;>intro H
 .refine qA [8,9,10] ?_
  cases oj H;exact W4
 refine qA [0,1,2,28,32] ?_
 refine Ci H ?_ ?_<;>intro H
 .obtain⟨v6,hv6,H⟩:=bE H
  refine qB [8,9,10] hv6 ?_
  cases oj H;exact W4
 obtain⟨j1,hj1,H⟩:=bE H
 refine kP (kN fun K3 hK3=>?_)
 have hJ1:∀a J,Rc G 47 N0 (fun a J=>∃M1:Nat,N0<=M1/\a=[(0,.int .i64 p0),(1,.int .i64 p1),(2,.int .i64 p2),(38,.bool j1)]/\J=hp E0 [] M1) (a.keep [0,1,2,38]) J->K3 a J:=by
  rintro a J ⟨b,U,hr,M1,fM1_0,rfl,rfl⟩
  refine hK3 _ _ (kG [0,1,2,38] (Wre hr ?_))
  refine Ci H ?_ ?_<;>intro H
  .obtain⟨v8,hv8,H⟩:=bE H
   refine qB [8,9,10] hv8 ?_
   cases oj H;exact W4
  refine Js hK2 ?_
  refine qA [8,9,10] ?_
  cases oj H;exact W4
 replace H:=hj1
 refine qA [0,1,2,28,38] ?_
 refine Ci H ?_ ?_<;>intro H
 .refine Wsk ?_
  show K3 _ _
  refine kE [0,1,2,38] fun a' ha=>?_
  cases oj H
  refine hJ1 _ _ ?_;rw[ha]
  exact R1 (N0+27)
 refine Rt0 tok [] [0,1,2,38] fun a ha=>?_
 cases oj H
 refine hJ1 _ _ ?_;rw[ha]
 exact R1 (N0+29)

theorem c68 {p0:gCrew}{r:gCrew}(H:pB p0=some r){J:AHeap}{w0:Nat}{W0:List (List AV)}{r0_:Nat}(q0:J.objs w0=some ⟨30,6,W0⟩)(g0:W0[r0_]? =some [.fsl (eL zA p0.Codes),.osl 42 2 (eL zB p0.Threads),.fsl (eL rBox p0.Boxes),.int .i64 p0.Turn,.int .i64 p0.Idle,.osl 3 1 (eL rI p0.Out)]):ACalls Tryz.prog G 68 [.ptr w0 r0_ 0] J (fun v J'=>∃M:Nat,J.next<=M/\v=.tup []/\J'=hp J.objs [(w0,some ⟨30,6,W0.set r0_ [.fsl (eL zA r.Codes),.osl 42 2 (eL zB r.Threads),.fsl (eL rBox r.Boxes),.int .i64 r.Turn,.int .i64 r.Idle,.osl 3 1 (eL rI r.Out)]⟩)] M):=by
 refine fr1 ([(w0,some ⟨30,6,W0⟩)]) (by simp[q0]) (fun hlt=>?_) ⟨_,func68,rfl,rfl⟩
 generalize J.next=N0 at hlt ⊢
 have lw0:w0<N0:=hlt _ (.head _) rfl
 have gs_W0:∀x,(W0.set r0_ x)[r0_]? =some x:=gsetW g0
 rw[<- kC g0]
 refine fnK tok func68 ntmps68 results68 ?_
 simp only[argsA,Nat.reduceAdd,hpN]
 unfold pB at H
 refine AWP_end [] fun KE hKE=>?_
 refine gU Wre w0 r0_ 1 ?_ (hr:=by exact gs_W0 _)
 obtain⟨v1,hv1,H⟩:=bE H
 refine Sd tok tokM [] [3,7,8,9,10,11] [0,1,2,4,5,6,3,7,8,9,10,11] [0,2] (by
  intro K k
  have e0:=nQ w0 N0
  have e1:=nQ w0 (N0+11)
  simp only[pickL,zJ,zL]
  refine m1 (j e0 (j e1 (j gs_W0 (j (ixo27 hv1) ((zG hv1).2.2))))) ?_
  exact k) ?_
 refine gP Wre w0 r0_ 1 ?_ (hr:=by exact gs_W0 _)
 obtain⟨v2,hv2,H⟩:=bE H
 obtain⟨v3,hv3,H⟩:=bE H
 obtain⟨r4,hr4,H⟩:=bE H
 refine Sd tok tokM [] [3,7,11,14,18,25,26] [0,1,2,4,5,6,10,15,16,17,3,7,8,9,11,12,13,14,18,19,20,21,22,23,24,25,26,27,28,29] [0,3,4,5,6] (by
  intro K k
  have e0:=nQ w0 (N0+11)
  have e1:=nQ w0 (N0+38)
  simp only[pickL,zJ,zL]
  repeat first|simp -dsimp -implicitDefEqProofs [e0,e1,gs_W0,ix24 hv2,ix34 hv3]|refine Pc.mk (c93 hr4) ?_
  exact k) ?_
 refine gU Wre w0 r0_ 1 ?_ (hr:=by exact gs_W0 _)
 obtain⟨l5,hl5,H⟩:=bE H
 refine Sd tok tokM [] [3,7,8,9,10] [0,1,2,4,5,6,3,7,8,9,10] [0,4,5,6] (by
  intro K k
  have e0:=nQ w0 (N0+11)
  have e1:=nQ w0 (N0+38)
  have e2:=nQ w0 (N0+43)
  simp only[pickL,zJ,zL]
  refine m1 (j e0 (j e1 (j e2 (j gs_W0 (j (ixo27 hv1) (j ((zG hv1).2.2) ((setx_iff.1 hl5).2.symm))))))) ?_
  exact k) ?_
 try rw[<- zE hl5]
 have e0:=nQ w0 (N0+11)
 have e1:=nQ w0 (N0+38)
 have e2:=nQ w0 (N0+43)
 refine qB [0,5,6] (j e0 (j e1 (j e2 gs_W0))) ?_
 refine gU Wre w0 r0_ 5 ?_ (hr:=by exact gs_W0 _)
 obtain⟨l6,hl6,H⟩:=bE H
 have e0:=nQ w0 (N0+11)
 have e1:=nQ w0 (N0+38)
 have e2:=nQ w0 (N0+43)
 have e3:=nQ w0 (N0+60)
 have e4:=nQ w0 (N0+67)
 refine qB [0,6] (j e0 (j e1 (j e2 (j e3 (j e4 (j gs_W0 (app23 hl6))))))) ?_
 refine gP Wre w0 r0_ 1 ?_ (hr:=by exact gs_W0 _)
 refine gP Wre w0 r0_ 5 ?_ (hr:=by exact gs_W0 _)
 refine gU Wre w0 r0_ 1 ?_ (hr:=by exact gs_W0 _)
 obtain⟨r7,hr7,H⟩:=bE H
 refine Sd tok tokM [] [3,8,12] [0,1,2,5,6,7,9,10,11,13,3,4,8,12,14,15,16,17,18,19,20,21] [0,7,8] (by
  intro K k
  have e0:=nQ w0 (N0+11)
  have e1:=nQ w0 (N0+38)
  have e2:=nQ w0 (N0+71)
  simp only[pickL,zJ,zL]
  repeat first|simp -dsimp -implicitDefEqProofs [e0,e1,e2,gs_W0]|refine Pc.mk (c94 hr7) ?_
  exact k) ?_
 have e0:=nQ w0 (N0+11)
 have e1:=nQ w0 (N0+38)
 have e2:=nQ w0 (N0+71)
 refine qB [0,8] (j e0 (j e1 (j e2 gs_W0))) ?_
 have e0:=nQ w0 (N0+11)
 have e1:=nQ w0 (N0+38)
 have e2:=nQ w0 (N0+71)
 refine Rt tok [] [] (by intro K k;simp -dsimp -implicitDefEqProofs [e0,e1,e2,gs_W0];exact k) fun a ha=>?_
 obtain rfl:=oi H
 refine hKE _ _ ?_;rw[ha]
 refine kp [] ?_
 refine gP zH w0 r0_ 1 ?_ (hr:=by exact gs_W0 _)
 have z0:=nQ w0 (N0+11)
 have z1:=nQ w0 (N0+38)
 refine gDrop zH [(w0,some ⟨30,6,W0.set r0_ [.fsl (eL zA p0.Codes),.osl 42 2 (eL zB l5),.fsl (eL rBox r4.2.1),.int .i64 r7.1,.int .i64 r7.2.1,.osl 3 1 (eL rI l6)]⟩)] (zM (AHeap.Sub.trans (AHeap.Sub.trans (AHeap.Sub.refl _) (zU rfl (by simp;try omega))) (zU rfl (by simp;try omega)))) ?_
 refine Rc.mk ?_
 refine⟨[],by simp[z0,z1,gs_W0],N0+104,by omega,?_,?_⟩
 .simp[eN]
 first|rfl|simp

theorem c67_o2 {p0:gCrew}{r:gCrew}(H:vU p0=some r){J:AHeap}:ACalls Tryz.prog G 67 [.agg [.fsl (eL zA p0.Codes),.fsl (eL zB p0.Threads),.fsl (eL rBox p0.Boxes),.int .i64 p0.Turn,.int .i64 p0.Idle,.fsl (eL rI p0.Out)]] J (fun v J'=>∃M n0 n1:Nat,J.next<=M/\J.next<=n0/\n0<M/\J.next<=n1/\n1<M/\¬n0=n1/\v=.agg [.fsl (eL zA r.Codes),.sl n0 0 r.Threads.length,.fsl (eL rBox r.Boxes),.int .i64 r.Turn,.int .i64 r.Idle,.sl n1 0 r.Out.length]/\J'=hp J.objs [(n0,some ⟨42,2,eL zB r.Threads⟩),(n1,some ⟨3,1,eL rI r.Out⟩)] M):=by
 refine xG (L:=[]) (Q1:=fun v J'=>∃M n0 n1:Nat,J.next<=M/\J.next<=n0/\n0<M/\J.next<=n1/\n1<M/\¬n0=n1/\v=.agg [.fsl (eL zA r.Codes),.sl n0 0 r.Threads.length,.fsl (eL rBox r.Boxes),.int .i64 r.Turn,.int .i64 r.Idle,.sl n1 0 r.Out.length]/\J'=hp E0 [(n0,some ⟨42,2,eL zB r.Threads⟩),(n1,some ⟨3,1,eL rI r.Out⟩)] M) (by simp) (fun hlt=>?_) ?_ ⟨_,func67,rfl,rfl⟩
 rotate_left
 .rintro v J1 ⟨M,n0,n1,h0,h1,h2,h3,h4,h5,rfl,rfl⟩
  exact⟨_,M,rfl,by simp,by simp;try omega,M,n0,n1,h0,h1,h2,h3,h4,h5,rfl,rfl⟩
 generalize J.next=N0 at hlt ⊢
 refine yW 4 ?_
 refine fnK tok func67 ntmps67 results67 ?_
 simp only[argsA,Nat.reduceAdd,hpN]
 unfold vU at H
 refine S0 tok [0] [1,2] ?_
 refine gW Wre (N0+1) 0 0 ?_
 refine gP0 Wre (N0+1) 0 1 42 2 (eL zB ([]:List gThread)) ?_
 refine gW Wre (N0+1) 0 2 ?_
 refine gP0 Wre (N0+1) 0 5 3 1 (eL rI ([]:List Int)) ?_
 obtain⟨r1,hr1,H⟩:=bE H
 obtain⟨r2,hr2,H⟩:=bE H
 obtain⟨l3,hl3,H⟩:=bE H
 obtain⟨l4,hl4,H⟩:=bE H
 have q0:∀J i,bsA T 23 true i 0 [] J=some (.esl,J):=fun _ _=>rfl
 have q1:∀J i,bsA T 27 false i 0 [] J=some (.sl i 0 (List.length l4),J.put i ⟨42,2,eL zB l4⟩):=by rw[<- Option.some.inj hl4];exact fun _ _=>rfl
 refine Sd tok tokM [11] [3,14,16,17] [0,1,2,4,5,6,7,8,9,10,11,12,13,14,3,15,16,17] [1,2,3] (by
  intro K k
  simp only[pickL,zJ,zL]
  repeat first|simp -dsimp -implicitDefEqProofs [q0,sP hl3,q1]|refine Pc.mk (c47 hr1) ?_|refine Pc.mk (c91 hr2) ?_
  exact k) ?_
 refine Wsq [2,3] fun K1 hK1=>?_
 refine qA [1,2,3,4] ?_
 refine Wb ?_
 obtain⟨e1,hse1,H⟩:=bE H
 refine zR [1,2,3,4] (fun s a J=>∃M1 o1 o2:Nat,N0<=M1/\N0<=o1/\o1<M1/\N0<=o2/\o2<M1/\¬o1=o2/\a=[(1,.fptr [.fsl (eL zA p0.Codes),.fsl (eL zB p0.Threads),.fsl (eL rBox p0.Boxes),.int .i64 p0.Turn,.int .i64 p0.Idle,.fsl (eL rI p0.Out)] 0),(2,.ptr o1 0 0),(3,.ptr o2 0 0),(4,.int .i64 s.1)]/\J=hp E0 [(o1,some ⟨30,6,[[.fsl (eL zA s.2.1.Codes),.osl 42 2 (eL zB s.2.1.Threads),.fsl (eL rBox s.2.1.Boxes),.int .i64 s.2.1.Turn,.int .i64 s.2.1.Idle,.osl 3 1 (eL rI s.2.1.Out)]]⟩),(o2,some ⟨30,6,[[.fsl (eL zA s.2.2.Codes),.osl 42 2 (eL zB s.2.2.Threads),.fsl (eL rBox s.2.2.Boxes),.int .i64 s.2.2.Turn,.int .i64 s.2.2.Idle,.osl 3 1 (eL rI s.2.2.Out)]]⟩)] M1) (fun s x a J=>x=.exit 0/\Rc G 46 N0 (fun a J=>∃M2 o3 o4:Nat,N0<=M2/\N0<=o3/\o3<M2/\N0<=o4/\o4<M2/\¬o3=o4/\a=[(2,.ptr o3 0 0),(3,.ptr o4 0 0)]/\J=hp E0 [(o3,some ⟨30,6,[[.fsl (eL zA s.1.Codes),.osl 42 2 (eL zB s.1.Threads),.fsl (eL rBox s.1.Boxes),.int .i64 s.1.Turn,.int .i64 s.1.Idle,.osl 3 1 (eL rI s.1.Out)]]⟩),(o4,some ⟨30,6,[[.fsl (eL zA s.2.Codes),.osl 42 2 (eL zB s.2.Threads),.fsl (eL rBox s.2.Boxes),.int .i64 s.2.Turn,.int .i64 s.2.Idle,.osl 3 1 (eL rI s.2.Out)]]⟩)] M2) (AAct.keep a [2,3]) J) hse1 ?_ ?_ ?_
 .refine kp [1,2,3,4] ?_
  refine gP zH (N0+18) 0 1 ?_
  refine gP zH (N0+18) 0 5 ?_
  exact R3 (N0+21) (N0+1) (N0+18)
 .clear H hse1
  rintro⟨s5,s6,s7⟩ fl a J H ⟨M1,o1,o2,fM1_0,fM1_1,fM1_2,fM1_3,fM1_4,fM1_5,rfl,rfl⟩ K2 O2 hK2 hO2
  unfold jE at H;dsimp only at H
  refine Wsq [1,2,3,4] fun K3 hK3=>?_
  have e0:=nQ o1 o2
  refine qB [1,2,3,4,25] e0 ?_
  refine Ci H ?_ ?_<;>intro H
  .refine Js hK3 ?_
   refine Wsq [1,2,3,4] fun K4 hK4=>?_
   refine Wb ?_
   refine gU Wre o2 0 1 ?_
   obtain⟨v10,hv10,H⟩:=bE H
   obtain⟨r11,hr11,H⟩:=bE H
   obtain⟨l12,hl12,H⟩:=bE H
   have q2:∀J i,bsA T 27 true i 1 [(0,.agg [.fsl (eL rI r11.Regs),.int .i64 r11.Pc])] J=some (.fsl (eL zB ([r11]:List gThread)),J):=fun _ _=>rfl
   refine oF tok tokM [14] [1,15,17] [0,2,3,4,5,6,7,8,9,10,11,12,13,14,1,15,16,17] [1,2,3,4] (fun a J=>a=[(1,.fptr [.fsl (eL zA p0.Codes),.fsl (eL zB p0.Threads),.fsl (eL rBox p0.Boxes),.int .i64 p0.Turn,.int .i64 p0.Idle,.fsl (eL rI p0.Out)] 0),(2,.ptr o1 0 0),(3,.ptr o2 0 0),(4,.int .i64 s5)]/\J=hp E0 [(o1,some ⟨30,6,[[.fsl (eL zA s6.Codes),.osl 42 2 (eL zB s6.Threads),.fsl (eL rBox s6.Boxes),.int .i64 s6.Turn,.int .i64 s6.Idle,.osl 3 1 (eL rI s6.Out)]]⟩),(o2,some ⟨30,6,[[.fsl (eL zA s7.Codes),.sl (M1+21) 0 l12.length,.fsl (eL rBox s7.Boxes),.int .i64 s7.Turn,.int .i64 s7.Idle,.osl 3 1 (eL rI s7.Out)]]⟩),(M1+21,some ⟨42,2,eL zB l12⟩)] (M1+24)) (by decide) (fun K hK=>?_) ?_
   .simp only[pickL,zJ,zL]
    have e0:=nQ o1 o2
    have e1:=nQ o1 (M1+5)
    have e2:=nQ o1 (M1+21)
    have e3:=nQ o2 (M1+5)
    have e4:=nQ o2 (M1+21)
    refine m1 (j e0 (j e1 (j e2 (j e3 (j e4 (j (ix27 hv10) (j q2 (app27 hl12)))))))) ?_
    refine Pc.mk (c92 hr11) (m1 (j e0 (j e1 (j e2 (j e3 (j e4 (j (ix27 hv10) (j q2 (app27 hl12)))))))) ?_)
    exact hK _ _ ⟨rfl,rfl⟩
   rintro a J ⟨ha,rfl⟩
   refine hK4 _ _ ?_;rw[ha]
   refine Rc.mk ?_
   have e0:=nQ o1 o2
   have e1:=nQ o1 (M1+21)
   have e2:=nQ o2 (M1+21)
   obtain rfl:=oi H
   refine qJ (j e0 (j e1 e2)) hK2 ?_
   refine gP zH o2 0 1 ?_
   exact R3 (M1+27) o1 o2
  cases oj H
  refine zK (hO2 _ _ _ _ rfl ⟨rfl,?_⟩)
  refine kr ?_
  exact R3 (M1+5) o1 o2
 intro x a J hx
 obtain⟨y8,y9⟩:=e1
 obtain⟨rfl,b,U,hr,M2,o3,o4,fM2_0,fM2_1,fM2_2,fM2_3,fM2_4,fM2_5,rfl,rfl⟩:=hx
 (try dsimp only at H)
 show K1 _ _
 refine hK1 _ _ (zH hr ?_)
 refine Rc.mk ?_
 refine gU Wre o4 0 1 ?_
 refine gU Wre o4 0 5 ?_
 have e0:=nQ o3 o4
 have e1:=nQ o3 M2
 have e2:=nQ o3 (M2+1)
 have e3:=nQ o4 M2
 have e4:=nQ o4 (M2+1)
 refine qB [2] (j e0 (j e1 (j e2 (j e3 e4)))) ?_
 obtain rfl:=oi H
 refine Kp [2] ?_
 refine gDrop Wre [(o3,some ⟨30,6,[[.fsl (eL zA y9.Codes),.sl M2 0 y9.Threads.length,.fsl (eL rBox y9.Boxes),.int .i64 y9.Turn,.int .i64 y9.Idle,.sl (M2+1) 0 y9.Out.length]]⟩),(M2,some ⟨42,2,eL zB y9.Threads⟩),(M2+1,some ⟨3,1,eL rI y9.Out⟩)] (zM (AHeap.Sub.trans (zM (zM (AHeap.Sub.refl _))) (zU rfl (by simp;try omega)))) ?_
 refine gP Wre o3 0 1 ?_
 refine gP Wre o3 0 5 ?_
 refine gU Wre o3 0 1 ?_
 refine gU Wre o3 0 5 ?_
 have z0:=nQ o3 (M2+4)
 have z1:=nQ o3 (M2+5)
 refine Wr ?_
 refine⟨[.agg [.fsl (eL zA y9.Codes),.sl (M2+4) 0 y9.Threads.length,.fsl (eL rBox y9.Boxes),.int .i64 y9.Turn,.int .i64 y9.Idle,.sl (M2+5) 0 y9.Out.length]],by simp[z0,z1],(fun o=>[o3].contains o),M2+6,M2+4,M2+5,by omega,by omega,by omega,by omega,by omega,by omega,?_,?_⟩
 .simp[eN,z0,z1]
 rw[cutD (L':=[(M2+4,some ⟨42,2,eL zB y9.Threads⟩),(M2+5,some ⟨3,1,eL rI y9.Out⟩)]) (by simp[z0,z1])]
 first|done|rfl|simp

theorem c28 {p0:gCrew}{p1:Int}{r:gCrew×Bool}(H:tT p0 p1=some r):APure Tryz.prog G 28 [.agg [.fsl (eL zA p0.Codes),.fsl (eL zB p0.Threads),.fsl (eL rBox p0.Boxes),.int .i64 p0.Turn,.int .i64 p0.Idle,.fsl (eL rI p0.Out)],.int .i64 p1] (.tup [.agg [.fsl (eL zA r.1.Codes),.fsl (eL zB r.1.Threads),.fsl (eL rBox r.1.Boxes),.int .i64 r.1.Turn,.int .i64 r.1.Idle,.fsl (eL rI r.1.Out)],.bool r.2]):=by
 refine qK func28 ntmps28 results28 fun N0=>?_
 unfold tT at H
 refine S0 tok [0] [1,2,4] ?_
 refine Wsq [1,2,4] fun K1 hK1=>?_
 refine gW Wre (N0+1) 0 0 ?_
 refine gW Wre (N0+1) 0 1 ?_
 refine gW Wre (N0+1) 0 2 ?_
 refine gW Wre (N0+1) 0 5 ?_
 obtain⟨r1,hr1,H⟩:=bE H
 obtain⟨g3,hg3,H⟩:=bE H
 refine qF tok [1,2,4,15] ([(1,.int .i64 p1),(2,.fptr [.fsl (eL zA p0.Codes),.fsl (eL zB p0.Threads),.fsl (eL rBox p0.Boxes),.int .i64 p0.Turn,.int .i64 p0.Idle,.fsl (eL rI p0.Out)] 0),(4,.ptr (N0+1) 0 0),(15,.bool g3)]) (hp E0 [(N0+1,some ⟨30,6,[[.fsl [],.fsl [],.fsl [],.int .i64 0,.int .i64 0,.fsl []]]⟩)] (N0+11)) (by
  intro K k
  refine m0 ?_
  refine(c49 hr1).app (m0 ?_)
  cases hbg3:bnot r1
  .replace hg3:=ifF hbg3 hg3
   obtain⟨r2,hr2,hg3⟩:=bE hg3
   cases oj hg3
   refine m1 hbg3 ?_
   refine(c66 hr2).app (m1 hbg3 ?_)
   exact k
  cases oj (ifT hbg3 hg3)
  refine m1 hbg3 ?_
  exact k) ?_
 refine Ci H ?_ ?_<;>intro H
 .refine qA [4,5] ?_
  cases oj H
  refine Kp [4,5] ?_
  exact V0
 refine Js hK1 ?_
 obtain⟨r4,hr4,H⟩:=bE H
 refine jC tok [] [1,4,6] (fun a J=>∃M1 o1 o2:Nat,N0+15<=M1/\N0+15<=o1/\o1<M1/\N0+15<=o2/\o2<M1/\¬o1=o2/\a=[(1,.int .i64 p1),(4,.ptr (N0+1) 0 0),(6,.ptr (N0+13) 0 0)]/\J=hp E0 [(N0+1,some ⟨30,6,[[.fsl [],.fsl [],.fsl [],.int .i64 0,.int .i64 0,.fsl []]]⟩),(o1,some ⟨42,2,eL zB r4.Threads⟩),(o2,some ⟨3,1,eL rI r4.Out⟩),(N0+13,some ⟨30,6,[[.fsl (eL zA r4.Codes),.sl o1 0 r4.Threads.length,.fsl (eL rBox r4.Boxes),.int .i64 r4.Turn,.int .i64 r4.Idle,.sl o2 0 r4.Out.length]]⟩)] M1) (fun K hK=>?_) ?_
 .skip
  refine m0 ?_
  refine(c67_o2 (H:=hr4)).mono ?_;rintro _ _ ⟨M1,o1,o2,fM1_0,fM1_1,fM1_2,fM1_3,fM1_4,fM1_5,rfl,rfl⟩;simp only[hpN] at fM1_0 fM1_1 fM1_2 fM1_3 fM1_4 fM1_5
  have eM1_0:=nQ o1 (N0+1)
  have eM1_1:=nQ o1 (N0+13)
  have eM1_2:=nQ o1 o2
  have eM1_3:=nQ o2 (N0+1)
  have eM1_4:=nQ o2 (N0+13)
  refine m1 (j eM1_0 (j eM1_1 (j eM1_2 (j eM1_3 (j eM1_4 (j @hoS @hoN)))))) ?_
  exact hK _ _ ⟨M1,o1,o2,(by omega),(by omega),(by omega),(by omega),(by omega),(by omega),rfl,rfl⟩
 rintro a J ⟨M1,o1,o2,fM1_0,fM1_1,fM1_2,fM1_3,fM1_4,fM1_5,rfl,rfl⟩
 refine Wsq [4,6] fun K2 hK2=>?_
 have e0:=nQ (N0+1) o1
 have e1:=nQ (N0+1) o2
 have e2:=nQ o1 o2
 have e3:=nQ o1 (N0+13)
 have e4:=nQ o2 (N0+13)
 refine qB [1,4,6,7] (j e0 (j e1 (j e2 (j e3 e4)))) ?_
 refine Wb ?_
 obtain⟨e1,hse1,H⟩:=bE H
 refine zR [1,4,6,7] (fun s a J=>∃M2 o3 o4:Nat,N0<=M2/\N0<=o3/\o3<M2/\N0<=o4/\o4<M2/\¬o3=o4/\a=[(1,.int .i64 p1),(4,.ptr o3 0 0),(6,.ptr o4 0 0),(7,.int .i64 s.1)]/\J=hp E0 [(o3,some ⟨30,6,[[.fsl (eL zA s.2.1.Codes),.fsl (eL zB s.2.1.Threads),.fsl (eL rBox s.2.1.Boxes),.int .i64 s.2.1.Turn,.int .i64 s.2.1.Idle,.fsl (eL rI s.2.1.Out)]]⟩),(o4,some ⟨30,6,[[.fsl (eL zA s.2.2.Codes),.osl 42 2 (eL zB s.2.2.Threads),.fsl (eL rBox s.2.2.Boxes),.int .i64 s.2.2.Turn,.int .i64 s.2.2.Idle,.osl 3 1 (eL rI s.2.2.Out)]]⟩)] M2) (fun s x a J=>x=.exit 0/\Rc G 34 N0 (fun a J=>∃M3 o5 o6:Nat,N0<=M3/\N0<=o5/\o5<M3/\N0<=o6/\o6<M3/\¬o5=o6/\a=[(4,.ptr o5 0 0),(6,.ptr o6 0 0)]/\J=hp E0 [(o5,some ⟨30,6,[[.fsl (eL zA s.1.Codes),.fsl (eL zB s.1.Threads),.fsl (eL rBox s.1.Boxes),.int .i64 s.1.Turn,.int .i64 s.1.Idle,.fsl (eL rI s.1.Out)]]⟩),(o6,some ⟨30,6,[[.fsl (eL zA s.2.Codes),.osl 42 2 (eL zB s.2.Threads),.fsl (eL rBox s.2.Boxes),.int .i64 s.2.Turn,.int .i64 s.2.Idle,.osl 3 1 (eL rI s.2.Out)]]⟩)] M3) (AAct.keep a [4,6]) J) hse1 ?_ ?_ ?_
 .refine kp [1,4,6,7] ?_
  refine gP zH (N0+13) 0 1 ?_
  refine gP zH (N0+13) 0 5 ?_
  exact R3 (M1+1) (N0+1) (N0+13)
 .clear H hse1
  rintro⟨s5,s6,s7⟩ fl a J H ⟨M2,o3,o4,fM2_0,fM2_1,fM2_2,fM2_3,fM2_4,fM2_5,rfl,rfl⟩ K3 O3 hK3 hO3
  unfold xR at H;dsimp only at H
  refine Wsq [1,4,6,7] fun K4 hK4=>?_
  refine gU Wre o4 0 1 ?_
  obtain⟨g10,hg10,H⟩:=bE H
  refine qF tok [1,4,6,7,29] ([(1,.int .i64 p1),(4,.ptr o3 0 0),(6,.ptr o4 0 0),(7,.int .i64 s5),(29,.bool g10)]) (hp E0 [(o3,some ⟨30,6,[[.fsl (eL zA s6.Codes),.fsl (eL zB s6.Threads),.fsl (eL rBox s6.Boxes),.int .i64 s6.Turn,.int .i64 s6.Idle,.fsl (eL rI s6.Out)]]⟩),(o4,some ⟨30,6,[[.fsl (eL zA s7.Codes),.sl M2 0 s7.Threads.length,.fsl (eL rBox s7.Boxes),.int .i64 s7.Turn,.int .i64 s7.Idle,.osl 3 1 (eL rI s7.Out)]]⟩),(M2,some ⟨42,2,eL zB s7.Threads⟩)] (M2+12)) (by
   intro K k
   have e0:=nQ o3 o4
   have e1:=nQ o3 M2
   have e2:=nQ o4 M2
   refine m1 (j e0 (j e1 e2)) ?_
   cases hbg10:ilt s5 p1
   .cases oj (ifF hbg10 hg10)
    exact m1 (j e0 (j e1 (j e2 hbg10))) k
   cases oj (ifT hbg10 hg10)
   refine m1 (j e0 (j e1 (j e2 hbg10))) ?_
   exact k) ?_
  refine Ci H ?_ ?_<;>intro H
  .refine Js hK4 ?_
   refine Wsq [1,4,6,7] fun K5 hK5=>?_
   refine Wb ?_
   refine gP Wre o4 0 1 ?_
   obtain⟨r11,hr11,H⟩:=bE H
   refine hG tok [] [1,4,6,7] (fun a J=>∃M4:Nat,M2+13<=M4/\a=[(1,.int .i64 p1),(4,.ptr o3 0 0),(6,.ptr o4 0 0),(7,.int .i64 s5)]/\J=hp E0 [(o3,some ⟨30,6,[[.fsl (eL zA s6.Codes),.fsl (eL zB s6.Threads),.fsl (eL rBox s6.Boxes),.int .i64 s6.Turn,.int .i64 s6.Idle,.fsl (eL rI s6.Out)]]⟩),(o4,some ⟨30,6,[[.fsl (eL zA r11.Codes),.osl 42 2 (eL zB r11.Threads),.fsl (eL rBox r11.Boxes),.int .i64 r11.Turn,.int .i64 r11.Idle,.osl 3 1 (eL rI r11.Out)]]⟩)] M4) (fun K hK=>?_) ?_
   .skip
    have e0:=nQ o3 o4
    refine m1 e0 ?_
    refine mc e0 (c68 (r0_:=0) (H:=hr11)) fun M4 fM4_0=>?_
    refine m1 (j e0 (j @hoS @hoN)) ?_
    exact hK _ _ ⟨M4,(by omega),rfl,rfl⟩
   rintro a J ⟨M4,fM4_0,ha,rfl⟩
   refine hK5 _ _ ?_;rw[ha]
   refine Rc.mk ?_
   have e0:=nQ o3 o4
   obtain rfl:=oi H
   refine qJ e0 hK3 ?_
   exact R3 (M4+3) o3 o4
  cases oj H
  refine zK (hO3 _ _ _ _ rfl ⟨rfl,?_⟩)
  refine kr ?_
  refine gP zH o4 0 1 ?_
  exact R3 (M2+12) o3 o4
 intro x a J hx
 obtain⟨y8,y9⟩:=e1
 obtain⟨rfl,b,U,hr,M3,o5,o6,fM3_0,fM3_1,fM3_2,fM3_3,fM3_4,fM3_5,rfl,rfl⟩:=hx
 (try dsimp only at H)
 show K2 _ _
 refine hK2 _ _ (zH hr ?_)
 refine Rc.mk ?_
 refine gU Wre o6 0 1 ?_
 refine gU Wre o6 0 5 ?_
 have e0:=nQ o5 o6
 have e1:=nQ o5 M3
 have e2:=nQ o5 (M3+1)
 have e3:=nQ o6 M3
 have e4:=nQ o6 (M3+1)
 refine qB [4,5] (j e0 (j e1 (j e2 (j e3 e4)))) ?_
 obtain rfl:=oi H
 refine Kp [4,5] ?_
 have z0:=nQ o5 o6
 have z1:=nQ o5 M3
 have z2:=nQ o5 (M3+1)
 have z3:=nQ o6 M3
 have z4:=nQ o6 (M3+1)
 refine Wr ?_
 exact⟨[.agg [.fsl (eL zA y9.Codes),.sl M3 0 y9.Threads.length,.fsl (eL rBox y9.Boxes),.int .i64 y9.Turn,.int .i64 y9.Idle,.sl (M3+1) 0 y9.Out.length],.bool true],by simp[z0,z1,z2,z3,z4],4,by simp[eN,z0,z1,z2,z3,z4]⟩

theorem c28_o {p0:gCrew}{p1:Int}{r:gCrew×Bool}(H:nP p0 p1=some r){J:AHeap}:ACalls Tryz.prog G 28 [.agg [.fsl (eL zA p0.Codes),.fsl (eL zB p0.Threads),.fsl (eL rBox p0.Boxes),.int .i64 p0.Turn,.int .i64 p0.Idle,.fsl (eL rI p0.Out)],.int .i64 p1] J (fun v J'=>∃M n0:Nat,J.next<=M/\J.next<=n0/\n0<M/\v=.tup [.agg [.fsl (eL zA r.1.Codes),.sl n0 0 r.1.Threads.length,.fsl (eL rBox r.1.Boxes),.int .i64 r.1.Turn,.int .i64 r.1.Idle,.fsl (eL rI r.1.Out)],.bool r.2]/\J'=hp J.objs [(n0,some ⟨42,2,eL zB r.1.Threads⟩)] M):=by
 refine fr2 [] (by simp) (fun hlt=>?_) ⟨_,func28,rfl,rfl⟩
 generalize J.next=N0 at hlt ⊢
 refine yW 4 ?_
 refine fnK tok func28 ntmps28 results28 ?_
 simp only[argsA,Nat.reduceAdd,hpN]
 unfold nP at H
 refine S0 tok [0] [1,2,4] ?_
 refine Wsq [1,2,4] fun K1 hK1=>?_
 refine gW Wre (N0+1) 0 0 ?_
 refine gP0 Wre (N0+1) 0 1 42 2 (eL zB ([]:List gThread)) ?_
 refine gW Wre (N0+1) 0 2 ?_
 refine gP0 Wre (N0+1) 0 5 3 1 (eL rI ([]:List Int)) ?_
 obtain⟨r1,hr1,H⟩:=bE H
 obtain⟨g3,hg3,H⟩:=bE H
 refine qF tok [1,2,4,15] ([(1,.int .i64 p1),(2,.fptr [.fsl (eL zA p0.Codes),.fsl (eL zB p0.Threads),.fsl (eL rBox p0.Boxes),.int .i64 p0.Turn,.int .i64 p0.Idle,.fsl (eL rI p0.Out)] 0),(4,.ptr (N0+1) 0 0),(15,.bool g3)]) (hp E0 [(N0+1,some ⟨30,6,[[.fsl [],.osl 42 2 (eL zB ([]:List gThread)),.fsl [],.int .i64 0,.int .i64 0,.osl 3 1 (eL rI ([]:List Int))]]⟩)] (N0+11)) (by
  intro K k
  refine m0 ?_
  refine(c49 hr1).app (m0 ?_)
  cases hbg3:bnot r1
  .replace hg3:=ifF hbg3 hg3
   obtain⟨r2,hr2,hg3⟩:=bE hg3
   cases oj hg3
   refine m1 hbg3 ?_
   refine(c66 hr2).app (m1 hbg3 ?_)
   exact k
  cases oj (ifT hbg3 hg3)
  refine m1 hbg3 ?_
  exact k) ?_
 refine Ci H ?_ ?_<;>intro H
 .refine S0 tok [0] [4,5] ?_
  cases oj H
  refine Kp [4,5] ?_
  refine gW Wre (N0+1) 0 0 ?_
  refine gP0 Wre (N0+1) 0 1 42 2 (eL zB ([]:List gThread)) ?_
  refine gW Wre (N0+1) 0 2 ?_
  refine gP0 Wre (N0+1) 0 5 3 1 (eL rI ([]:List Int)) ?_
  refine gU Wre (N0+1) 0 1 ?_
  refine gU Wre (N0+1) 0 5 ?_
  refine Wr ?_
  refine⟨[.agg [.fsl [],.sl (N0+14) 0 ([]:List gThread).length,.fsl [],.int .i64 0,.int .i64 0,.sl (N0+15) 0 ([]:List Int).length],.bool false],by simp,(fun o=>[N0+1,N0+15].contains o),N0+16,N0+14,by omega,by omega,by omega,?_,?_⟩
  .simp[eN]
  rw[cutD (L':=[(N0+14,some ⟨42,2,eL zB ([]:List gThread)⟩)]) (by simp)]
  first|done|rfl|simp
 refine Js hK1 ?_
 obtain⟨r4,hr4,H⟩:=bE H
 refine jC tok [] [1,4,6] (fun a J=>∃M1 o1 o2:Nat,N0+15<=M1/\N0+15<=o1/\o1<M1/\N0+15<=o2/\o2<M1/\¬o1=o2/\a=[(1,.int .i64 p1),(4,.ptr (N0+1) 0 0),(6,.ptr (N0+13) 0 0)]/\J=hp E0 [(N0+1,some ⟨30,6,[[.fsl [],.osl 42 2 (eL zB ([]:List gThread)),.fsl [],.int .i64 0,.int .i64 0,.osl 3 1 (eL rI ([]:List Int))]]⟩),(o1,some ⟨42,2,eL zB r4.Threads⟩),(o2,some ⟨3,1,eL rI r4.Out⟩),(N0+13,some ⟨30,6,[[.fsl (eL zA r4.Codes),.sl o1 0 r4.Threads.length,.fsl (eL rBox r4.Boxes),.int .i64 r4.Turn,.int .i64 r4.Idle,.sl o2 0 r4.Out.length]]⟩)] M1) (fun K hK=>?_) ?_
 .skip
  refine m0 ?_
  refine(c67_o2 (H:=hr4)).mono ?_;rintro _ _ ⟨M1,o1,o2,fM1_0,fM1_1,fM1_2,fM1_3,fM1_4,fM1_5,rfl,rfl⟩;simp only[hpN] at fM1_0 fM1_1 fM1_2 fM1_3 fM1_4 fM1_5
  have eM1_0:=nQ o1 (N0+1)
  have eM1_1:=nQ o1 (N0+13)
  have eM1_2:=nQ o1 o2
  have eM1_3:=nQ o2 (N0+1)
  have eM1_4:=nQ o2 (N0+13)
  refine m1 (j eM1_0 (j eM1_1 (j eM1_2 (j eM1_3 (j eM1_4 (j @hoS @hoN)))))) ?_
  exact hK _ _ ⟨M1,o1,o2,(by omega),(by omega),(by omega),(by omega),(by omega),(by omega),rfl,rfl⟩
 rintro a J ⟨M1,o1,o2,fM1_0,fM1_1,fM1_2,fM1_3,fM1_4,fM1_5,rfl,rfl⟩
 refine Wsq [4,6] fun K2 hK2=>?_
 have e0:=nQ (N0+1) o1
 have e1:=nQ (N0+1) o2
 have e2:=nQ o1 o2
 have e3:=nQ o1 (N0+13)
 have e4:=nQ o2 (N0+13)
 refine qB [1,4,6,7] (j e0 (j e1 (j e2 (j e3 e4)))) ?_
 refine Wb ?_
 obtain⟨e1,hse1,H⟩:=bE H
 refine zR [1,4,6,7] (fun s a J=>∃M2 o3 o4:Nat,N0<=M2/\N0<=o3/\o3<M2/\N0<=o4/\o4<M2/\¬o3=o4/\a=[(1,.int .i64 p1),(4,.ptr o3 0 0),(6,.ptr o4 0 0),(7,.int .i64 s.1)]/\J=hp E0 [(o3,some ⟨30,6,[[.fsl (eL zA s.2.1.Codes),.osl 42 2 (eL zB s.2.1.Threads),.fsl (eL rBox s.2.1.Boxes),.int .i64 s.2.1.Turn,.int .i64 s.2.1.Idle,.osl 3 1 (eL rI s.2.1.Out)]]⟩),(o4,some ⟨30,6,[[.fsl (eL zA s.2.2.Codes),.osl 42 2 (eL zB s.2.2.Threads),.fsl (eL rBox s.2.2.Boxes),.int .i64 s.2.2.Turn,.int .i64 s.2.2.Idle,.osl 3 1 (eL rI s.2.2.Out)]]⟩)] M2) (fun s x a J=>x=.exit 0/\Rc G 34 N0 (fun a J=>∃M3 o5 o6:Nat,N0<=M3/\N0<=o5/\o5<M3/\N0<=o6/\o6<M3/\¬o5=o6/\a=[(4,.ptr o5 0 0),(6,.ptr o6 0 0)]/\J=hp E0 [(o5,some ⟨30,6,[[.fsl (eL zA s.1.Codes),.osl 42 2 (eL zB s.1.Threads),.fsl (eL rBox s.1.Boxes),.int .i64 s.1.Turn,.int .i64 s.1.Idle,.osl 3 1 (eL rI s.1.Out)]]⟩),(o6,some ⟨30,6,[[.fsl (eL zA s.2.Codes),.osl 42 2 (eL zB s.2.Threads),.fsl (eL rBox s.2.Boxes),.int .i64 s.2.Turn,.int .i64 s.2.Idle,.osl 3 1 (eL rI s.2.Out)]]⟩)] M3) (AAct.keep a [4,6]) J) hse1 ?_ ?_ ?_
 .refine kp [1,4,6,7] ?_
  refine gP zH (N0+13) 0 1 ?_
  refine gP zH (N0+13) 0 5 ?_
  exact R3 (M1+1) (N0+1) (N0+13)
 .clear H hse1
  rintro⟨s5,s6,s7⟩ fl a J H ⟨M2,o3,o4,fM2_0,fM2_1,fM2_2,fM2_3,fM2_4,fM2_5,rfl,rfl⟩ K3 O3 hK3 hO3
  unfold gI at H;dsimp only at H
  refine Wsq [1,4,6,7] fun K4 hK4=>?_
  refine gU Wre o4 0 1 ?_
  obtain⟨g10,hg10,H⟩:=bE H
  refine qF tok [1,4,6,7,29] ([(1,.int .i64 p1),(4,.ptr o3 0 0),(6,.ptr o4 0 0),(7,.int .i64 s5),(29,.bool g10)]) (hp E0 [(o3,some ⟨30,6,[[.fsl (eL zA s6.Codes),.osl 42 2 (eL zB s6.Threads),.fsl (eL rBox s6.Boxes),.int .i64 s6.Turn,.int .i64 s6.Idle,.osl 3 1 (eL rI s6.Out)]]⟩),(o4,some ⟨30,6,[[.fsl (eL zA s7.Codes),.sl M2 0 s7.Threads.length,.fsl (eL rBox s7.Boxes),.int .i64 s7.Turn,.int .i64 s7.Idle,.osl 3 1 (eL rI s7.Out)]]⟩),(M2,some ⟨42,2,eL zB s7.Threads⟩)] (M2+12)) (by
   intro K k
   have e0:=nQ o3 o4
   have e1:=nQ o3 M2
   have e2:=nQ o4 M2
   refine m1 (j e0 (j e1 e2)) ?_
   cases hbg10:ilt s5 p1
   .cases oj (ifF hbg10 hg10)
    exact m1 (j e0 (j e1 (j e2 hbg10))) k
   cases oj (ifT hbg10 hg10)
   refine m1 (j e0 (j e1 (j e2 hbg10))) ?_
   exact k) ?_
  refine Ci H ?_ ?_<;>intro H
  .refine Js hK4 ?_
   refine Wsq [1,4,6,7] fun K5 hK5=>?_
   refine Wb ?_
   refine gP Wre o4 0 1 ?_
   obtain⟨r11,hr11,H⟩:=bE H
   refine hG tok [] [1,4,6,7] (fun a J=>∃M4:Nat,M2+13<=M4/\a=[(1,.int .i64 p1),(4,.ptr o3 0 0),(6,.ptr o4 0 0),(7,.int .i64 s5)]/\J=hp E0 [(o3,some ⟨30,6,[[.fsl (eL zA s6.Codes),.osl 42 2 (eL zB s6.Threads),.fsl (eL rBox s6.Boxes),.int .i64 s6.Turn,.int .i64 s6.Idle,.osl 3 1 (eL rI s6.Out)]]⟩),(o4,some ⟨30,6,[[.fsl (eL zA r11.Codes),.osl 42 2 (eL zB r11.Threads),.fsl (eL rBox r11.Boxes),.int .i64 r11.Turn,.int .i64 r11.Idle,.osl 3 1 (eL rI r11.Out)]]⟩)] M4) (fun K hK=>?_) ?_
   .skip
    have e0:=nQ o3 o4
    refine m1 e0 ?_
    refine mc e0 (c68 (r0_:=0) (H:=hr11)) fun M4 fM4_0=>?_
    refine m1 (j e0 (j @hoS @hoN)) ?_
    exact hK _ _ ⟨M4,(by omega),rfl,rfl⟩
   rintro a J ⟨M4,fM4_0,ha,rfl⟩
   refine hK5 _ _ ?_;rw[ha]
   refine Rc.mk ?_
   have e0:=nQ o3 o4
   obtain rfl:=oi H
   refine qJ e0 hK3 ?_
   exact R3 (M4+3) o3 o4
  cases oj H
  refine zK (hO3 _ _ _ _ rfl ⟨rfl,?_⟩)
  refine kr ?_
  refine gP zH o4 0 1 ?_
  exact R3 (M2+12) o3 o4
 intro x a J hx
 obtain⟨y8,y9⟩:=e1
 obtain⟨rfl,b,U,hr,M3,o5,o6,fM3_0,fM3_1,fM3_2,fM3_3,fM3_4,fM3_5,rfl,rfl⟩:=hx
 (try dsimp only at H)
 show K2 _ _
 refine hK2 _ _ (zH hr ?_)
 refine Rc.mk ?_
 refine gU Wre o6 0 1 ?_
 refine gU Wre o6 0 5 ?_
 have e0:=nQ o5 o6
 have e1:=nQ o5 M3
 have e2:=nQ o5 (M3+1)
 have e3:=nQ o6 M3
 have e4:=nQ o6 (M3+1)
 refine qB [4,5] (j e0 (j e1 (j e2 (j e3 e4)))) ?_
 obtain rfl:=oi H
 refine Kp [4,5] ?_
 refine gDrop Wre [(o5,some ⟨30,6,[[.fsl (eL zA y9.Codes),.sl M3 0 y9.Threads.length,.fsl (eL rBox y9.Boxes),.int .i64 y9.Turn,.int .i64 y9.Idle,.sl (M3+1) 0 y9.Out.length]]⟩),(M3,some ⟨42,2,eL zB y9.Threads⟩),(M3+1,some ⟨3,1,eL rI y9.Out⟩)] (zM (AHeap.Sub.trans (zM (zM (AHeap.Sub.refl _))) (zU rfl (by simp;try omega)))) ?_
 refine gP Wre o5 0 1 ?_
 refine gP Wre o5 0 5 ?_
 refine gU Wre o5 0 1 ?_
 refine gU Wre o5 0 5 ?_
 have z0:=nQ o5 (M3+5)
 have z1:=nQ o5 (M3+6)
 refine Wr ?_
 refine⟨[.agg [.fsl (eL zA y9.Codes),.sl (M3+5) 0 y9.Threads.length,.fsl (eL rBox y9.Boxes),.int .i64 y9.Turn,.int .i64 y9.Idle,.sl (M3+6) 0 y9.Out.length],.bool true],by simp[z0,z1],(fun o=>[o5,M3+6].contains o),M3+7,M3+5,by omega,by omega,by omega,?_,?_⟩
 .simp[eN,z0,z1]
 rw[cutD (L':=[(M3+5,some ⟨42,2,eL zB y9.Threads⟩)]) (by simp[z0,z1])]
 first|done|rfl|simp

theorem c65 {p0:gL6Rd}{r:gCrew×gL6Rd}(H:oH p0=some r){J:AHeap}{w0:Nat}{W0:List (List AV)}{r0_:Nat}(q0:J.objs w0=some ⟨105,2,W0⟩)(g0:W0[r0_]? =some [.fsl (eL rU8 p0.b),.int .i64 p0.p]):ACalls Tryz.prog G 65 [.ptr w0 r0_ 0] J (fun v J'=>∃M:Nat,J.next<=M/\v=.agg [.fsl (eL zA r.1.Codes),.fsl (eL zB r.1.Threads),.fsl (eL rBox r.1.Boxes),.int .i64 r.1.Turn,.int .i64 r.1.Idle,.fsl (eL rI r.1.Out)]/\J'=hp J.objs [(w0,some ⟨105,2,W0.set r0_ [.fsl (eL rU8 r.2.b),.int .i64 r.2.p]⟩)] M):=by
 refine fr1 ([(w0,some ⟨105,2,W0⟩)]) (by simp[q0]) (fun hlt=>?_) ⟨_,func65,rfl,rfl⟩
 generalize J.next=N0 at hlt ⊢
 have lw0:w0<N0:=hlt _ (.head _) rfl
 have gs_W0:∀x,(W0.set r0_ x)[r0_]? =some x:=gsetW g0
 rw[<- kC g0]
 refine yW 4 ?_
 refine fnK tok func65 ntmps65 results65 ?_
 simp only[argsA,Nat.reduceAdd,hpN]
 unfold oH at H
 have e0:=nQ w0 N0
 refine qC [0,2] e0 gs_W0 ?_
 refine gW Wre N0 0 0 ?_
 refine gP0 Wre N0 0 1 42 2 (eL zB ([]:List gThread)) ?_
 refine gW Wre N0 0 2 ?_
 refine gW Wre N0 0 5 ?_
 obtain⟨r1,hr1,H⟩:=bE H
 obtain⟨r2,hr2,H⟩:=bE H
 obtain⟨r3,hr3,H⟩:=bE H
 obtain⟨r4,hr4,H⟩:=bE H
 have q0:∀J i,bsA T 23 true i 2 [(0,.int .i64 (iadd .i64 1 r1.1)),(1,.int .i64 (iadd .i64 1 r2.1))] J=some (.fsl (eL rI ([iadd .i64 1 r1.1,iadd .i64 1 r2.1]:List Int)),J):=fun _ _=>rfl
 refine Sm tok [6] [0,2,3] (N0+17) (by
  intro K k
  have e0:=nQ w0 N0
  have e1:=nQ w0 (N0+14)
  refine m1 (j e0 (j e1 (j gs_W0 q0))) ?_
  refine mc (j e0 (j e1 (j gs_W0 q0))) (c41 (r0_:=r0_) (H:=hr1)) fun M1 fM1_0=>?_
  refine m1 (j e0 (j e1 (j gs_W0 (j q0 (j @hoS @hoN))))) ?_
  refine mc (j e0 (j e1 (j gs_W0 (j q0 (j @hoS @hoN))))) (c41 (r0_:=r0_) (H:=hr2)) fun M2 fM2_0=>?_
  refine m1 (j e0 (j e1 (j gs_W0 (j q0 (j @hoS @hoN))))) ?_
  refine mc (j e0 (j e1 (j gs_W0 (j q0 (j @hoS @hoN))))) (c42 (r0_:=r0_) (H:=hr3)) fun M3 fM3_0=>?_
  refine m1 (j e0 (j e1 (j gs_W0 (j q0 (j @hoS @hoN))))) ?_
  refine(c14 hr4).app (m1 (j e0 (j e1 (j gs_W0 (j q0 (j @hoS @hoN))))) ?_)
  exact k M3 (by omega)) fun M3 fM3_0=>?_
 have z0:=nQ w0 N0
 have z1:=nQ w0 (N0+14)
 refine gFrz Wre 4 [N0+14] [(w0,some ⟨105,2,W0.set r0_ [.fsl (eL rU8 r3.2.b),.int .i64 r3.2.p]⟩),(N0,some ⟨30,6,[[.fsl [],.osl 42 2 (eL zB ([]:List gThread)),.fsl [],.int .i64 0,.int .i64 0,.fsl []]]⟩)] [(0,.ptr w0 r0_ 0),(2,.ptr N0 0 0),(3,.fptr [.fsl (eL zA r4.1.Codes),.fsl (eL zB r4.1.Threads),.fsl (eL rBox r4.1.Boxes),.int .i64 r4.1.Turn,.int .i64 r4.1.Idle,.fsl (eL rI r4.1.Out)] 0)] (by simp[z0,z1]) (cutD (by simp[z0,z1])) ?_
 obtain⟨r5,hr5,H⟩:=bE H
 obtain⟨r6,hr6,H⟩:=bE H
 refine AWP_syC tok tokM [] [2,3,7,8] [0,1,2,3,4,5,6,7,8,9] [] [0,2,5] (fun a J=>∃M4:Nat,∃M5 o1:Nat,M3+10<=M4/\M4<=M5/\M4<=o1/\o1<M5/\a=[(0,.ptr w0 r0_ 0),(2,.ptr N0 0 0),(5,.ptr (M3+7) 0 0)]/\J=hp E0 [(w0,some ⟨105,2,W0.set r0_ [.fsl (eL rU8 r5.2.b),.int .i64 r5.2.p]⟩),(N0,some ⟨30,6,[[.fsl [],.osl 42 2 (eL zB ([]:List gThread)),.fsl [],.int .i64 0,.int .i64 0,.fsl []]]⟩),(o1,some ⟨42,2,eL zB r6.1.Threads⟩),(M3+7,some ⟨30,6,[[.fsl (eL zA r6.1.Codes),.sl o1 0 r6.1.Threads.length,.fsl (eL rBox r6.1.Boxes),.int .i64 r6.1.Turn,.int .i64 r6.1.Idle,.fsl (eL rI r6.1.Out)]]⟩)] M5) (by decide) (by kernel_rfl) (fun K hK=>?_) ?_
 .simp only[pickL,zJ,zL]
  have e0:=nQ w0 N0
  have e1:=nQ w0 (M3+7)
  have e2:=nQ N0 (M3+7)
  refine m1 (j e0 (j e1 (j e2 gs_W0))) ?_
  refine mc (j e0 (j e1 (j e2 gs_W0))) (c41 (r0_:=r0_) (H:=hr5)) fun M4 fM4_0=>?_
  refine m1 (j e0 (j e1 (j e2 (j gs_W0 (j @hoS @hoN))))) ?_
  refine mo (c28_o (H:=hr6)) fun M5 o1 fM5_0 fM5_1 fM5_2=>?_
  have eM5_0:=nQ o1 w0
  have eM5_1:=nQ o1 N0
  have eM5_2:=nQ o1 (M3+7)
  refine m1 (j e0 (j e1 (j e2 (j gs_W0 (j @hoS (j @hoN (j eM5_0 (j eM5_1 eM5_2)))))))) ?_
  exact hK _ _ ⟨M4,M5,o1,(by omega),(by omega),(by omega),(by omega),rfl,rfl⟩
 rintro a J ⟨M4,M5,o1,fM4_0,fM5_0,fM5_1,fM5_2,rfl,rfl⟩
 refine Wsq [2,5] fun K1 hK1=>?_
 refine gP Wre (M3+7) 0 1 ?_
 obtain⟨r7,hr7,H⟩:=bE H
 refine Sm tok [] [2,5,28] (M5+2) (by
  intro K k
  have e0:=nQ w0 N0
  have e1:=nQ w0 (M3+7)
  have e2:=nQ N0 (M3+7)
  refine m1 (j e0 (j e1 (j e2 gs_W0))) ?_
  refine mc (j e0 (j e1 (j e2 gs_W0))) (c41 (r0_:=r0_) (H:=hr7)) fun M6 fM6_0=>?_
  refine m1 (j e0 (j e1 (j e2 (j gs_W0 (j @hoS @hoN))))) ?_
  exact k M6 (by omega)) fun M6 fM6_0=>?_
 refine Wb ?_
 have e0:=nQ w0 N0
 have e1:=nQ w0 (M3+7)
 have e2:=nQ N0 (M3+7)
 refine qB [2,5,28,29] (j e0 (j e1 (j e2 gs_W0))) ?_
 refine Ci H ?_ ?_<;>intro H
 .have e0:=nQ w0 N0
  have e1:=nQ w0 (M3+7)
  have e2:=nQ N0 (M3+7)
  refine qH (j e0 (j e1 (j e2 gs_W0))) hK1 ?_
  refine gU Wre (M3+7) 0 1 ?_
  have e0:=nQ w0 N0
  have e1:=nQ w0 (M3+7)
  have e2:=nQ w0 (M6+4)
  have e3:=nQ N0 (M3+7)
  have e4:=nQ N0 (M6+4)
  have e5:=nQ (M3+7) (M6+4)
  have e6:=nQ (M3+3) M6
  refine qB [2] (j e0 (j e1 (j e2 (j e3 (j e4 (j e5 (j e6 gs_W0))))))) ?_
  obtain rfl:=oi H
  refine Kp [2] ?_
  refine gDrop Wre [(w0,some ⟨105,2,W0.set r0_ [.fsl (eL rU8 r7.2.b),.int .i64 r7.2.p]⟩),(N0,some ⟨30,6,[[.fsl (eL zA r6.1.Codes),.sl (M6+4) 0 r6.1.Threads.length,.fsl (eL rBox r6.1.Boxes),.int .i64 (-1),.int .i64 r6.1.Idle,.fsl (eL rI r6.1.Out)]]⟩),(M6+4,some ⟨42,2,eL zB r6.1.Threads⟩)] (zM (zM (AHeap.Sub.trans (zM (AHeap.Sub.refl _)) (zU rfl (by simp;try omega))))) ?_
  refine gP Wre N0 0 1 ?_
  refine gU Wre N0 0 1 ?_
  have z2:=nQ w0 N0
  have z3:=nQ w0 (M6+7)
  have z4:=nQ N0 (M6+7)
  refine Wr ?_
  refine⟨[.agg [.fsl (eL zA r6.1.Codes),.sl (M6+7) 0 r6.1.Threads.length,.fsl (eL rBox r6.1.Boxes),.int .i64 (-1),.int .i64 r6.1.Idle,.fsl (eL rI r6.1.Out)]],by simp[z2,z3,z4,gs_W0],(fun o=>[N0,M6+7].contains o),M6+8,by omega,?_,?_⟩
  .simp[eN,z2,z3,z4,gs_W0]
  rw[cutD (L':=[(w0,some ⟨105,2,W0.set r0_ [.fsl (eL rU8 r7.2.b),.int .i64 r7.2.p]⟩)]) (by simp[z2,z3,z4,gs_W0])]
  first|done|rfl|simp
 have e0:=nQ w0 N0
 have e1:=nQ w0 (M3+7)
 have e2:=nQ N0 (M3+7)
 refine qB [2,5,28,32] (j e0 (j e1 (j e2 gs_W0))) ?_
 refine Ci H ?_ ?_<;>intro H
 .obtain⟨l8,hl8,H⟩:=bE H
  have e0:=nQ w0 N0
  have e1:=nQ w0 (M3+7)
  have e2:=nQ N0 (M3+7)
  refine qH (j e0 (j e1 (j e2 (j gs_W0 (cuth_28 hl8))))) hK1 ?_
  refine gU Wre (M3+7) 0 1 ?_
  have e0:=nQ w0 N0
  have e1:=nQ w0 (M3+7)
  have e2:=nQ w0 (M6+9)
  have e3:=nQ N0 (M3+7)
  have e4:=nQ N0 (M6+9)
  have e5:=nQ (M3+7) (M6+9)
  have e6:=nQ M3 (M6+2)
  refine qB [2] (j e0 (j e1 (j e2 (j e3 (j e4 (j e5 (j e6 gs_W0))))))) ?_
  obtain rfl:=oi H
  refine Kp [2] ?_
  refine gDrop Wre [(w0,some ⟨105,2,W0.set r0_ [.fsl (eL rU8 r7.2.b),.int .i64 r7.2.p]⟩),(N0,some ⟨30,6,[[.fsl (eL zA r6.1.Codes),.sl (M6+9) 0 r6.1.Threads.length,.fsl (eL rBox l8),.int .i64 r6.1.Turn,.int .i64 r6.1.Idle,.fsl (eL rI r6.1.Out)]]⟩),(M6+9,some ⟨42,2,eL zB r6.1.Threads⟩)] (zM (zM (AHeap.Sub.trans (zM (AHeap.Sub.refl _)) (zU rfl (by simp;try omega))))) ?_
  refine gP Wre N0 0 1 ?_
  refine gU Wre N0 0 1 ?_
  have z5:=nQ w0 N0
  have z6:=nQ w0 (M6+12)
  have z7:=nQ N0 (M6+12)
  refine Wr ?_
  refine⟨[.agg [.fsl (eL zA r6.1.Codes),.sl (M6+12) 0 r6.1.Threads.length,.fsl (eL rBox l8),.int .i64 r6.1.Turn,.int .i64 r6.1.Idle,.fsl (eL rI r6.1.Out)]],by simp[z5,z6,z7,gs_W0],(fun o=>[N0,M6+12].contains o),M6+13,by omega,?_,?_⟩
  .simp[eN,z5,z6,z7,gs_W0]
  rw[cutD (L':=[(w0,some ⟨105,2,W0.set r0_ [.fsl (eL rU8 r7.2.b),.int .i64 r7.2.p]⟩)]) (by simp[z5,z6,z7,gs_W0])]
  first|done|rfl|simp
 have e0:=nQ w0 N0
 have e1:=nQ w0 (M3+7)
 have e2:=nQ N0 (M3+7)
 refine qB [2,5,38] (j e0 (j e1 (j e2 gs_W0))) ?_
 refine Ci H ?_ ?_<;>intro H
 .refine gU Wre (M3+7) 0 1 ?_
  obtain⟨v9,hv9,H⟩:=bE H
  obtain⟨l10,hl10,H⟩:=bE H
  have e0:=nQ w0 N0
  have e1:=nQ w0 (M3+7)
  have e2:=nQ w0 (M6+6)
  have e3:=nQ N0 (M3+7)
  have e4:=nQ N0 (M6+6)
  have e5:=nQ (M3+7) (M6+6)
  have e6:=nQ (M3+1) M6
  refine Rt tok [] [2,5] (by intro K k;simp -dsimp -implicitDefEqProofs [e0,e1,e2,e3,e4,e5,e6,gs_W0,ixo27 hv9,(show _[0]? =some v9 from(zG hv9).2.2),(show List.set _ 0 _=l10 from(setx_iff.1 hl10).2.symm)];exact k) fun a ha=>?_
  (try rw[<- zE hl10] at ha);(try rw[<- zE hl10])
  refine hK1 _ _ ?_;rw[ha]
  refine Rc.mk ?_
  have e0:=nQ w0 N0
  have e1:=nQ w0 (M3+7)
  have e2:=nQ w0 (M6+6)
  have e3:=nQ N0 (M3+7)
  have e4:=nQ N0 (M6+6)
  have e5:=nQ (M3+7) (M6+6)
  have e6:=nQ (M3+1) M6
  refine qB [2] (j e0 (j e1 (j e2 (j e3 (j e4 (j e5 (j e6 gs_W0))))))) ?_
  obtain rfl:=oi H
  refine Kp [2] ?_
  refine gDrop Wre [(w0,some ⟨105,2,W0.set r0_ [.fsl (eL rU8 r7.2.b),.int .i64 r7.2.p]⟩),(N0,some ⟨30,6,[[.fsl (eL zA r6.1.Codes),.sl (M6+6) 0 l10.length,.fsl (eL rBox r6.1.Boxes),.int .i64 r6.1.Turn,.int .i64 r6.1.Idle,.fsl (eL rI r6.1.Out)]]⟩),(M6+6,some ⟨42,2,eL zB l10⟩)] (zM (zM (AHeap.Sub.trans (zM (AHeap.Sub.refl _)) (zU rfl (by simp;try omega))))) ?_
  refine gP Wre N0 0 1 ?_
  refine gU Wre N0 0 1 ?_
  have z8:=nQ w0 N0
  have z9:=nQ w0 (M6+14)
  have z10:=nQ N0 (M6+14)
  refine Wr ?_
  refine⟨[.agg [.fsl (eL zA r6.1.Codes),.sl (M6+14) 0 l10.length,.fsl (eL rBox r6.1.Boxes),.int .i64 r6.1.Turn,.int .i64 r6.1.Idle,.fsl (eL rI r6.1.Out)]],by simp[z8,z9,z10,gs_W0],(fun o=>[N0,M6+14].contains o),M6+15,by omega,?_,?_⟩
  .simp[eN,z8,z9,z10,gs_W0]
  rw[cutD (L':=[(w0,some ⟨105,2,W0.set r0_ [.fsl (eL rU8 r7.2.b),.int .i64 r7.2.p]⟩)]) (by simp[z8,z9,z10,gs_W0])]
  first|done|rfl|simp
 refine Js hK1 ?_
 refine gU Wre (M3+7) 0 1 ?_
 have e0:=nQ w0 N0
 have e1:=nQ w0 (M3+7)
 have e2:=nQ w0 (M6+6)
 have e3:=nQ N0 (M3+7)
 have e4:=nQ N0 (M6+6)
 have e5:=nQ (M3+7) (M6+6)
 have e6:=nQ (M3+1) M6
 refine qB [2] (j e0 (j e1 (j e2 (j e3 (j e4 (j e5 (j e6 gs_W0))))))) ?_
 obtain rfl:=oi H
 refine Kp [2] ?_
 refine gDrop Wre [(w0,some ⟨105,2,W0.set r0_ [.fsl (eL rU8 r7.2.b),.int .i64 r7.2.p]⟩),(N0,some ⟨30,6,[[.fsl (eL zA r6.1.Codes),.sl (M6+6) 0 r6.1.Threads.length,.fsl (eL rBox r6.1.Boxes),.int .i64 r6.1.Turn,.int .i64 r6.1.Idle,.fsl (eL rI r6.1.Out)]]⟩),(M6+6,some ⟨42,2,eL zB r6.1.Threads⟩)] (zM (zM (AHeap.Sub.trans (zM (AHeap.Sub.refl _)) (zU rfl (by simp;try omega))))) ?_
 refine gP Wre N0 0 1 ?_
 refine gU Wre N0 0 1 ?_
 have z11:=nQ w0 N0
 have z12:=nQ w0 (M6+9)
 have z13:=nQ N0 (M6+9)
 refine Wr ?_
 refine⟨[.agg [.fsl (eL zA r6.1.Codes),.sl (M6+9) 0 r6.1.Threads.length,.fsl (eL rBox r6.1.Boxes),.int .i64 r6.1.Turn,.int .i64 r6.1.Idle,.fsl (eL rI r6.1.Out)]],by simp[z11,z12,z13,gs_W0],(fun o=>[N0,M6+9].contains o),M6+10,by omega,?_,?_⟩
 .simp[eN,z11,z12,z13,gs_W0]
 rw[cutD (L':=[(w0,some ⟨105,2,W0.set r0_ [.fsl (eL rU8 r7.2.b),.int .i64 r7.2.p]⟩)]) (by simp[z11,z12,z13,gs_W0])]
 first|done|rfl|simp

theorem c30 {p0:List Int}{r:gCrew}(H:jW p0=some r):APure Tryz.prog G 30 [.fsl (eL rU8 p0)] (.agg [.fsl (eL zA r.Codes),.fsl (eL zB r.Threads),.fsl (eL rBox r.Boxes),.int .i64 r.Turn,.int .i64 r.Idle,.fsl (eL rI r.Out)]):=by
 refine qK func30 ntmps30 results30 fun N0=>?_
 unfold jW at H
 refine qA [0,2] ?_
 refine gW Wre N0 0 0 ?_
 refine gW Wre N0 0 1 ?_
 refine gW Wre N0 0 2 ?_
 refine gW Wre N0 0 5 ?_
 obtain⟨r1,hr1,H⟩:=bE H
 obtain⟨r2,hr2,H⟩:=bE H
 refine jC tok [] [2] (fun a J=>∃M1 o1:Nat,∃M2:Nat,N0+5<=M1/\N0+5<=o1/\o1<M1/\M1<=M2/\a=[(2,.ptr N0 0 0)]/\J=hp E0 [(N0,some ⟨30,6,[[.fsl (eL zA r2.1.Codes),.fsl (eL zB r2.1.Threads),.fsl (eL rBox r2.1.Boxes),.int .i64 r2.1.Turn,.int .i64 r2.1.Idle,.fsl (eL rI r2.1.Out)]]⟩),(o1,some ⟨105,2,[[.fsl (eL rU8 r2.2.b),.int .i64 r2.2.p]]⟩)] M2) (fun K hK=>?_) ?_
 .skip
  refine m0 ?_
  refine mo (c40_o (H:=hr1)) fun M1 o1 fM1_0 fM1_1 fM1_2=>?_
  have eM1_0:=nQ o1 N0
  refine m1 (j eM1_0 (j @hoS @hoN)) ?_
  refine mc (j eM1_0 (j @hoS @hoN)) (c65 (r0_:=0) (H:=hr2)) fun M2 fM2_0=>?_
  refine m1 (j eM1_0 (j @hoS @hoN)) ?_
  exact hK _ _ ⟨M1,o1,M2,(by omega),(by omega),(by omega),(by omega),rfl,rfl⟩
 rintro a J ⟨M1,o1,M2,fM1_0,fM1_1,fM1_2,fM2_0,rfl,rfl⟩
 obtain rfl:=oi H
 refine Kp [2] ?_
 have z0:=nQ N0 o1
 refine Wr ?_
 exact⟨[.agg [.fsl (eL zA r2.1.Codes),.fsl (eL zB r2.1.Threads),.fsl (eL rBox r2.1.Boxes),.int .i64 r2.1.Turn,.int .i64 r2.1.Idle,.fsl (eL rI r2.1.Out)]],by simp[z0],4,by simp[eN,z0]⟩

theorem c108 {p0:Int}{r:Bool}(H:xO p0=some r):APure Tryz.prog G 108 [.int .i64 p0] (.bool r):=by
 refine qK func108 ntmps108 results108 fun N0=>?_
 unfold xO at H
 refine qA [0] ?_
 obtain⟨g1,hg1,H⟩:=bE H
 refine qF tok [2] ([(2,.bool g1)]) (hp E0 [] (N0+8)) (by
  intro K k
  refine m0 ?_
  cases hbg1:ige p0 (-2147483648)
  .cases oj (ifF hbg1 hg1)
   exact m1 hbg1 k
  cases oj (ifT hbg1 hg1)
  refine m1 hbg1 ?_
  exact k) ?_
 cases oj H;exact W4

theorem c95 {p0:List Int}{r:Bool}(H:vG p0=some r):APure Tryz.prog G 95 [.fsl (eL rI p0)] (.bool r):=by
 refine qK func95 ntmps95 results95 fun N0=>?_
 unfold vG at H
 refine qA [0] ?_
 refine Wsq [] fun K1 hK1=>?_
 refine qA [5,6,7] ?_
 refine Wb ?_
 obtain⟨e1,hse1,H⟩:=bE H
 refine zR [5,6,7] (fun s a J=>∃M1:Nat,N0<=M1/\a=[(5,.fsl (eL rI p0)),(6,.int .i64 (ilen p0)),(7,.int .i64 s)]/\J=hp E0 [] M1) (fun e x a J=>match e with|.inl s=>x=.exit 0/\Rc G 15 N0 (fun a J=>∃M2:Nat,N0<=M2/\a=[]/\J=hp E0 [] M2) (AAct.keep a []) J|.inr s=>x=.ret/\∃vs,resA T J a [.tmp 2]=some vs/\∃d,thawA (fun _=>true) J d (tupA vs)=.bool s) hse1 ?_ ?_ ?_
 .refine kp [5,6,7] ?_
  exact R1 (N0+4)
 .clear H hse1
  rintro s1 fl a J H ⟨M1,fM1_0,rfl,rfl⟩ K2 O2 hK2 hO2
  unfold wT at H;dsimp only at H
  refine qA [5,6,7,8] ?_
  refine Wsq [5,6,7] fun K3 hK3=>?_
  refine Ci H ?_ ?_<;>intro H
  .refine Js hK3 ?_
   refine Wsq [5,6,7] fun K4 hK4=>?_
   refine Wb ?_
   obtain⟨v2,hv2,H⟩:=bE H
   refine qB [4,5,6,7] (ix23 hv2) ?_
   obtain⟨r3,hr3,H⟩:=bE H
   refine qD [5,6,7,13] (c108 hr3) ?_
   refine Ci H ?_ ?_<;>intro H
   .refine qA [2] ?_
    cases oj H
    refine Kp [2] ?_
    refine Wr (hO2 _ _ _ _ rfl ⟨rfl,?_⟩)
    exact⟨[.bool false],by simp,4,by simp[eN]⟩
   refine Js hK4 ?_
   obtain rfl:=oi H
   refine qI hK2 ?_
   exact R1 (M1+9)
  cases oj H
  refine zK (hO2 _ _ _ _ rfl ⟨rfl,?_⟩)
  refine kr ?_
  exact R1 (M1+1)
 intro x a J hx
 rcases e1 with⟨⟩|r0
 .obtain⟨rfl,b,U,hr,M2,fM2_0,rfl,rfl⟩:=hx
  (try dsimp only at H)
  show K1 _ _
  refine hK1 _ _ (zH hr ?_)
  refine Rc.mk ?_
  refine qA [2] ?_
  cases oj H;exact W4
 obtain⟨rfl,hx2⟩:=hx
 (try dsimp only at H)
 cases oj H;first|exact hx2|(simp only[List.set_set] at hx2 ⊢;exact hx2)

theorem c69 {p0:Int}{p1:Int}{p2:Int}{p3:List Int}{r:Bool}(H:sO p0 p1 p2 p3=some r):APure Tryz.prog G 69 [.int .i64 p0,.int .i64 p1,.int .i64 p2,.fsl (eL rI p3)] (.bool r):=by
 refine qK func69 ntmps69 results69 fun N0=>?_
 unfold sO at H
 refine qA [0,1,2,3] ?_
 obtain⟨g1,hg1,H⟩:=bE H
 obtain⟨g2,hg2,H⟩:=bE H
 obtain⟨g3,hg3,H⟩:=bE H
 obtain⟨g4,hg4,H⟩:=bE H
 obtain⟨g5,hg5,H⟩:=bE H
 obtain⟨g7,hg7,H⟩:=bE H
 refine qF tok [8] ([(8,.bool g7)]) (hp E0 [] (N0+30)) (by
  intro K k
  refine m0 ?_
  cases hbg1:ige p0 1
  .cases oj (ifF hbg1 hg1)
   cases oj (ifF rfl hg2)
   cases oj (ifF rfl hg3)
   cases oj (ifF rfl hg4)
   cases oj (ifF rfl hg5)
   cases oj (ifF rfl hg7)
   exact m1 hbg1 k
  cases oj (ifT hbg1 hg1)
  refine m1 hbg1 ?_
  cases hbg2:(ile p0 3)
  .cases oj (ifF hbg2 hg2)
   cases oj (ifF rfl hg3)
   cases oj (ifF rfl hg4)
   cases oj (ifF rfl hg5)
   cases oj (ifF rfl hg7)
   exact m2 hbg1 hbg2 k
  cases oj (ifT hbg2 hg2)
  refine m2 hbg1 hbg2 ?_
  cases hbg3:(ige p1 0)
  .cases oj (ifF hbg3 hg3)
   cases oj (ifF rfl hg4)
   cases oj (ifF rfl hg5)
   cases oj (ifF rfl hg7)
   exact m1 (j hbg1 (j hbg2 hbg3)) k
  cases oj (ifT hbg3 hg3)
  refine m1 (j hbg1 (j hbg2 hbg3)) ?_
  cases hbg4:(ilt p1 p0)
  .cases oj (ifF hbg4 hg4)
   cases oj (ifF rfl hg5)
   cases oj (ifF rfl hg7)
   exact m1 (j hbg1 (j hbg2 (j hbg3 hbg4))) k
  cases oj (ifT hbg4 hg4)
  refine m1 (j hbg1 (j hbg2 (j hbg3 hbg4))) ?_
  cases hbg5:(ige p2 0)
  .cases oj (ifF hbg5 hg5)
   cases oj (ifF rfl hg7)
   exact m1 (j hbg1 (j hbg2 (j hbg3 (j hbg4 hbg5)))) k
  cases oj (ifT hbg5 hg5)
  refine m1 (j hbg1 (j hbg2 (j hbg3 (j hbg4 hbg5)))) ?_
  cases hbg7:(ile p2 p0)
  .cases oj (ifF hbg7 hg7)
   exact m1 (j hbg1 (j hbg2 (j hbg3 (j hbg4 (j hbg5 hbg7))))) k
  replace hg7:=ifT hbg7 hg7
  obtain⟨r6,hr6,hg7⟩:=bE hg7
  cases oj hg7
  refine m1 (j hbg1 (j hbg2 (j hbg3 (j hbg4 (j hbg5 hbg7))))) ?_
  refine(c95 hr6).app (m1 (j hbg1 (j hbg2 (j hbg3 (j hbg4 (j hbg5 hbg7))))) ?_)
  exact k) ?_
 cases oj H;exact W4

theorem c96 {p0:gBox}{r:Bool}(H:pV p0=some r):APure Tryz.prog G 96 [.agg [.int .i64 p0.Room,.fsl (eL rI p0.Items)]] (.bool r):=by
 refine qK func96 ntmps96 results96 fun N0=>?_
 unfold pV at H
 refine S0 tok [0] [1] ?_
 obtain⟨g1,hg1,H⟩:=bE H
 obtain⟨g2,hg2,H⟩:=bE H
 obtain⟨g4,hg4,H⟩:=bE H
 refine qF tok [2] ([(2,.bool g4)]) (hp E0 [] (N0+24)) (by
  intro K k
  refine m0 ?_
  cases hbg1:ige p0.Room 1
  .cases oj (ifF hbg1 hg1)
   cases oj (ifF rfl hg2)
   cases oj (ifF rfl hg4)
   exact m1 hbg1 k
  cases oj (ifT hbg1 hg1)
  refine m1 hbg1 ?_
  cases hbg2:(ile p0.Room 4)
  .cases oj (ifF hbg2 hg2)
   cases oj (ifF rfl hg4)
   exact m2 hbg1 hbg2 k
  cases oj (ifT hbg2 hg2)
  refine m2 hbg1 hbg2 ?_
  cases hbg4:(ile (ilen p0.Items) p0.Room)
  .cases oj (ifF hbg4 hg4)
   exact m1 (j hbg1 (j hbg2 hbg4)) k
  replace hg4:=ifT hbg4 hg4
  obtain⟨r3,hr3,hg4⟩:=bE hg4
  cases oj hg4
  refine m1 (j hbg1 (j hbg2 hbg4)) ?_
  refine(c95 hr3).app (m1 (j hbg1 (j hbg2 hbg4)) ?_)
  exact k) ?_
 cases oj H;exact W4

theorem c70 {p0:List gBox}{r:Bool}(H:xT p0=some r):APure Tryz.prog G 70 [.fsl (eL rBox p0)] (.bool r):=by
 refine qK func70 ntmps70 results70 fun N0=>?_
 unfold xT at H
 refine qA [0] ?_
 refine Wsq [0] fun K1 hK1=>?_
 refine qA [0,5,6,7] ?_
 refine Wb ?_
 obtain⟨e1,hse1,H⟩:=bE H
 refine zR [0,5,6,7] (fun s a J=>∃M1:Nat,N0<=M1/\a=[(0,.fsl (eL rBox p0)),(5,.fsl (eL rBox p0)),(6,.int .i64 (ilen p0)),(7,.int .i64 s)]/\J=hp E0 [] M1) (fun e x a J=>match e with|.inl s=>x=.exit 0/\Rc G 18 N0 (fun a J=>∃M2:Nat,N0<=M2/\a=[(0,.fsl (eL rBox p0))]/\J=hp E0 [] M2) (AAct.keep a [0]) J|.inr s=>x=.ret/\∃vs,resA T J a [.tmp 2]=some vs/\∃d,thawA (fun _=>true) J d (tupA vs)=.bool s) hse1 ?_ ?_ ?_
 .refine kp [0,5,6,7] ?_
  exact R1 (N0+4)
 .clear H hse1
  rintro s1 fl a J H ⟨M1,fM1_0,rfl,rfl⟩ K2 O2 hK2 hO2
  unfold jL at H;dsimp only at H
  refine qA [0,5,6,7,8] ?_
  refine Wsq [0,5,6,7] fun K3 hK3=>?_
  refine Ci H ?_ ?_<;>intro H
  .refine Js hK3 ?_
   refine Wsq [0,5,6,7] fun K4 hK4=>?_
   refine Wb ?_
   obtain⟨v2,hv2,H⟩:=bE H
   refine qB [0,4,5,6,7] (ix28 hv2) ?_
   obtain⟨r3,hr3,H⟩:=bE H
   refine qD [0,5,6,7,13] (c96 hr3) ?_
   refine Ci H ?_ ?_<;>intro H
   .refine qA [2] ?_
    cases oj H
    refine Kp [2] ?_
    refine Wr (hO2 _ _ _ _ rfl ⟨rfl,?_⟩)
    exact⟨[.bool false],by simp,4,by simp[eN]⟩
   refine Js hK4 ?_
   obtain rfl:=oi H
   refine qI hK2 ?_
   exact Rc.fin (AHeap.Sub.trans (AHeap.Sub.refl _) (zU rfl (by simp;try omega))) ⟨M1+10,(by omega),rfl,rfl⟩
  cases oj H
  refine zK (hO2 _ _ _ _ rfl ⟨rfl,?_⟩)
  refine kr ?_
  exact R1 (M1+1)
 intro x a J hx
 rcases e1 with⟨⟩|r0
 .obtain⟨rfl,b,U,hr,M2,fM2_0,rfl,rfl⟩:=hx
  (try dsimp only at H)
  show K1 _ _
  refine hK1 _ _ (zH hr ?_)
  refine Rc.mk ?_
  refine qA [2] ?_
  cases oj H;exact W4
 obtain⟨rfl,hx2⟩:=hx
 (try dsimp only at H)
 cases oj H;first|exact hx2|(simp only[List.set_set] at hx2 ⊢;exact hx2)

theorem c107 {p0:Int}{r:Bool}(H:dW p0=some r):APure Tryz.prog G 107 [.int .i64 p0] (.bool r):=by
 refine qK func107 ntmps107 results107 fun N0=>?_
 unfold dW at H
 refine qA [0] ?_
 obtain⟨g1,hg1,H⟩:=bE H
 refine qF tok [2] ([(2,.bool g1)]) (hp E0 [] (N0+8)) (by
  intro K k
  refine m0 ?_
  cases hbg1:ige p0 0
  .cases oj (ifF hbg1 hg1)
   exact m1 hbg1 k
  cases oj (ifT hbg1 hg1)
  refine m1 hbg1 ?_
  exact k) ?_
 cases oj H;exact W4

theorem c109 {p0:Int}{r:Bool}(H:fW p0=some r):APure Tryz.prog G 109 [.int .i64 p0] (.bool r):=by
 refine qK func109 ntmps109 results109 fun N0=>?_
 unfold fW at H
 refine qA [0] ?_
 obtain⟨g1,hg1,H⟩:=bE H
 refine qF tok [2] ([(2,.bool g1)]) (hp E0 [] (N0+8)) (by
  intro K k
  refine m0 ?_
  cases hbg1:ige p0 1
  .cases oj (ifF hbg1 hg1)
   exact m1 hbg1 k
  cases oj (ifT hbg1 hg1)
  refine m1 hbg1 ?_
  exact k) ?_
 cases oj H;exact W4

theorem c80 {p0:gQuad}{p1:Int}{r:Bool}(H:sA p0 p1=some r):APure Tryz.prog G 80 [.agg [.int .i64 p0.Op,.int .i64 p0.Dst,.int .i64 p0.A,.int .i64 p0.B,.int .i64 p0.N],.int .i64 p1] (.bool r):=by
 refine qK func80 ntmps80 results80 fun N0=>?_
 unfold sA at H
 refine S0 tok [0] [1,2] ?_
 obtain⟨r1,hr1,H⟩:=bE H
 obtain⟨r2,hr2,H⟩:=bE H
 obtain⟨r3,hr3,H⟩:=bE H
 refine Sd tok tokM [] [] [0,1,2,3,4,5,6,7,8,9,10,11,12,13,14] [1,2,5,6,7,8] (by
  intro K k
  simp only[pickL,zJ,zL]
  repeat first|simp -dsimp -implicitDefEqProofs|refine Pc.mk (c107 hr1) ?_|refine Pc.mk (c107 hr2) ?_|refine Pc.mk (c107 hr3) ?_
  exact k) ?_
 refine Wsq [] fun K1 hK1=>?_
 refine qA [1,2,5,6,7,8,21] ?_
 refine Wb ?_
 refine qA [1,2,5,6,7,8,21,22] ?_
 refine Ci H ?_ ?_<;>intro H
 .obtain⟨g4,hg4,H⟩:=bE H
  obtain⟨g6,hg6,H⟩:=bE H
  refine qF tok [4] ([(4,.bool g6)]) (hp E0 [] (N0+35)) (by
   intro K k
   refine m0 ?_
   cases hbg4:eqD p0 (⟨1,p0.Dst,0,0,p0.N⟩:gQuad)
   .cases oj (ifF hbg4 hg4)
    cases oj (ifF rfl hg6)
    exact m1 hbg4 k
   cases oj (ifT hbg4 hg4)
   refine m1 hbg4 ?_
   cases hbg6:r1
   .cases oj (ifF hbg6 hg6)
    exact m2 hbg4 hbg6 k
   replace hg6:=ifT hbg6 hg6
   obtain⟨r5,hr5,hg6⟩:=bE hg6
   cases oj hg6
   refine m2 hbg4 hbg6 ?_
   refine(c108 hr5).app (m2 hbg4 hbg6 ?_)
   exact k) ?_
  cases oj H;exact W4
 refine qA [1,2,5,6,7,8,21,37] ?_
 refine Ci H ?_ ?_<;>intro H
 .obtain⟨g7,hg7,H⟩:=bE H
  obtain⟨g8,hg8,H⟩:=bE H
  refine qF tok [4] ([(4,.bool g8)]) (hp E0 [] (N0+37)) (by
   intro K k
   refine m0 ?_
   cases hbg7:eqD p0 (⟨2,p0.Dst,p0.A,0,0⟩:gQuad)
   .cases oj (ifF hbg7 hg7)
    cases oj (ifF rfl hg8)
    exact m1 hbg7 k
   cases oj (ifT hbg7 hg7)
   refine m1 hbg7 ?_
   cases hbg8:r1
   .cases oj (ifF hbg8 hg8)
    exact m2 hbg7 hbg8 k
   cases oj (ifT hbg8 hg8)
   refine m2 hbg7 hbg8 ?_
   exact k) ?_
  cases oj H;exact W4
 refine qA [1,2,5,6,7,8,21,52] ?_
 refine Ci H ?_ ?_<;>intro H
 .obtain⟨g9,hg9,H⟩:=bE H
  obtain⟨g10,hg10,H⟩:=bE H
  obtain⟨g12,hg12,H⟩:=bE H
  refine qF tok [4] ([(4,.bool g12)]) (hp E0 [] (N0+37)) (by
   intro K k
   refine m0 ?_
   cases hbg9:r1
   .cases oj (ifF hbg9 hg9)
    cases oj (ifF rfl hg10)
    cases oj (ifF rfl hg12)
    exact m1 hbg9 k
   cases oj (ifT hbg9 hg9)
   refine m1 hbg9 ?_
   cases hbg10:r2
   .cases oj (ifF hbg10 hg10)
    cases oj (ifF rfl hg12)
    exact m2 hbg9 hbg10 k
   cases oj (ifT hbg10 hg10)
   refine m2 hbg9 hbg10 ?_
   cases hbg12:r3
   .cases oj (ifF hbg12 hg12)
    exact m1 (j hbg9 (j hbg10 hbg12)) k
   replace hg12:=ifT hbg12 hg12
   obtain⟨r11,hr11,hg12⟩:=bE hg12
   cases oj hg12
   refine m1 (j hbg9 (j hbg10 hbg12)) ?_
   refine(c109 hr11).app (m1 (j hbg9 (j hbg10 hbg12)) ?_)
   exact k) ?_
  cases oj H;exact W4
 refine qA [1,2,5,6,8,21,65] ?_
 refine Ci H ?_ ?_<;>intro H
 .obtain⟨g13,hg13,H⟩:=bE H
  obtain⟨g14,hg14,H⟩:=bE H
  refine qF tok [4] ([(4,.bool g14)]) (hp E0 [] (N0+41)) (by
   intro K k
   refine m0 ?_
   cases hbg13:eqD p0 (⟨4,0,0,0,p0.N⟩:gQuad)
   .cases oj (ifF hbg13 hg13)
    cases oj (ifF rfl hg14)
    exact m1 hbg13 k
   cases oj (ifT hbg13 hg13)
   refine m1 hbg13 ?_
   cases hbg14:(ige p0.N 0)
   .cases oj (ifF hbg14 hg14)
    exact m2 hbg13 hbg14 k
   cases oj (ifT hbg14 hg14)
   refine m2 hbg13 hbg14 ?_
   exact k) ?_
  cases oj H;exact W4
 refine qA [1,2,5,6,8,21,80] ?_
 refine Ci H ?_ ?_<;>intro H
 .obtain⟨g15,hg15,H⟩:=bE H
  obtain⟨g16,hg16,H⟩:=bE H
  obtain⟨g17,hg17,H⟩:=bE H
  refine qF tok [4] ([(4,.bool g17)]) (hp E0 [] (N0+48)) (by
   intro K k
   refine m0 ?_
   cases hbg15:eqD p0 (⟨5,0,p0.A,0,p0.N⟩:gQuad)
   .cases oj (ifF hbg15 hg15)
    cases oj (ifF rfl hg16)
    cases oj (ifF rfl hg17)
    exact m1 hbg15 k
   cases oj (ifT hbg15 hg15)
   refine m1 hbg15 ?_
   cases hbg16:r2
   .cases oj (ifF hbg16 hg16)
    cases oj (ifF rfl hg17)
    exact m2 hbg15 hbg16 k
   cases oj (ifT hbg16 hg16)
   refine m2 hbg15 hbg16 ?_
   cases hbg17:(ige p0.N 0)
   .cases oj (ifF hbg17 hg17)
    exact m1 (j hbg15 (j hbg16 hbg17)) k
   cases oj (ifT hbg17 hg17)
   refine m1 (j hbg15 (j hbg16 hbg17)) ?_
   exact k) ?_
  cases oj H;exact W4
 refine qA [2,5,6,8,21,100] ?_
 refine Ci H ?_ ?_<;>intro H
 .obtain⟨g18,hg18,H⟩:=bE H
  obtain⟨g19,hg19,H⟩:=bE H
  obtain⟨g20,hg20,H⟩:=bE H
  refine qF tok [4] ([(4,.bool g20)]) (hp E0 [] (N0+49)) (by
   intro K k
   refine m0 ?_
   cases hbg18:eqD p0 (⟨6,0,p0.A,0,p0.N⟩:gQuad)
   .cases oj (ifF hbg18 hg18)
    cases oj (ifF rfl hg19)
    cases oj (ifF rfl hg20)
    exact m1 hbg18 k
   cases oj (ifT hbg18 hg18)
   refine m1 hbg18 ?_
   cases hbg19:r2
   .cases oj (ifF hbg19 hg19)
    cases oj (ifF rfl hg20)
    exact m2 hbg18 hbg19 k
   cases oj (ifT hbg19 hg19)
   refine m2 hbg18 hbg19 ?_
   cases hbg20:(ige p0.N 0)
   .cases oj (ifF hbg20 hg20)
    exact m1 (j hbg18 (j hbg19 hbg20)) k
   cases oj (ifT hbg20 hg20)
   refine m1 (j hbg18 (j hbg19 hbg20)) ?_
   exact k) ?_
  cases oj H;exact W4
 refine qA [2,5,6,8,21,119] ?_
 refine Ci H ?_ ?_<;>intro H
 .obtain⟨g21,hg21,H⟩:=bE H
  obtain⟨g22,hg22,H⟩:=bE H
  obtain⟨g23,hg23,H⟩:=bE H
  refine qF tok [4] ([(4,.bool g23)]) (hp E0 [] (N0+51)) (by
   intro K k
   refine m0 ?_
   cases hbg21:eqD p0 (⟨7,p0.Dst,0,0,p0.N⟩:gQuad)
   .cases oj (ifF hbg21 hg21)
    cases oj (ifF rfl hg22)
    cases oj (ifF rfl hg23)
    exact m1 hbg21 k
   cases oj (ifT hbg21 hg21)
   refine m1 hbg21 ?_
   cases hbg22:r1
   .cases oj (ifF hbg22 hg22)
    cases oj (ifF rfl hg23)
    exact m2 hbg21 hbg22 k
   cases oj (ifT hbg22 hg22)
   refine m2 hbg21 hbg22 ?_
   cases hbg23:(ige p0.N 0)
   .cases oj (ifF hbg23 hg23)
    exact m1 (j hbg21 (j hbg22 hbg23)) k
   cases oj (ifT hbg23 hg23)
   refine m1 (j hbg21 (j hbg22 hbg23)) ?_
   exact k) ?_
  cases oj H;exact W4
 refine qA [2,6,21,138] ?_
 refine Ci H ?_ ?_<;>intro H
 .obtain⟨g24,hg24,H⟩:=bE H
  refine qF tok [4] ([(4,.bool g24)]) (hp E0 [] (N0+44)) (by
   intro K k
   refine m0 ?_
   cases hbg24:eqD p0 (⟨9,0,p0.A,0,0⟩:gQuad)
   .cases oj (ifF hbg24 hg24)
    exact m1 hbg24 k
   cases oj (ifT hbg24 hg24)
   refine m1 hbg24 ?_
   exact k) ?_
  cases oj H;exact W4
 obtain⟨j1,hj1,H⟩:=bE H
 refine kP (kN fun K2 hK2=>?_)
 have hJ1:∀a J,Rc G 156 N0 (fun a J=>∃M1:Nat,N0<=M1/\a=[(2,.fptr [.int .i64 p0.Op,.int .i64 p0.Dst,.int .i64 p0.A,.int .i64 p0.B,.int .i64 p0.N] 0),(148,.bool j1)]/\J=hp E0 [] M1) (a.keep [2,148]) J->K2 a J:=by
  rintro a J ⟨b,U,hr,M1,fM1_0,rfl,rfl⟩
  refine hK2 _ _ (kG [2,148] (Wre hr ?_))
  refine Ci H ?_ ?_<;>intro H
  .refine qA [4] ?_
   cases oj H;exact W4
  refine Js hK1 ?_
  refine qA [4] ?_
  cases oj H;exact W4
 replace H:=hj1
 refine qA [2,21,148] ?_
 refine Ci H ?_ ?_<;>intro H
 .refine Wsk ?_
  show K2 _ _
  refine kE [2,148] fun a' ha=>?_
  cases oj H
  refine hJ1 _ _ ?_;rw[ha]
  exact R1 (N0+37)
 refine Rt0 tok [] [2,148] fun a ha=>?_
 cases oj H
 refine hJ1 _ _ ?_;rw[ha]
 exact R1 (N0+39)

theorem c50 {p0:List gQuad}{r:Bool}(H:sE p0=some r):APure Tryz.prog G 50 [.fsl (eL rQuad p0)] (.bool r):=by
 refine qK func50 ntmps50 results50 fun N0=>?_
 unfold sE at H
 refine qA [0] ?_
 refine Wsq [0] fun K1 hK1=>?_
 obtain⟨g1,hg1,H⟩:=bE H
 refine qF tok [0,13] ([(0,.fsl (eL rQuad p0)),(13,.bool g1)]) (hp E0 [] (N0+9)) (by
  intro K k
  refine m0 ?_
  cases hbg1:ilt (ilen p0) 1
  .cases oj (ifF hbg1 hg1)
   exact m1 hbg1 k
  cases oj (ifT hbg1 hg1)
  refine m1 hbg1 ?_
  exact k) ?_
 refine Ci H ?_ ?_<;>intro H
 .refine qA [2] ?_
  cases oj H;exact W4
 refine Js hK1 ?_
 refine Wsq [0] fun K2 hK2=>?_
 refine qA [0,14,15,16] ?_
 refine Wb ?_
 obtain⟨e1,hse1,H⟩:=bE H
 refine zR [0,14,15,16] (fun s a J=>∃M1:Nat,N0<=M1/\a=[(0,.fsl (eL rQuad p0)),(14,.fsl (eL rQuad p0)),(15,.int .i64 (ilen p0)),(16,.int .i64 s)]/\J=hp E0 [] M1) (fun e x a J=>match e with|.inl s=>x=.exit 0/\Rc G 39 N0 (fun a J=>∃M2:Nat,N0<=M2/\a=[(0,.fsl (eL rQuad p0))]/\J=hp E0 [] M2) (AAct.keep a [0]) J|.inr s=>x=.ret/\∃vs,resA T J a [.tmp 2]=some vs/\∃d,thawA (fun _=>true) J d (tupA vs)=.bool s) hse1 ?_ ?_ ?_
 .refine kp [0,14,15,16] ?_
  exact R1 (N0+12)
 .clear H hse1
  rintro s2 fl a J H ⟨M1,fM1_0,rfl,rfl⟩ K3 O3 hK3 hO3
  unfold vM at H;dsimp only at H
  refine qA [0,14,15,16,17] ?_
  refine Wsq [0,14,15,16] fun K4 hK4=>?_
  refine Ci H ?_ ?_<;>intro H
  .refine Js hK4 ?_
   refine Wsq [0,14,15,16] fun K5 hK5=>?_
   refine Wb ?_
   obtain⟨v3,hv3,H⟩:=bE H
   refine qB [0,4,14,15,16] (ix34 hv3) ?_
   obtain⟨r4,hr4,H⟩:=bE H
   refine qD [0,14,15,16,24] (c80 hr4) ?_
   refine Ci H ?_ ?_<;>intro H
   .refine qA [2] ?_
    cases oj H
    refine Kp [2] ?_
    refine Wr (hO3 _ _ _ _ rfl ⟨rfl,?_⟩)
    exact⟨[.bool false],by simp,4,by simp[eN]⟩
   refine Js hK5 ?_
   obtain rfl:=oi H
   refine qI hK3 ?_
   exact Rc.fin (AHeap.Sub.trans (AHeap.Sub.refl _) (zU rfl (by simp;try omega))) ⟨M1+12,(by omega),rfl,rfl⟩
  cases oj H
  refine zK (hO3 _ _ _ _ rfl ⟨rfl,?_⟩)
  refine kr ?_
  exact R1 (M1+1)
 intro x a J hx
 rcases e1 with⟨⟩|r0
 .obtain⟨rfl,b,U,hr,M2,fM2_0,rfl,rfl⟩:=hx
  (try dsimp only at H)
  show K2 _ _
  refine hK2 _ _ (zH hr ?_)
  refine Rc.mk ?_
  obtain⟨v5,hv5,H⟩:=bE H
  refine qB [5] (ix34 hv5) ?_
  obtain⟨g6,hg6,H⟩:=bE H
  refine qF tok [2] ([(2,.bool g6)]) (hp E0 [] (M2+15)) (by
   intro K k
   refine m0 ?_
   cases hbg6:ieq v5.Op 10
   .cases oj (ifF hbg6 hg6)
    exact m1 hbg6 k
   cases oj (ifT hbg6 hg6)
   refine m1 hbg6 ?_
   exact k) ?_
  cases oj H;exact W4
 obtain⟨rfl,hx2⟩:=hx
 (try dsimp only at H)
 cases oj H;first|exact hx2|(simp only[List.set_set] at hx2 ⊢;exact hx2)

theorem c97 {p0:gThread}{p1:List gQuad}{r:Bool}(H:uC p0 p1=some r):APure Tryz.prog G 97 [.agg [.fsl (eL rI p0.Regs),.int .i64 p0.Pc],.fsl (eL rQuad p1)] (.bool r):=by
 refine qK func97 ntmps97 results97 fun N0=>?_
 unfold uC at H
 refine S0 tok [0] [1,2] ?_
 obtain⟨g2,hg2,H⟩:=bE H
 obtain⟨g3,hg3,H⟩:=bE H
 obtain⟨g4,hg4,H⟩:=bE H
 refine qF tok [4] ([(4,.bool g4)]) (hp E0 [] (N0+24)) (by
  intro K k
  refine m0 ?_
  cases hbg2:ieq (ilen p0.Regs) 12
  .cases oj (ifF hbg2 hg2)
   cases oj (ifF rfl hg3)
   cases oj (ifF rfl hg4)
   exact m1 hbg2 k
  replace hg2:=ifT hbg2 hg2
  obtain⟨r1,hr1,hg2⟩:=bE hg2
  obtain rfl:=oi hg2
  refine m1 hbg2 ?_
  refine(c95 hr1).app (m1 hbg2 ?_)
  cases hbg3:r1
  .cases oj (ifF hbg3 hg3)
   cases oj (ifF rfl hg4)
   exact m2 hbg2 hbg3 k
  cases oj (ifT hbg3 hg3)
  refine m2 hbg2 hbg3 ?_
  cases hbg4:(ige p0.Pc 0)
  .cases oj (ifF hbg4 hg4)
   exact m1 (j hbg2 (j hbg3 hbg4)) k
  cases oj (ifT hbg4 hg4)
  refine m1 (j hbg2 (j hbg3 hbg4)) ?_
  exact k) ?_
 cases oj H;exact W4

theorem c71 {p0:gThread}{p1:List gQuad}{r:Bool}(H:yV p0 p1=some r):APure Tryz.prog G 71 [.agg [.fsl (eL rI p0.Regs),.int .i64 p0.Pc],.fsl (eL rQuad p1)] (.bool r):=by
 refine qK func71 ntmps71 results71 fun N0=>?_
 unfold yV at H
 refine S0 tok [0] [1,2] ?_
 obtain⟨r1,hr1,H⟩:=bE H
 obtain⟨g3,hg3,H⟩:=bE H
 refine qF tok [4] ([(4,.bool g3)]) (hp E0 [] (N0+10)) (by
  intro K k
  refine m0 ?_
  refine(c50 hr1).app (m0 ?_)
  cases hbg3:r1
  .cases oj (ifF hbg3 hg3)
   exact m1 hbg3 k
  replace hg3:=ifT hbg3 hg3
  obtain⟨r2,hr2,hg3⟩:=bE hg3
  cases oj hg3
  refine m1 hbg3 ?_
  refine(c97 hr2).app (m1 hbg3 ?_)
  exact k) ?_
 cases oj H;exact W4

theorem c72 {p0:gQuad}{p1:Int}{r:Bool}(H:tD p0 p1=some r):APure Tryz.prog G 72 [.agg [.int .i64 p0.Op,.int .i64 p0.Dst,.int .i64 p0.A,.int .i64 p0.B,.int .i64 p0.N],.int .i64 p1] (.bool r):=by
 refine qK func72 ntmps72 results72 fun N0=>?_
 unfold tD at H
 refine S0 tok [0] [1,2] ?_
 obtain⟨g1,hg1,H⟩:=bE H
 obtain⟨g2,hg2,H⟩:=bE H
 refine qF tok [4] ([(4,.bool g2)]) (hp E0 [] (N0+17)) (by
  intro K k
  refine m0 ?_
  cases hbg1:ine p0.Op 6
  .cases oj (ifF hbg1 hg1)
   cases oj (ifF rfl hg2)
   exact m1 hbg1 k
  cases oj (ifT hbg1 hg1)
  refine m1 hbg1 ?_
  cases hbg2:(ine p0.Op 7)
  .cases oj (ifF hbg2 hg2)
   exact m2 hbg1 hbg2 k
  cases oj (ifT hbg2 hg2)
  refine m2 hbg1 hbg2 ?_
  exact k) ?_
 cases oj H;exact W4

theorem c32 {p0:gCrew}{r:Bool}(H:sB p0=some r):APure Tryz.prog G 32 [.agg [.fsl (eL zA p0.Codes),.fsl (eL zB p0.Threads),.fsl (eL rBox p0.Boxes),.int .i64 p0.Turn,.int .i64 p0.Idle,.fsl (eL rI p0.Out)]] (.bool r):=by
 refine qK func32 ntmps32 results32 fun N0=>?_
 unfold sB at H
 refine S0 tok [0] [1] ?_
 refine Wsq [1] fun K1 hK1=>?_
 obtain⟨r1,hr1,H⟩:=bE H
 obtain⟨g2,hg2,H⟩:=bE H
 obtain⟨g4,hg4,H⟩:=bE H
 refine qF tok [1,32] ([(1,.fptr [.fsl (eL zA p0.Codes),.fsl (eL zB p0.Threads),.fsl (eL rBox p0.Boxes),.int .i64 p0.Turn,.int .i64 p0.Idle,.fsl (eL rI p0.Out)] 0),(32,.bool g4)]) (hp E0 [] (N0+28)) (by
  intro K k
  refine m0 ?_
  refine(c69 hr1).app (m0 ?_)
  cases hbg2:bnot r1
  .cases oj (ifF hbg2 hg2)
   refine m1 hbg2 ?_
   cases hbg4:(ine (ilen p0.Threads) (ilen p0.Codes))
   .replace hg4:=ifF hbg4 hg4
    obtain⟨r3,hr3,hg4⟩:=bE hg4
    cases oj hg4
    refine m2 hbg2 hbg4 ?_
    refine(c70 hr3).app (m2 hbg2 hbg4 ?_)
    exact k
   cases oj (ifT hbg4 hg4)
   exact m2 hbg2 hbg4 k
  cases oj (ifT hbg2 hg2)
  cases oj (ifT rfl hg4)
  refine m1 hbg2 ?_
  exact k) ?_
 refine Ci H ?_ ?_<;>intro H
 .refine qA [2] ?_
  cases oj H;exact W4
 refine Js hK1 ?_
 refine Wsq [] fun K2 hK2=>?_
 refine qA [1,34,35,36] ?_
 refine Wb ?_
 obtain⟨e2,hse2,H⟩:=bE H
 refine zR [1,34,35,36] (fun s a J=>∃M1:Nat,N0<=M1/\a=[(1,.fptr [.fsl (eL zA p0.Codes),.fsl (eL zB p0.Threads),.fsl (eL rBox p0.Boxes),.int .i64 p0.Turn,.int .i64 p0.Idle,.fsl (eL rI p0.Out)] 0),(34,.fsl (eL zA p0.Codes)),(35,.int .i64 (ilen p0.Codes)),(36,.int .i64 s)]/\J=hp E0 [] M1) (fun e x a J=>match e with|.inl s=>x=.exit 0/\Rc G 63 N0 (fun a J=>∃M2:Nat,N0<=M2/\a=[]/\J=hp E0 [] M2) (AAct.keep a []) J|.inr s=>x=.ret/\∃vs,resA T J a [.tmp 2]=some vs/\∃d,thawA (fun _=>true) J d (tupA vs)=.bool s) hse2 ?_ ?_ ?_
 .refine kp [1,34,35,36] ?_
  exact R1 (N0+32)
 .clear H hse2
  rintro s5 fl a J H ⟨M1,fM1_0,rfl,rfl⟩ K3 O3 hK3 hO3
  unfold xF at H;dsimp only at H
  refine qA [1,34,35,36,37] ?_
  refine Wsq [1,34,35,36] fun K4 hK4=>?_
  refine Ci H ?_ ?_<;>intro H
  .refine Js hK4 ?_
   refine Wsq [1,34,35,36] fun K5 hK5=>?_
   refine Wb ?_
   obtain⟨v6,hv6,H⟩:=bE H
   refine qB [1,3,4,34,35,36] (ix24 hv6) ?_
   refine Wsq [1,4,34,35,36] fun K6 hK6=>?_
   obtain⟨v7,hv7,H⟩:=bE H
   obtain⟨r8,hr8,H⟩:=bE H
   refine qE [1,4,34,35,36,48] (ix27 hv7) (c71 hr8) ?_
   refine Ci H ?_ ?_<;>intro H
   .refine qA [2] ?_
    cases oj H
    refine Kp [2] ?_
    refine Wr (hO3 _ _ _ _ rfl ⟨rfl,?_⟩)
    exact⟨[.bool false],by simp,4,by simp[eN]⟩
   refine Js hK6 ?_
   refine qA [1,34,35,36,49,50,51] ?_
   refine Wb ?_
   obtain⟨e1,hse1,H⟩:=bE H
   refine zR [1,34,35,36,49,50,51] (fun s a J=>∃M3:Nat,N0<=M3/\a=[(1,.fptr [.fsl (eL zA p0.Codes),.fsl (eL zB p0.Threads),.fsl (eL rBox p0.Boxes),.int .i64 p0.Turn,.int .i64 p0.Idle,.fsl (eL rI p0.Out)] 0),(34,.fsl (eL zA p0.Codes)),(35,.int .i64 (ilen p0.Codes)),(36,.int .i64 s5),(49,.fsl (eL rQuad v6)),(50,.int .i64 (ilen v6)),(51,.int .i64 s)]/\J=hp E0 [] M3) (fun e x a J=>match e with|.inl s=>x=.exit 2/\Rc G 63 N0 (fun a J=>∃M4:Nat,N0<=M4/\a=[(1,.fptr [.fsl (eL zA p0.Codes),.fsl (eL zB p0.Threads),.fsl (eL rBox p0.Boxes),.int .i64 p0.Turn,.int .i64 p0.Idle,.fsl (eL rI p0.Out)] 0),(34,.fsl (eL zA p0.Codes)),(35,.int .i64 (ilen p0.Codes)),(36,.int .i64 s5)]/\J=hp E0 [] M4) (AAct.keep a [1,34,35,36]) J|.inr s=>x=.ret/\∃vs,resA T J a [.tmp 2]=some vs/\∃d,thawA (fun _=>true) J d (tupA vs)=.bool s) hse1 ?_ ?_ ?_
   .refine kp [1,34,35,36,49,50,51] ?_
    exact R1 (M1+17)
   .clear H hse1
    rintro s9 fl a J H ⟨M3,fM3_0,rfl,rfl⟩ K7 O7 hK7 hO7
    unfold yZ at H;dsimp only at H
    refine qA [1,34,35,36,49,50,51,52] ?_
    refine Wsq [1,34,35,36,49,50,51] fun K8 hK8=>?_
    refine Ci H ?_ ?_<;>intro H
    .refine Js hK8 ?_
     refine Wsq [1,34,35,36,49,50,51] fun K9 hK9=>?_
     refine Wb ?_
     obtain⟨v10,hv10,H⟩:=bE H
     refine qB [1,6,34,35,36,49,50,51] (ix34 hv10) ?_
     obtain⟨r11,hr11,H⟩:=bE H
     refine qD [1,34,35,36,49,50,51,60] (c72 hr11) ?_
     refine Ci H ?_ ?_<;>intro H
     .refine qA [2] ?_
      cases oj H
      refine Kp [2] ?_
      refine Wr (hO7 _ _ _ _ rfl ⟨rfl,?_⟩)
      exact⟨[.bool false],by simp,4,by simp[eN]⟩
     refine Js hK9 ?_
     obtain rfl:=oi H
     refine qI hK7 ?_
     exact Rc.fin (AHeap.Sub.trans (AHeap.Sub.refl _) (zU rfl (by simp;try omega))) ⟨M3+13,(by omega),rfl,rfl⟩
    cases oj H
    refine zK (hO7 _ _ _ _ rfl ⟨rfl,?_⟩)
    refine kr ?_
    exact R1 (M3+1)
   intro x a J hx
   rcases e1 with⟨⟩|r0
   .obtain⟨rfl,b,U,hr,M4,fM4_0,rfl,rfl⟩:=hx
    (try dsimp only at H)
    show K5 _ _
    refine hK5 _ _ (zH hr ?_)
    refine Rc.mk ?_
    obtain rfl:=oi H
    refine qI hK3 ?_
    exact R1 (M4+2)
   obtain⟨rfl,hx2⟩:=hx
   (try dsimp only at H)
   cases oj H
   exact hO3 _ _ _ _ rfl ⟨rfl,hx2⟩
  cases oj H
  refine zK (hO3 _ _ _ _ rfl ⟨rfl,?_⟩)
  refine kr ?_
  exact R1 (M1+1)
 intro x a J hx
 rcases e2 with⟨⟩|r0
 .obtain⟨rfl,b,U,hr,M2,fM2_0,rfl,rfl⟩:=hx
  (try dsimp only at H)
  show K2 _ _
  refine hK2 _ _ (zH hr ?_)
  refine Rc.mk ?_
  refine qA [2] ?_
  cases oj H;exact W4
 obtain⟨rfl,hx2⟩:=hx
 (try dsimp only at H)
 cases oj H;first|exact hx2|(simp only[List.set_set] at hx2 ⊢;exact hx2)

theorem c59 {p0:List gQuad}{r:List gQuad}(H:zZ p0=some r):APure Tryz.prog G 59 [.fsl (eL rQuad p0)] (.fsl (eL rQuad r)):=by
 refine qK func59 ntmps59 results59 fun N0=>?_
 unfold zZ at H
 refine qA [0] ?_
 refine Wsq [0] fun K1 hK1=>?_
 refine AWP_isnil tok [4,0] ([(0,.fsl (eL rQuad p0))]) rfl rfl (by decide) (by decide) (by decide) (fun _=>rfl) (fun n0=>?_) ?_
 .replace n0:p0=[]:=encL_isnil n0
  replace H:(if true=true then   some ([]:List gQuad) else   (appx 40 ([]:List gQuad) p0).bind fun l2=>   some l2:Option ((List gQuad)))=some r:=by simpa [n0,appx] using H
  refine Ci H ?_ ?_<;>intro H
  .refine qA [2] ?_
   cases oj H;exact W4
  refine Js hK1 ?_
  obtain⟨l2,hl2,H⟩:=bE H
  have q2:∀J i,bsA T 34 true i 0 [] J=some (.esl,J):=fun _ _=>rfl
  refine Sz tok [0,2] [2] q2 (appf34 hl2) ?_
  cases oj H;exact W4
 .
  refine Ci H ?_ ?_<;>intro H
  .refine qA [2] ?_
   cases oj H;exact W4
  refine Js hK1 ?_
  obtain⟨l1,hl1,H⟩:=bE H
  have q1:∀J i,bsA T 34 true i 0 [] J=some (.esl,J):=fun _ _=>rfl
  refine Sz tok [0,2] [2] q1 (appf34 hl1) ?_
  cases oj H;exact W4

theorem c43 {p0:(List (List gQuad))}{r:(List (List gQuad))}(H:tZ p0=some r):APure Tryz.prog G 43 [.fsl (eL zA p0)] (.fsl (eL zA r)):=by
 refine qK func43 ntmps43 results43 fun N0=>?_
 unfold tZ at H
 refine qA [0] ?_
 refine qA [0,3] ?_
 refine Wsq [3] fun K1 hK1=>?_
 refine qA [3,6,7,8] ?_
 refine Wb ?_
 obtain⟨e1,hse1,H⟩:=bE H
 refine zR [3,6,7,8] (fun s a J=>∃M1 o1:Nat,N0<=M1/\N0<=o1/\o1<M1/\a=[(3,.sl o1 0 s.2.length),(6,.fsl (eL zA p0)),(7,.int .i64 (ilen p0)),(8,.int .i64 s.1)]/\J=hp E0 [(o1,some ⟨34,1,eL zA s.2⟩)] M1) (fun s x a J=>x=.exit 0/\Rc G 19 N0 (fun a J=>∃M2 o2:Nat,N0<=M2/\N0<=o2/\o2<M2/\a=[(3,.sl o2 0 s.length)]/\J=hp E0 [(o2,some ⟨34,1,eL zA s⟩)] M2) (AAct.keep a [3]) J) hse1 ?_ ?_ ?_
 .refine kp [3,6,7,8] ?_
  refine gNilS zH 3 34 1 [(N0+5,some ⟨34,1,eL zA ([]:List (List gQuad))⟩)] [(3,.sl (N0+5) 0 ([]:List (List gQuad)).length),(6,.fsl (eL zA p0)),(7,.int .i64 (ilen p0)),(8,.int .i64 0)] (by simp(disch:=omega)) (by simp(disch:=omega) [eN]) [3,6,7,8] rfl ?_
  exact R2 (N0+6) (N0+5)
 .clear H hse1
  rintro⟨s1,s2⟩ fl a J H ⟨M1,o1,fM1_0,fM1_1,fM1_2,rfl,rfl⟩ K2 O2 hK2 hO2
  unfold xD at H;dsimp only at H
  refine qA [3,6,7,8,9] ?_
  refine Wsq [3,6,7,8] fun K3 hK3=>?_
  refine Ci H ?_ ?_<;>intro H
  .refine Js hK3 ?_
   refine Wsq [3,6,7,8] fun K4 hK4=>?_
   refine Wb ?_
   obtain⟨v4,hv4,H⟩:=bE H
   refine qB [3,5,6,7,8] (ix24 hv4) ?_
   obtain⟨r5,hr5,H⟩:=bE H
   obtain⟨l6,hl6,H⟩:=bE H
   have q0:∀J i,bsA T 24 true i 1 [(0,.fsl (eL rQuad r5))] J=some (.fsl (eL zA ([r5]:List (List gQuad))),J):=fun _ _=>rfl
   have e0:=nQ o1 (M1+8)
   refine Rt tok [3] [3,6,7,8] (by intro K k;(repeat first|simp -dsimp -implicitDefEqProofs [e0,q0,app24 hl6]|refine(c59 hr5).app ?_);exact k) fun a ha=>?_
   refine hK4 _ _ ?_;rw[ha]
   refine Rc.mk ?_
   obtain rfl:=oi H
   refine qI hK2 ?_
   exact R2 (M1+12) (M1+8)
  cases oj H
  refine zK (hO2 _ _ _ _ rfl ⟨rfl,?_⟩)
  refine kr ?_
  exact R2 (M1+1) o1
 intro x a J hx
 obtain⟨y3,rfl⟩:∃x,x=e1:=⟨_,rfl⟩
 obtain⟨rfl,b,U,hr,M2,o2,fM2_0,fM2_1,fM2_2,rfl,rfl⟩:=hx
 (try dsimp only at H)
 show K1 _ _
 refine hK1 _ _ (zH hr ?_)
 refine Rc.mk ?_
 refine qA [2] ?_
 cases oj H;exact W4
end Go.Proofs.YtolmjhgondilhaaGreat
