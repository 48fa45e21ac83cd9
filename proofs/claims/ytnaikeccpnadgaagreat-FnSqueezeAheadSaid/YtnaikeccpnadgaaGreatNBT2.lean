/- The contracts of functions of the program (BT2): each computes what its mirror computes. No conditions. -/
import Derived.Test.YtnaikeccpnadgaaGreatNBT1
set_option linter.unusedSimpArgs false
set_option linter.unusedVariables false
set_option maxRecDepth 20000
set_option maxHeartbeats 4000000
namespace Go.Proofs.YtnaikeccpnadgaaGreat
open Go Go.Abs Go.RowKit Tryz

theorem c161_o {p0:List gQuad}{r:List Bool}(H:sD p0=some r){J:AHeap}:ACalls Tryz.prog G 161 [.fsl (eL rQuad p0)] J (fun v J'=>∃M n0:Nat,J.next<=M/\J.next<=n0/\n0<M/\v=.sl n0 0 r.length/\J'=hp J.objs [(n0,some ⟨4,1,eL rB r⟩)] M):=by
 refine fr2 [] (by simp) (fun hlt=>?_) ⟨_,func161,rfl,rfl⟩
 generalize J.next=N0 at hlt ⊢
 refine fnK tok func161 ntmps161 results161 ?_
 simp only[argsA,Nat.reduceAdd,hpN]
 unfold sD at H
 refine qA [0] ?_
 refine Wsq [0] fun K1 hK1=>?_
 obtain⟨r1,hr1,H⟩:=bE H
 refine qD [0,6] (c108 hr1) ?_
 refine Ci H ?_ ?_<;>intro H
 .have q0:∀J i,bsA T 38 true i 0 [] J=some (.esl,J):=fun _ _=>rfl
  refine Sy tok [0] [2] q0 ?_
  cases oj H
  refine Kp [2] ?_
  refine gNilS Wre 2 4 1 [(N0+6,some ⟨4,1,eL rB ([]:List Bool)⟩)] [(2,.sl (N0+6) 0 ([]:List Bool).length)] (by simp(disch:=omega)) (by simp(disch:=omega) [eN]) [2] rfl ?_
  exact V2 j0 (N0+7) (N0+6)
 refine Js hK1 ?_
 obtain⟨l2,hl2,H⟩:=bE H
 refine qB [0,3] (mak38 hl2) ?_
 obtain⟨v3,hv3,H⟩:=bE H
 obtain⟨l4,hl4,H⟩:=bE H
 refine qB [0,3] (j (ixo38 hv3) (j (show _[0]? =some v3 from(zG hv3).2.2) (show List.set _ 0 _=l4 from(setx_iff.1 hl4).2.symm))) ?_
 try rw[<- zE hl4]
 refine Wsq [3] fun K2 hK2=>?_
 refine Wb ?_
 obtain⟨e1,hse1,H⟩:=bE H
 refine zS [0,3] (fun s a J=>∃M1 o1:Nat,N0<=M1/\N0<=o1/\o1<M1/\a=[(0,.fsl (eL rQuad p0)),(3,.sl o1 0 s.length)]/\J=hp E0 [(o1,some ⟨4,1,eL rB s⟩)] M1) (fun s x a J=>x=.exit 0/\Rc G 17 N0 (fun a J=>∃M2 o2:Nat,N0<=M2/\N0<=o2/\o2<M2/\a=[(3,.sl o2 0 s.length)]/\J=hp E0 [(o2,some ⟨4,1,eL rB s⟩)] M2) (AAct.keep a [3]) J) hse1 ?_ ?_ ?_
 .refine kp [0,3] ?_
  exact R2 (N0+11) (N0+6)
 .clear H hse1
  rintro s5 fl a J H ⟨M1,o1,fM1_0,fM1_1,fM1_2,rfl,rfl⟩ K3 O3 hK3 hO3
  unfold mN at H;dsimp only at H
  refine Wsq [0,3] fun K4 hK4=>?_
  obtain⟨r7,hr7,H⟩:=bE H
  refine jJ tok [] [0,3,15] (fun a J=>∃M3:Nat,M1+3<=M3/\r7.2.length=s5.length/\a=[(0,.fsl (eL rQuad p0)),(3,.sl o1 0 s5.length),(15,.bool r7.1)]/\J=hp E0 [(o1,some ⟨4,1,eL rB r7.2⟩)] M3) (fun K hK=>?_) ?_
  .skip
   refine m0 ?_
   refine(c179 (H:=hr7) (by simp)).mono ?_;rintro _ _ ⟨M3,fM3_0,fM3_1,rfl,rfl⟩;simp only[hpN] at fM3_0
   refine m2 @hoS @hoN ?_
   exact hK _ _ ⟨M3,(by omega),fM3_1,rfl,rfl⟩
  rintro a J ⟨M3,fM3_0,fM3_1,rfl,rfl⟩
  try rw[<- fM3_1]
  refine Ci H ?_ ?_<;>intro H
  .refine Js hK4 ?_
   refine Wb ?_
   refine Wsk ?_
   show K3 _ _
   refine kE [0,3] fun a' ha=>?_
   cases oj H
   refine hK3 _ _ _ rfl ?_;rw[ha]
   exact R2 M3 o1
  obtain rfl:=oi H
  refine zH (hO3 _ _ _ _ rfl ⟨rfl,?_⟩)
  refine kr ?_
  exact R2 M3 o1
 intro x a J hx
 obtain⟨y6,rfl⟩:∃x,x=e1:=⟨_,rfl⟩
 obtain⟨rfl,b,U,hr,M2,o2,fM2_0,fM2_1,fM2_2,rfl,rfl⟩:=hx
 (try dsimp only at H)
 show K2 _ _
 refine hK2 _ _ (zI hr ?_)
 refine Rc.mk ?_
 refine qA [2] ?_
 obtain rfl:=oi H
 refine Kp [2] ?_
 exact V2 j0 (M2+2) o2

theorem c163 {p0:List Bool}{p1:Int}{r:Int}(H:nD p0 p1=some r):APure Tryz.prog G 163 [.fsl (eL rB p0),.int .i64 p1] (.int .i64 r):=by
 refine qK func163 ntmps163 results163 fun N0=>?_
 unfold nD at H
 refine qA [0,1] ?_
 refine qA [0,1,5] ?_
 refine Wsq [5] fun K1 hK1=>?_
 refine qA [0,1,5,6] ?_
 refine Wb ?_
 obtain⟨e1,hse1,H⟩:=bE H
 refine zS [0,1,5,6] (fun s a J=>∃M1:Nat,N0<=M1/\a=[(0,.fsl (eL rB p0)),(1,.int .i64 p1),(5,.int .i64 s.1),(6,.int .i64 s.2)]/\J=hp E0 [] M1) (fun s x a J=>x=.exit 0/\Rc G 19 N0 (fun a J=>∃M2:Nat,N0<=M2/\a=[(5,.int .i64 s)]/\J=hp E0 [] M2) (AAct.keep a [5]) J) hse1 ?_ ?_ ?_
 .refine kp [0,1,5,6] ?_
  exact R1 (N0+3)
 .clear H hse1
  rintro⟨s1,s2⟩ fl a J H ⟨M1,fM1_0,rfl,rfl⟩ K2 O2 hK2 hO2
  unfold wT at H;dsimp only at H
  refine Wsq [0,1,5,6] fun K3 hK3=>?_
  refine qA [0,1,5,6,9] ?_
  refine Ci H ?_ ?_<;>intro H
  .refine Js hK3 ?_
   refine Wsq [0,1,5,6] fun K4 hK4=>?_
   refine Wb ?_
   obtain⟨v4,hv4,H⟩:=bE H
   refine qB [0,1,5,6,15] (ix38 hv4) ?_
   refine Ci H ?_ ?_<;>intro H
   .refine qG hK4 ?_
    obtain rfl:=oi H
    refine qI hK2 ?_
    exact R1 (M1+13)
   refine Js hK4 ?_
   obtain rfl:=oi H
   refine qI hK2 ?_
   exact R1 (M1+10)
  cases oj H
  refine zH (hO2 _ _ _ _ rfl ⟨rfl,?_⟩)
  refine kr ?_
  exact R1 (M1+3)
 intro x a J hx
 obtain⟨y3,rfl⟩:∃x,x=e1:=⟨_,rfl⟩
 obtain⟨rfl,b,U,hr,M2,fM2_0,rfl,rfl⟩:=hx
 (try dsimp only at H)
 show K1 _ _
 refine hK1 _ _ (zI hr ?_)
 refine Rc.mk ?_
 refine qA [4] ?_
 cases oj H;exact W4

theorem c140 {p0:List gQuad}{r:(List gQuad)×Bool}(H:vE p0=some r):APure Tryz.prog G 140 [.fsl (eL rQuad p0)] (.tup [.fsl (eL rQuad r.1),.bool r.2]):=by
 refine qK func140 ntmps140 results140 fun N0=>?_
 unfold vE at H
 refine qA [0] ?_
 have q0:∀J i,bsA T 34 true i 0 [] J=some (.esl,J):=fun _ _=>rfl
 refine Sy tok [0] [0,4] q0 ?_
 refine Wsq [0,4] fun K1 hK1=>?_
 obtain⟨r1,hr1,H⟩:=bE H
 refine qD [0,4,12] (c108 hr1) ?_
 refine Ci H ?_ ?_<;>intro H
 .refine qA [2,3] ?_
  cases oj H;exact W4
 refine Js hK1 ?_
 obtain⟨r2,hr2,H⟩:=bE H
 refine jJ tok [] [0,4,5] (fun a J=>∃M1 o1:Nat,N0+10<=M1/\N0+10<=o1/\o1<M1/\a=[(0,.fsl (eL rQuad p0)),(4,.esl),(5,.sl o1 0 r2.length)]/\J=hp E0 [(o1,some ⟨4,1,eL rB r2⟩)] M1) (fun K hK=>?_) ?_
 .skip
  refine m0 ?_
  refine mo (c161_o (H:=hr2)) fun M1 o1 fM1_0 fM1_1 fM1_2=>?_
  refine m2 @hoS @hoN ?_
  exact hK _ _ ⟨M1,o1,(by omega),(by omega),(by omega),rfl,rfl⟩
 rintro a J ⟨M1,o1,fM1_0,fM1_1,fM1_2,rfl,rfl⟩
 refine Wsq [0,4,5] fun K2 hK2=>?_
 refine qA [0,4,5,6] ?_
 refine Wb ?_
 obtain⟨e1,hse1,H⟩:=bE H
 refine zS [0,4,5,6] (fun s a J=>∃M2 o2:Nat,N0<=M2/\N0<=o2/\o2<M2/\a=[(0,.fsl (eL rQuad p0)),(4,.esl),(5,.sl o2 0 s.2.length),(6,.int .i64 s.1)]/\J=hp E0 [(o2,some ⟨4,1,eL rB s.2⟩)] M2) (fun s x a J=>x=.exit 0/\Rc G 71 N0 (fun a J=>∃M3 o3:Nat,N0<=M3/\N0<=o3/\o3<M3/\a=[(0,.fsl (eL rQuad p0)),(4,.esl),(5,.sl o3 0 s.length)]/\J=hp E0 [(o3,some ⟨4,1,eL rB s⟩)] M3) (AAct.keep a [0,4,5]) J) hse1 ?_ ?_ ?_
 .refine kp [0,4,5,6] ?_
  exact R2 (M1+1) o1
 .clear H hse1
  rintro⟨s3,s4⟩ fl a J H ⟨M2,o2,fM2_0,fM2_1,fM2_2,rfl,rfl⟩ K3 O3 hK3 hO3
  unfold jF at H;dsimp only at H
  refine Wsq [0,4,5,6] fun K4 hK4=>?_
  refine qA [0,4,5,6,19] ?_
  refine Ci H ?_ ?_<;>intro H
  .refine Js hK4 ?_
   refine Wsq [0,4,5,6] fun K5 hK5=>?_
   refine Wb ?_
   obtain⟨v6,hv6,H⟩:=bE H
   obtain⟨g9,hg9,H⟩:=bE H
   obtain⟨l10,hl10,H⟩:=bE H
   refine AWP_rt tok [] [0,4,5,6] (fun a J=>a=[(0,.fsl (eL rQuad p0)),(4,.esl),(5,.sl o2 0 s4.length),(6,.int .i64 s3)]/\J=hp E0 [(o2,some ⟨4,1,eL rB l10⟩)] (M2+21)) (fun K hK=>?_) ?_
   .skip
    refine m1 (j (ixo38 hv6) (j ((zG hv6).2.2) ((setx_iff.1 hl10).2.symm))) ?_
    cases hbg9:v6
    .cases oj (ifF hbg9 hg9)
     refine m1 (j (ixo38 hv6) (j ((zG hv6).2.2) (j ((setx_iff.1 hl10).2.symm) hbg9))) ?_
     exact hK _ _ ⟨rfl,rfl⟩
    replace hg9:=ifT hbg9 hg9
    obtain⟨v7,hv7,hg9⟩:=bE hg9
    obtain⟨r8,hr8,hg9⟩:=bE hg9
    cases oj hg9
    refine m1 (j (ixo38 hv6) (j ((zG hv6).2.2) (j ((setx_iff.1 hl10).2.symm) (j hbg9 (ix34 hv7))))) ?_
    refine(c162 hr8).app (m1 (j (ixo38 hv6) (j ((zG hv6).2.2) (j ((setx_iff.1 hl10).2.symm) (j hbg9 (ix34 hv7))))) ?_)
    exact hK _ _ ⟨rfl,rfl⟩
   rintro a J ⟨ha,rfl⟩
   (try rw[<- zE hl10] at ha);(try rw[<- zE hl10])
   refine hK5 _ _ ?_;rw[ha]
   refine Rc.mk ?_
   obtain rfl:=oi H
   refine qI hK3 ?_
   exact R2 (M2+24) o2
  cases oj H
  refine zH (hO3 _ _ _ _ rfl ⟨rfl,?_⟩)
  refine kr ?_
  exact R2 (M2+4) o2
 intro x a J hx
 obtain⟨y5,rfl⟩:∃x,x=e1:=⟨_,rfl⟩
 obtain⟨rfl,b,U,hr,M3,o3,fM3_0,fM3_1,fM3_2,rfl,rfl⟩:=hx
 (try dsimp only at H)
 show K2 _ _
 refine hK2 _ _ (zI hr ?_)
 refine Rc.mk ?_
 refine Wsq [4] fun K6 hK6=>?_
 refine qA [0,4,5,7] ?_
 refine Wb ?_
 obtain⟨e3,hse3,H⟩:=bE H
 refine zS [0,4,5,7] (fun s a J=>∃M4 o4 o5:Nat,N0<=M4/\N0<=o4/\o4<M4/\N0<=o5/\o5<M4/\¬o4=o5/\a=[(0,.fsl (eL rQuad p0)),(4,.sl o5 0 s.2.2.length),(5,.sl o4 0 s.2.1.length),(7,.int .i64 s.1)]/\J=hp E0 [(o4,some ⟨4,1,eL rB s.2.1⟩),(o5,some ⟨68,5,eL rQuad s.2.2⟩)] M4) (fun s x a J=>x=.exit 2/\Rc G 71 N0 (fun a J=>∃M5 o6:Nat,N0<=M5/\N0<=o6/\o6<M5/\a=[(4,.sl o6 0 s.length)]/\J=hp E0 [(o6,some ⟨68,5,eL rQuad s⟩)] M5) (AAct.keep a [4]) J) hse3 ?_ ?_ ?_
 .refine kp [0,4,5,7] ?_
  refine gNilS zI 4 68 5 [(o3,some ⟨4,1,eL rB y5⟩),(M3+1,some ⟨68,5,eL rQuad ([]:List gQuad)⟩)] [(0,.fsl (eL rQuad p0)),(4,.sl (M3+1) 0 ([]:List gQuad).length),(5,.sl o3 0 y5.length),(7,.int .i64 0)] (by simp(disch:=omega)) (by simp(disch:=omega) [eN]) [0,4,5,7] rfl ?_
  exact R3 (M3+2) o3 (M3+1)
 .clear H hse3
  rintro⟨s11,s12,s13⟩ fl a J H ⟨M4,o4,o5,fM4_0,fM4_1,fM4_2,fM4_3,fM4_4,fM4_5,rfl,rfl⟩ K7 O7 hK7 hO7
  unfold tS at H;dsimp only at H
  refine Wsq [0,4,5,7] fun K8 hK8=>?_
  have e0:=nQ o4 o5
  refine qB [0,4,5,7,41] e0 ?_
  refine Ci H ?_ ?_<;>intro H
  .refine Js hK8 ?_
   refine Wsq [0,4,5,7] fun K9 hK9=>?_
   refine Wb ?_
   obtain⟨v15,hv15,H⟩:=bE H
   have e0:=nQ o4 o5
   have e1:=nQ o4 (M4+8)
   have e2:=nQ o5 (M4+8)
   refine qB [0,4,5,7,8] (j e0 (j e1 (j e2 (ix34 hv15)))) ?_
   refine Wsq [0,4,5,7,8] fun K10 hK10=>?_
   obtain⟨v16,hv16,H⟩:=bE H
   have e0:=nQ o4 o5
   have e1:=nQ o4 (M4+8)
   have e2:=nQ o5 (M4+8)
   refine qB [0,4,5,7,8,52] (j e0 (j e1 (j e2 (j (ixo38 hv16) ((zG hv16).2.2))))) ?_
   refine Ci H ?_ ?_<;>intro H
   .refine zH ?_
    show K9 _ _
    refine kE [0,4,5,7] fun a' ha=>?_
    refine hK9 _ _ ?_;rw[ha]
    refine Rc.mk ?_
    have e0:=nQ o4 o5
    have e1:=nQ o4 (M4+8)
    have e2:=nQ o5 (M4+8)
    obtain rfl:=oi H
    refine qJ (j e0 (j e1 e2)) hK7 ?_
    exact Rc.fin (zK (zK (AHeap.Sub.trans (AHeap.Sub.refl _) (zT rfl (by simp;try omega))))) ⟨M4+18,o4,o5,(by omega),(by omega),(by omega),(by omega),(by omega),(by omega),rfl,rfl⟩
   refine Js hK10 ?_
   obtain⟨j2,hj2,H⟩:=bE H
   refine kS (kM fun K11 hK11=>?_)
   have hJ1:∀a J,Rc G 71 N0 (fun a J=>∃M6:Nat,N0<=M6/\o4<M6/\o5<M6/\M4+8<M6/\a=[(0,.fsl (eL rQuad p0)),(4,.sl o5 0 s13.length),(5,.sl o4 0 s12.length),(7,.int .i64 s11),(8,.ptr (M4+8) 0 0)]/\J=hp E0 [(o4,some ⟨4,1,eL rB s12⟩),(o5,some ⟨68,5,eL rQuad s13⟩),(M4+8,some ⟨68,5,[[.int .i64 j2.Op,.int .i64 j2.Dst,.int .i64 j2.A,.int .i64 j2.B,.int .i64 j2.N]]⟩)] M6) (a.keep [0,4,5,7,8]) J->K11 a J:=by
    rintro a J ⟨b,U,hr,M6,fM6_0,fM6_1,fM6_2,fM6_3,rfl,rfl⟩
    refine hK11 _ _ (kG [0,4,5,7,8] (Wre hr ?_))
    obtain⟨l18,hl18,H⟩:=bE H
    have q1:∀J i,bsA T 34 true i 1 [(0,.agg [.int .i64 j2.Op,.int .i64 j2.Dst,.int .i64 j2.A,.int .i64 j2.B,.int .i64 j2.N])] J=some (.fsl (eL rQuad ([j2]:List gQuad)),J):=fun _ _=>rfl
    have e0:=nQ o4 o5
    have e1:=nQ o4 (M4+8)
    have e2:=nQ o4 (M6+3)
    have e3:=nQ o5 (M4+8)
    have e4:=nQ o5 (M6+3)
    have e5:=nQ (M4+8) (M6+3)
    have e6:=nQ (M4+5) M6
    refine Rb tok [2] (j e0 (j e1 (j e2 (j e3 (j e4 (j e5 (j e6 (j q1 (app34 hl18))))))))) hK9 ?_
    have e0:=nQ o4 (M4+8)
    have e1:=nQ o4 (M6+3)
    have e2:=nQ (M4+8) (M6+3)
    have e3:=nQ (M4+5) M6
    obtain rfl:=oi H
    refine qJ (j e0 (j e1 (j e2 e3))) hK7 ?_
    exact Rc.fin (zK (AHeap.Sub.trans (zK (AHeap.Sub.refl _)) (zT rfl (by simp;try omega)))) ⟨M6+8,o4,(M6+3),(by omega),(by omega),(by omega),(by omega),(by omega),(by omega),rfl,rfl⟩
   replace H:=hj2
   obtain⟨g19,hg19,H⟩:=bE H
   refine qF tok [0,4,5,7,8,60] ([(0,.fsl (eL rQuad p0)),(4,.sl o5 0 s13.length),(5,.sl o4 0 s12.length),(7,.int .i64 s11),(8,.ptr (M4+8) 0 0),(60,.bool g19)]) (hp E0 [(o4,some ⟨4,1,eL rB s12⟩),(o5,some ⟨68,5,eL rQuad s13⟩),(M4+8,some ⟨68,5,[[.int .i64 v15.Op,.int .i64 v15.Dst,.int .i64 v15.A,.int .i64 v15.B,.int .i64 v15.N]]⟩)] (M4+23)) (by
    intro K k
    have e0:=nQ o4 o5
    have e1:=nQ o4 (M4+8)
    have e2:=nQ o5 (M4+8)
    refine m1 (j e0 (j e1 e2)) ?_
    cases hbg19:ieq v15.Op 4
    .cases oj (ifF hbg19 hg19)
     exact m1 (j e0 (j e1 (j e2 hbg19))) k
    cases oj (ifT hbg19 hg19)
    refine m1 (j e0 (j e1 (j e2 hbg19))) ?_
    exact k) ?_
   refine Ci H ?_ ?_<;>intro H
   .obtain⟨r20,hr20,H⟩:=bE H
    refine AWP_rt tok [] [0,4,5,7,8] (fun a J=>a=[(0,.fsl (eL rQuad p0)),(4,.sl o5 0 s13.length),(5,.sl o4 0 s12.length),(7,.int .i64 s11),(8,.ptr (M4+8) 0 0)]/\J=hp E0 [(o4,some ⟨4,1,eL rB s12⟩),(o5,some ⟨68,5,eL rQuad s13⟩),(M4+8,some ⟨68,5,[[.int .i64 v15.Op,.int .i64 v15.Dst,.int .i64 v15.A,.int .i64 v15.B,.int .i64 r20]]⟩)] (M4+29)) (fun K hK=>?_) ?_
    .skip
     have e0:=nQ o4 o5
     have e1:=nQ o4 (M4+8)
     have e2:=nQ o5 (M4+8)
     refine m1 (j e0 (j e1 e2)) ?_
     refine(borrow 8 (c163 hr20) (by simp[e0,e1,e2]) rfl).mono ?_;rintro _ _ ⟨rfl,rfl⟩;try simp -dsimp -implicitDefEqProofs [e0,e1,e2]
     exact hK _ _ ⟨rfl,rfl⟩
    rintro a J ⟨ha,rfl⟩
    cases oj H
    refine hJ1 _ _ ?_;rw[ha]
    exact R1 (M4+29)
   refine Wsk ?_
   show K11 _ _
   refine kE [0,4,5,7,8] fun a' ha=>?_
   cases oj H
   refine hJ1 _ _ ?_;rw[ha]
   exact R1 (M4+23)
  cases oj H
  refine zH (hO7 _ _ _ _ rfl ⟨rfl,?_⟩)
  refine kr ?_
  exact Rc.fin (AHeap.Sub.trans (zK (AHeap.Sub.refl _)) (zT rfl (by simp;try omega))) ⟨M4+4,o5,(by omega),(by omega),(by omega),rfl,rfl⟩
 intro x a J hx
 obtain⟨y14,rfl⟩:∃x,x=e3:=⟨_,rfl⟩
 obtain⟨rfl,b,U,hr,M5,o6,fM5_0,fM5_1,fM5_2,rfl,rfl⟩:=hx
 (try dsimp only at H)
 show K6 _ _
 refine hK6 _ _ (zI hr ?_)
 refine Rc.mk ?_
 refine qA [2,3] ?_
 cases oj H;exact W4

theorem c126 {p0:List gQuad}{r:List gQuad}(H:mY p0=some r):APure Tryz.prog G 126 [.fsl (eL rQuad p0)] (.fsl (eL rQuad r)):=by
 refine qK func126 ntmps126 results126 fun N0=>?_
 unfold mY at H
 refine qA [0] ?_
 obtain⟨r1,hr1,H⟩:=bE H
 refine qD [3] (c136 hr1) ?_
 obtain⟨r2,hr2,H⟩:=bE H
 refine qD [5] (c137 hr2) ?_
 obtain⟨r3,hr3,H⟩:=bE H
 refine qD [7] (c138 hr3) ?_
 obtain⟨r4,hr4,H⟩:=bE H
 refine qD [9] (c139 hr4) ?_
 obtain⟨r5,hr5,H⟩:=bE H
 refine qD [11] (c140 hr5) ?_
 refine qA [2] ?_
 cases oj H;exact W4

theorem c103 {p0:List gQuad}{p1:Int}{r:(List gQuad)×Bool}(H:xM p0 p1=some r):APure Tryz.prog G 103 [.fsl (eL rQuad p0),.int .i64 p1] (.tup [.fsl (eL rQuad r.1),.bool r.2]):=by
 refine qK func103 ntmps103 results103 fun N0=>?_
 unfold xM at H
 refine qA [0,1] ?_
 refine Wsq [0,1] fun K1 hK1=>?_
 obtain⟨r1,hr1,H⟩:=bE H
 obtain⟨g3,hg3,H⟩:=bE H
 refine qF tok [0,1,15] ([(0,.fsl (eL rQuad p0)),(1,.int .i64 p1),(15,.bool g3)]) (hp E0 [] (N0+10)) (by
  intro K k
  refine m0 ?_
  refine(c108 hr1).app (m0 ?_)
  cases hbg3:bnot r1
  .replace hg3:=ifF hbg3 hg3
   obtain⟨r2,hr2,hg3⟩:=bE hg3
   cases oj hg3
   refine m1 hbg3 ?_
   refine(c71 hr2).app (m1 hbg3 ?_)
   exact k
  cases oj (ifT hbg3 hg3)
  refine m1 hbg3 ?_
  exact k) ?_
 refine Ci H ?_ ?_<;>intro H
 .have q0:∀J i,bsA T 34 true i 0 [] J=some (.esl,J):=fun _ _=>rfl
  refine Sy tok [0] [4,5] q0 ?_
  cases oj H;exact W4
 refine Js hK1 ?_
 obtain⟨l4,hl4,H⟩:=bE H
 have q1:∀J i,bsA T 34 true i 0 [] J=some (.esl,J):=fun _ _=>rfl
 refine Sz tok [0,2] [1,6] q1 (appf34 hl4) ?_
 refine Wsq [6] fun K2 hK2=>?_
 refine qA [1,6,7] ?_
 refine Wb ?_
 obtain⟨e1,hse1,H⟩:=bE H
 refine zS [1,6,7] (fun s a J=>∃M1:Nat,N0<=M1/\a=[(1,.int .i64 p1),(6,.fsl (eL rQuad s.1)),(7,.int .i64 s.2)]/\J=hp E0 [] M1) (fun s x a J=>x=.exit 0/\Rc G 28 N0 (fun a J=>∃M2:Nat,N0<=M2/\a=[(6,.fsl (eL rQuad s))]/\J=hp E0 [] M2) (AAct.keep a [6]) J) hse1 ?_ ?_ ?_
 .refine kp [1,6,7] ?_
  exact R1 (N0+15)
 .clear H hse1
  rintro⟨s5,s6⟩ fl a J H ⟨M1,fM1_0,rfl,rfl⟩ K3 O3 hK3 hO3
  unfold uG at H;dsimp only at H
  refine Wsq [1,6,7] fun K4 hK4=>?_
  refine qA [1,6,7,22] ?_
  refine Ci H ?_ ?_<;>intro H
  .refine Js hK4 ?_
   refine Wsq [1,6,7] fun K5 hK5=>?_
   refine Wb ?_
   obtain⟨r8,hr8,H⟩:=bE H
   refine Rt tok [] [1,6,7] (by intro K k;(repeat first|simp -dsimp -implicitDefEqProofs|refine(c126 hr8).app ?_);exact k) fun a ha=>?_
   refine hK5 _ _ ?_;rw[ha]
   refine Rc.mk ?_
   obtain rfl:=oi H
   refine qI hK3 ?_
   exact R1 (M1+9)
  cases oj H
  refine zH (hO3 _ _ _ _ rfl ⟨rfl,?_⟩)
  refine kr ?_
  exact R1 (M1+3)
 intro x a J hx
 obtain⟨y7,rfl⟩:∃x,x=e1:=⟨_,rfl⟩
 obtain⟨rfl,b,U,hr,M2,fM2_0,rfl,rfl⟩:=hx
 (try dsimp only at H)
 show K2 _ _
 refine hK2 _ _ (zI hr ?_)
 refine Rc.mk ?_
 refine qA [4,5] ?_
 cases oj H;exact W4

theorem c66 {p0:gL6Rd}{r:(List gQuad)×gL6Rd}(H:mS p0=some r){J:AHeap}{w0:Nat}{W0:List (List AV)}{r0_:Nat}(q0:J.objs w0=some ⟨96,2,W0⟩)(g0:W0[r0_]? =some [.fsl (eL rU8 p0.b),.int .i64 p0.p]):ACalls Tryz.prog G 66 [.ptr w0 r0_ 0] J (fun v J'=>∃M:Nat,J.next<=M/\v=.fsl (eL rQuad r.1)/\J'=hp J.objs [(w0,some ⟨96,2,W0.set r0_ [.fsl (eL rU8 r.2.b),.int .i64 r.2.p]⟩)] M):=by
 refine fr1 ([(w0,some ⟨96,2,W0⟩)]) (by simp[q0]) (fun hlt=>?_) ⟨_,func66,rfl,rfl⟩
 generalize J.next=N0 at hlt ⊢
 have lw0:w0<N0:=hlt _ (.head _) rfl
 have gs_W0:∀x,(W0.set r0_ x)[r0_]? =some x:=gsetW g0
 rw[<- kK g0]
 refine fnK tok func66 ntmps66 results66 ?_
 simp only[argsA,Nat.reduceAdd,hpN]
 unfold mS at H
 refine qB [0] gs_W0 ?_
 refine Wsq [0] fun K1 hK1=>?_
 obtain⟨r1,hr1,H⟩:=bE H
 refine Sm tok [] [0,9] (N0+4) (by
  intro K k
  refine m1 gs_W0 ?_
  refine mc gs_W0 (c34 (r0_:=r0_) (H:=hr1)) fun M1 fM1_0=>?_
  refine m1 (j gs_W0 (j @hoS @hoN)) ?_
  exact k M1 (by omega)) fun M1 fM1_0=>?_
 refine Ci H ?_ ?_<;>intro H
 .obtain⟨r2,hr2,H⟩:=bE H
  refine Sm tok [] [2] (M1+3) (by
   intro K k
   refine m1 gs_W0 ?_
   refine mc gs_W0 (c100 (r0_:=r0_) (H:=hr2)) fun M2 fM2_0=>?_
   refine m1 (j gs_W0 (j @hoS @hoN)) ?_
   exact k M2 (by omega)) fun M2 fM2_0=>?_
  obtain rfl:=oi H
  refine Kp [2] ?_
  exact V1 gs_W0 M2
 refine Js hK1 ?_
 obtain⟨r3,hr3,H⟩:=bE H
 obtain⟨r4,hr4,H⟩:=bE H
 refine Sm tok [] [0,3] (M1+8) (by
  intro K k
  refine m1 gs_W0 ?_
  refine mc gs_W0 (c102 (r0_:=r0_) (H:=hr3)) fun M3 fM3_0=>?_
  refine m1 (j gs_W0 (j @hoS @hoN)) ?_
  refine(c101 hr4).app (m1 (j gs_W0 (j @hoS @hoN)) ?_)
  exact k M3 (by omega)) fun M3 fM3_0=>?_
 refine Wsq [0,3] fun K2 hK2=>?_
 refine qB [0,3,20] gs_W0 ?_
 refine Ci H ?_ ?_<;>intro H
 .obtain⟨r5,hr5,H⟩:=bE H
  refine Sm tok [] [2] (M3+6) (by
   intro K k
   refine m1 gs_W0 ?_
   refine mc gs_W0 (c100 (r0_:=r0_) (H:=hr5)) fun M4 fM4_0=>?_
   refine m1 (j gs_W0 (j @hoS @hoN)) ?_
   exact k M4 (by omega)) fun M4 fM4_0=>?_
  obtain rfl:=oi H
  refine Kp [2] ?_
  exact V1 gs_W0 M4
 refine Js hK2 ?_
 obtain⟨r6,hr6,H⟩:=bE H
 obtain⟨v7,hv7,H⟩:=bE H
 obtain⟨r8,hr8,H⟩:=bE H
 refine Sm tok [] [5] (M3+13) (by
  intro K k
  refine m2 gs_W0 hv7 ?_
  refine mc (j gs_W0 hv7) (c34 (r0_:=r0_) (H:=hr6)) fun M5 fM5_0=>?_
  refine m1 (j gs_W0 (j hv7 (j @hoS @hoN))) ?_
  refine(c103 hr8).app (m1 (j gs_W0 (j hv7 (j @hoS @hoN))) ?_)
  exact k M5 (by omega)) fun M5 fM5_0=>?_
 refine qB [2] gs_W0 ?_
 obtain rfl:=oi H
 refine Kp [2] ?_
 exact V1 gs_W0 (M5+2)

theorem c35_o {p0:gL6Rd}{r:(List (List gQuad))×gL6Rd}(H:uU p0=some r){J:AHeap}{w0:Nat}{W0:List (List AV)}{r0_:Nat}(q0:J.objs w0=some ⟨96,2,W0⟩)(g0:W0[r0_]? =some [.fsl (eL rU8 p0.b),.int .i64 p0.p]):ACalls Tryz.prog G 35 [.ptr w0 r0_ 0] J (fun v J'=>∃M n0:Nat,J.next<=M/\J.next<=n0/\n0<M/\v=.sl n0 0 r.1.length/\J'=hp J.objs [(w0,some ⟨96,2,W0.set r0_ [.fsl (eL rU8 r.2.b),.int .i64 r.2.p]⟩),(n0,some ⟨34,1,eL zA r.1⟩)] M):=by
 refine fr2 ([(w0,some ⟨96,2,W0⟩)]) (by simp[q0]) (fun hlt=>?_) ⟨_,func35,rfl,rfl⟩
 generalize J.next=N0 at hlt ⊢
 have lw0:w0<N0:=hlt _ (.head _) rfl
 have gs_W0:∀x,(W0.set r0_ x)[r0_]? =some x:=gsetW g0
 rw[<- kK g0]
 refine fnK tok func35 ntmps35 results35 ?_
 simp only[argsA,Nat.reduceAdd,hpN]
 unfold uU at H
 refine qB [0] gs_W0 ?_
 have q0:∀J i,bsA T 24 true i 0 [] J=some (.esl,J):=fun _ _=>rfl
 refine Sz tok [0] [0,3] gs_W0 q0 ?_
 obtain⟨r1,hr1,H⟩:=bE H
 refine Sm tok [] [0,3,4] (N0+7) (by
  intro K k
  refine m1 gs_W0 ?_
  refine mc gs_W0 (c34 (r0_:=r0_) (H:=hr1)) fun M1 fM1_0=>?_
  refine m1 (j gs_W0 (j @hoS @hoN)) ?_
  exact k M1 (by omega)) fun M1 fM1_0=>?_
 refine Wsq [3] fun K1 hK1=>?_
 refine qB [0,3,4,5] gs_W0 ?_
 refine Wb ?_
 obtain⟨e1,hse1,H⟩:=bE H
 refine zS [0,3,4,5] (fun s a J=>∃M2 o1:Nat,N0<=M2/\N0<=o1/\o1<M2/\a=[(0,.ptr w0 r0_ 0),(3,.sl o1 0 s.2.2.length),(4,.int .i64 (iadd .i64 1 r1.1)),(5,.int .i64 s.1)]/\J=hp E0 [(w0,some ⟨96,2,W0.set r0_ [.fsl (eL rU8 s.2.1.b),.int .i64 s.2.1.p]⟩),(o1,some ⟨34,1,eL zA s.2.2⟩)] M2) (fun s x a J=>x=.exit 0/\Rc G 21 N0 (fun a J=>∃M3 o2:Nat,N0<=M3/\N0<=o2/\o2<M3/\a=[(3,.sl o2 0 s.2.length)]/\J=hp E0 [(w0,some ⟨96,2,W0.set r0_ [.fsl (eL rU8 s.1.b),.int .i64 s.1.p]⟩),(o2,some ⟨34,1,eL zA s.2⟩)] M3) (AAct.keep a [3]) J) hse1 ?_ ?_ ?_
 .refine kp [0,3,4,5] ?_
  refine gNilS zI 3 34 1 [(w0,some ⟨96,2,W0.set r0_ [.fsl (eL rU8 r1.2.b),.int .i64 r1.2.p]⟩),(M1+1,some ⟨34,1,eL zA ([]:List (List gQuad))⟩)] [(0,.ptr w0 r0_ 0),(3,.sl (M1+1) 0 ([]:List (List gQuad)).length),(4,.int .i64 (iadd .i64 1 r1.1)),(5,.int .i64 0)] (by simp(disch:=omega)) (by simp(disch:=omega) [eN]) [0,3,4,5] rfl ?_
  exact R2 (M1+2) (M1+1)
 .clear H hse1
  rintro⟨s2,s3,s4⟩ fl a J H ⟨M2,o1,fM2_0,fM2_1,fM2_2,rfl,rfl⟩ K2 O2 hK2 hO2
  unfold sP at H;dsimp only at H
  refine Wsq [0,3,4,5] fun K3 hK3=>?_
  have e0:=nQ w0 o1
  refine qC [0,3,4,5,12] e0 gs_W0 ?_
  refine Ci H ?_ ?_<;>intro H
  .refine Js hK3 ?_
   refine Wsq [0,3,4,5] fun K4 hK4=>?_
   refine Wb ?_
   obtain⟨r7,hr7,H⟩:=bE H
   obtain⟨l8,hl8,H⟩:=bE H
   have q1:∀J i,bsA T 24 true i 1 [(0,.fsl (eL rQuad r7.1))] J=some (.fsl (eL zA ([r7.1]:List (List gQuad))),J):=fun _ _=>rfl
   refine AWP_rt tok [3] [0,3,4,5] (fun a J=>∃M4:Nat,M2+9<=M4/\a=[(0,.ptr w0 r0_ 0),(3,.sl (M2+7) 0 l8.length),(4,.int .i64 (iadd .i64 1 r1.1)),(5,.int .i64 s2)]/\J=hp E0 [(w0,some ⟨96,2,W0.set r0_ [.fsl (eL rU8 r7.2.b),.int .i64 r7.2.p]⟩),(M2+7,some ⟨34,1,eL zA l8⟩)] M4) (fun K hK=>?_) ?_
   .skip
    have e0:=nQ w0 o1
    have e1:=nQ w0 (M2+7)
    have e2:=nQ o1 (M2+7)
    refine m1 (j e0 (j e1 (j e2 (j gs_W0 (j q1 (app24 hl8)))))) ?_
    refine mc (j e0 (j e1 (j e2 (j gs_W0 (j q1 (app24 hl8)))))) (c66 (r0_:=r0_) (H:=hr7)) fun M4 fM4_0=>?_
    refine m1 (j e0 (j e1 (j e2 (j gs_W0 (j q1 (j (app24 hl8) (j @hoS @hoN))))))) ?_
    exact hK _ _ ⟨M4,(by omega),rfl,rfl⟩
   rintro a J ⟨M4,fM4_0,ha,rfl⟩
   refine hK4 _ _ ?_;rw[ha]
   refine Rc.mk ?_
   have e0:=nQ w0 (M2+7)
   obtain rfl:=oi H
   refine qJ (j e0 gs_W0) hK2 ?_
   exact R2 (M4+3) (M2+7)
  cases oj H
  refine zH (hO2 _ _ _ _ rfl ⟨rfl,?_⟩)
  refine kr ?_
  exact R2 (M2+3) o1
 intro x a J hx
 obtain⟨y5,y6⟩:=e1
 obtain⟨rfl,b,U,hr,M3,o2,fM3_0,fM3_1,fM3_2,rfl,rfl⟩:=hx
 (try dsimp only at H)
 show K1 _ _
 refine hK1 _ _ (zI hr ?_)
 refine Rc.mk ?_
 have e0:=nQ w0 o2
 refine qC [2] e0 gs_W0 ?_
 obtain rfl:=oi H
 refine Kp [2] ?_
 have z0:=nQ w0 o2
 exact V2 (j z0 gs_W0) (M3+2) o2

theorem c13 {p0:List Int}{r:(List Int)×(List (List gQuad))}(H:yF p0=some r):APure Tryz.prog G 13 [.fsl (eL rU8 p0)] (.tup [.fsl (eL rI r.1),.fsl (eL zA r.2)]):=by
 refine qK func13 ntmps13 results13 fun N0=>?_
 unfold yF at H
 refine qA [0] ?_
 obtain⟨r1,hr1,H⟩:=bE H
 refine jJ tok [] [4] (fun a J=>∃M1 o1:Nat,N0+5<=M1/\N0+5<=o1/\o1<M1/\a=[(4,.ptr o1 0 0)]/\J=hp E0 [(o1,some ⟨96,2,[[.fsl (eL rU8 r1.b),.int .i64 r1.p]]⟩)] M1) (fun K hK=>?_) ?_
 .skip
  refine m0 ?_
  refine mo (c33_o (H:=hr1)) fun M1 o1 fM1_0 fM1_1 fM1_2=>?_
  refine m2 @hoS @hoN ?_
  exact hK _ _ ⟨M1,o1,(by omega),(by omega),(by omega),rfl,rfl⟩
 rintro a J ⟨M1,o1,fM1_0,fM1_1,fM1_2,rfl,rfl⟩
 obtain⟨r2,hr2,H⟩:=bE H
 obtain⟨r3,hr3,H⟩:=bE H
 obtain⟨l4,hl4,H⟩:=bE H
 have q0:∀J i,bsA T 23 false i 2 [(0,.int .i64 (iadd .i64 1 r2.1)),(1,.int .i64 (iadd .i64 1 r3.1))] J=some (.sl i 0 (List.length l4),J.put i ⟨3,1,eL rI l4⟩):=by rw[<- Option.some.inj hl4];exact fun _ _=>rfl
 refine Sm tok [] [4,5] (M1+8) (by
  intro K k
  have e0:=nQ o1 (M1+6)
  refine m2 e0 q0 ?_
  refine mc (j e0 q0) (c34 (r0_:=0) (H:=hr2)) fun M2 fM2_0=>?_
  refine m1 (j e0 (j q0 (j @hoS @hoN))) ?_
  refine mc (j e0 (j q0 (j @hoS @hoN))) (c34 (r0_:=0) (H:=hr3)) fun M3 fM3_0=>?_
  refine m1 (j e0 (j q0 (j @hoS @hoN))) ?_
  exact k M3 (by omega)) fun M3 fM3_0=>?_
 obtain⟨r5,hr5,H⟩:=bE H
 refine jJ tok [] [4,5,6] (fun a J=>∃M4 o2:Nat,M3+3<=M4/\M3+3<=o2/\o2<M4/\a=[(4,.ptr o1 0 0),(5,.sl (M1+6) 0 l4.length),(6,.sl o2 0 r5.1.length)]/\J=hp E0 [(o1,some ⟨96,2,[[.fsl (eL rU8 r5.2.b),.int .i64 r5.2.p]]⟩),(M1+6,some ⟨3,1,eL rI l4⟩),(o2,some ⟨34,1,eL zA r5.1⟩)] M4) (fun K hK=>?_) ?_
 .skip
  have e0:=nQ o1 (M1+6)
  refine m1 e0 ?_
  refine(c35_o (W0:=[[.fsl (eL rU8 r3.2.b),.int .i64 r3.2.p]]) (r0_:=0) (H:=hr5) (by simp[e0]) (by simp[e0])).mono ?_;rintro _ _ ⟨M4,o2,fM4_0,fM4_1,fM4_2,rfl,rfl⟩;simp only[hpN] at fM4_0 fM4_1 fM4_2
  have eM4_0:=nQ o2 o1
  have eM4_1:=nQ o2 (M1+6)
  refine m1 (j e0 (j eM4_0 (j eM4_1 (j @hoS @hoN)))) ?_
  exact hK _ _ ⟨M4,o2,(by omega),(by omega),(by omega),rfl,rfl⟩
 rintro a J ⟨M4,o2,fM4_0,fM4_1,fM4_2,rfl,rfl⟩
 refine Wsq [5,6] fun K1 hK1=>?_
 obtain⟨r6,hr6,H⟩:=bE H
 refine Sm tok [] [5,6,19] (M4+2) (by
  intro K k
  have e0:=nQ o1 (M1+6)
  have e1:=nQ o1 o2
  have e2:=nQ (M1+6) o2
  refine m1 (j e0 (j e1 e2)) ?_
  refine mc (j e0 (j e1 e2)) (c34 (r0_:=0) (H:=hr6)) fun M5 fM5_0=>?_
  refine m1 (j e0 (j e1 (j e2 (j @hoS @hoN)))) ?_
  exact k M5 (by omega)) fun M5 fM5_0=>?_
 refine Wb ?_
 have e0:=nQ o1 (M1+6)
 have e1:=nQ o1 o2
 have e2:=nQ (M1+6) o2
 refine qB [5,6,19,20] (j e0 (j e1 e2)) ?_
 refine Ci H ?_ ?_<;>intro H
 .have q1:∀J i,bsA T 23 true i 0 [] J=some (.esl,J):=fun _ _=>rfl
  have e0:=nQ o1 (M1+6)
  have e1:=nQ o1 o2
  have e2:=nQ (M1+6) o2
  refine Rb tok [0] (j e0 (j e1 (j e2 q1))) hK1 ?_
  have e0:=nQ o1 (M1+6)
  have e1:=nQ o1 o2
  have e2:=nQ (M1+6) o2
  refine qB [2,3] (j e0 (j e1 e2)) ?_
  obtain rfl:=oi H
  refine Kp [2,3] ?_
  have z0:=nQ o1 (M1+6)
  have z1:=nQ o1 o2
  have z2:=nQ (M1+6) o2
  refine Wr ?_
  exact⟨[.esl,.sl o2 0 r5.1.length],by simp[z0,z1,z2],4,by simp[eN,z0,z1,z2]⟩
 have e0:=nQ o1 (M1+6)
 have e1:=nQ o1 o2
 have e2:=nQ (M1+6) o2
 refine qB [5,6,19,23] (j e0 (j e1 e2)) ?_
 refine Ci H ?_ ?_<;>intro H
 .obtain⟨v7,hv7,H⟩:=bE H
  obtain⟨l8,hl8,H⟩:=bE H
  have e0:=nQ o1 (M1+6)
  have e1:=nQ o1 o2
  have e2:=nQ (M1+6) o2
  refine Rt tok [] [5,6] (by intro K k;simp -dsimp -implicitDefEqProofs [e0,e1,e2,ixo23 hv7,(show _[0]? =some v7 from(zG hv7).2.2),(show List.set _ 0 _=l8 from(setx_iff.1 hl8).2.symm)];exact k) fun a ha=>?_
  (try rw[<- zE hl8] at ha);(try rw[<- zE hl8])
  refine hK1 _ _ ?_;rw[ha]
  refine Rc.mk ?_
  have e0:=nQ o1 (M1+6)
  have e1:=nQ o1 o2
  have e2:=nQ (M1+6) o2
  refine qB [2,3] (j e0 (j e1 e2)) ?_
  obtain rfl:=oi H
  refine Kp [2,3] ?_
  have z3:=nQ o1 (M1+6)
  have z4:=nQ o1 o2
  have z5:=nQ (M1+6) o2
  refine Wr ?_
  exact⟨[.sl (M1+6) 0 l8.length,.sl o2 0 r5.1.length],by simp[z3,z4,z5],4,by simp[eN,z3,z4,z5]⟩
 have e0:=nQ o1 (M1+6)
 have e1:=nQ o1 o2
 have e2:=nQ (M1+6) o2
 refine qB [5,6,27] (j e0 (j e1 e2)) ?_
 refine Ci H ?_ ?_<;>intro H
 .obtain⟨l9,hl9,H⟩:=bE H
  have q2:∀J i,bsA T 34 true i 0 [] J=some (.esl,J):=fun _ _=>rfl
  have q3:∀  J i,bsA T 24 true i 1 [(0,.esl)] J=some (.fsl [[.esl]],J):=fun  _ _=>rfl
  have e0:=nQ o1 (M1+6)
  have e1:=nQ o1 o2
  have e2:=nQ o1 (M5+9)
  have e3:=nQ (M1+6) o2
  have e4:=nQ (M1+6) (M5+9)
  have e5:=nQ M1 (M5+3)
  have e6:=nQ o2 (M5+9)
  refine Rb tok [1,2] (j e0 (j e1 (j e2 (j e3 (j e4 (j e5 (j e6 (j q2 (j q3 (apr24 zA hl9)))))))))) hK1 ?_
  refine gWkC Wre (o:=(M5+9)) (ob:=⟨34,1,eL zA r5.1++[[.esl]]⟩) (row:=[.esl]) (r:=r5.1.length) (i:=0) [(o1,some ⟨96,2,[[.fsl (eL rU8 r6.2.b),.int .i64 r6.2.p]]⟩),(M1+6,some ⟨3,1,eL rI l4⟩),(M5+9,some ⟨34,1,eL zA r5.1++[[.fsl []]]⟩)] (by simp(disch:=omega)) (app_get _ _ _) rfl (by simp(disch:=omega)) (by simp(disch:=omega) [eN,fE]) ?_
  rw[show hp E0 [(o1,some ⟨96,2,[[.fsl (eL rU8 r6.2.b),.int .i64 r6.2.p]]⟩),(M1+6,some ⟨3,1,eL rI l4⟩),(M5+9,some ⟨34,1,eL zA r5.1++[[.fsl []]]⟩)] (M5+11)=hp E0 [(o1,some ⟨96,2,[[.fsl (eL rU8 r6.2.b),.int .i64 r6.2.p]]⟩),(M1+6,some ⟨3,1,eL rI l4⟩),(M5+9,some ⟨34,1,eL zA l9⟩)] (M5+11) from by rw[<- app_enc (f:=zA) (c:=[.fsl []]) hl9 rfl]]
  have e0:=nQ o1 (M1+6)
  have e1:=nQ o1 (M5+9)
  have e2:=nQ (M1+6) (M5+9)
  have e3:=nQ M1 (M5+3)
  refine qB [2,3] (j e0 (j e1 (j e2 e3))) ?_
  obtain rfl:=oi H
  refine Kp [2,3] ?_
  have z6:=nQ o1 (M1+6)
  have z7:=nQ o1 (M5+9)
  have z8:=nQ (M1+6) (M5+9)
  have z9:=nQ M1 (M5+3)
  refine Wr ?_
  exact⟨[.sl (M1+6) 0 l4.length,.sl (M5+9) 0 l9.length],by simp[z6,z7,z8,z9],4,by simp[eN,z6,z7,z8,z9]⟩
 refine Js hK1 ?_
 have e0:=nQ o1 (M1+6)
 have e1:=nQ o1 o2
 have e2:=nQ (M1+6) o2
 refine qB [2,3] (j e0 (j e1 e2)) ?_
 obtain rfl:=oi H
 refine Kp [2,3] ?_
 have z10:=nQ o1 (M1+6)
 have z11:=nQ o1 o2
 have z12:=nQ (M1+6) o2
 refine Wr ?_
 exact⟨[.sl (M1+6) 0 l4.length,.sl o2 0 r5.1.length],by simp[z10,z11,z12],4,by simp[eN,z10,z11,z12]⟩

theorem c47 {p0:List gQuad}{r:List gQuad}(H:kC p0=some r):APure Tryz.prog G 47 [.fsl (eL rQuad p0)] (.fsl (eL rQuad r)):=by
 refine qK func47 ntmps47 results47 fun N0=>?_
 unfold kC at H
 refine qA [0] ?_
 refine Wsq [0] fun K1 hK1=>?_
 refine AWP_isnil tok [4,0] ([(0,.fsl (eL rQuad p0))]) rfl rfl (by decide) (by decide) (by decide) (fun _=>rfl) (fun n0=>?_) ?_
 .replace n0:p0=[]:=fW n0
  replace H:(if true=true then   some ([]:List gQuad) else   (appx 40 ([]:List gQuad) p0).bind fun l2=>   some l2:Option ((List gQuad)))=some r:=by simpa [n0,appx] using H
  refine Ci H ?_ ?_<;>intro H
  .refine qA [2] ?_
   cases oj H;exact W4
  refine Js hK1 ?_
  obtain⟨l2,hl2,H⟩:=bE H
  have q2:∀J i,bsA T 34 true i 0 [] J=some (.esl,J):=fun _ _=>rfl
  refine Sz tok [0,2] [2] q2 (appf34 hl2) ?_
  cases oj H;exact W4
 .
  refine Ci H ?_ ?_<;>intro H
  .refine qA [2] ?_
   cases oj H;exact W4
  refine Js hK1 ?_
  obtain⟨l1,hl1,H⟩:=bE H
  have q1:∀J i,bsA T 34 true i 0 [] J=some (.esl,J):=fun _ _=>rfl
  refine Sz tok [0,2] [2] q1 (appf34 hl1) ?_
  cases oj H;exact W4

theorem c36 {p0:(List (List gQuad))}{r:(List (List gQuad))}(H:uL p0=some r):APure Tryz.prog G 36 [.fsl (eL zA p0)] (.fsl (eL zA r)):=by
 refine qK func36 ntmps36 results36 fun N0=>?_
 unfold uL at H
 refine qA [0] ?_
 refine qA [0,3] ?_
 refine Wsq [3] fun K1 hK1=>?_
 refine qA [3,6,7,8] ?_
 refine Wb ?_
 obtain⟨e1,hse1,H⟩:=bE H
 refine zS [3,6,7,8] (fun s a J=>∃M1 o1:Nat,N0<=M1/\N0<=o1/\o1<M1/\a=[(3,.sl o1 0 s.2.length),(6,.fsl (eL zA p0)),(7,.int .i64 (ilen p0)),(8,.int .i64 s.1)]/\J=hp E0 [(o1,some ⟨34,1,eL zA s.2⟩)] M1) (fun s x a J=>x=.exit 0/\Rc G 19 N0 (fun a J=>∃M2 o2:Nat,N0<=M2/\N0<=o2/\o2<M2/\a=[(3,.sl o2 0 s.length)]/\J=hp E0 [(o2,some ⟨34,1,eL zA s⟩)] M2) (AAct.keep a [3]) J) hse1 ?_ ?_ ?_
 .refine kp [3,6,7,8] ?_
  refine gNilS zI 3 34 1 [(N0+5,some ⟨34,1,eL zA ([]:List (List gQuad))⟩)] [(3,.sl (N0+5) 0 ([]:List (List gQuad)).length),(6,.fsl (eL zA p0)),(7,.int .i64 (ilen p0)),(8,.int .i64 0)] (by simp(disch:=omega)) (by simp(disch:=omega) [eN]) [3,6,7,8] rfl ?_
  exact R2 (N0+6) (N0+5)
 .clear H hse1
  rintro⟨s1,s2⟩ fl a J H ⟨M1,o1,fM1_0,fM1_1,fM1_2,rfl,rfl⟩ K2 O2 hK2 hO2
  unfold xW at H;dsimp only at H
  refine qA [3,6,7,8,9] ?_
  refine Wsq [3,6,7,8] fun K3 hK3=>?_
  refine Ci H ?_ ?_<;>intro H
  .refine Js hK3 ?_
   refine Wsq [3,6,7,8] fun K4 hK4=>?_
   refine Wb ?_
   obtain⟨v4,hv4,H⟩:=bE H
   refine qB [3,5,6,7,8] (ix24 hv4) ?_
   obtain⟨r5,hr5,H⟩:=bE H
   obtain⟨l6,hl6,H⟩:=bE H
   have q0:∀J i,bsA T 24 true i 1 [(0,.fsl (eL rQuad r5))] J=some (.fsl (eL zA ([r5]:List (List gQuad))),J):=fun _ _=>rfl
   have e0:=nQ o1 (M1+8)
   refine Rt tok [3] [3,6,7,8] (by intro K k;(repeat first|simp -dsimp -implicitDefEqProofs [e0,q0,app24 hl6]|refine(c47 hr5).app ?_);exact k) fun a ha=>?_
   refine hK4 _ _ ?_;rw[ha]
   refine Rc.mk ?_
   obtain rfl:=oi H
   refine qI hK2 ?_
   exact R2 (M1+12) (M1+8)
  cases oj H
  refine zH (hO2 _ _ _ _ rfl ⟨rfl,?_⟩)
  refine kr ?_
  exact R2 (M1+1) o1
 intro x a J hx
 obtain⟨y3,rfl⟩:∃x,x=e1:=⟨_,rfl⟩
 obtain⟨rfl,b,U,hr,M2,o2,fM2_0,fM2_1,fM2_2,rfl,rfl⟩:=hx
 (try dsimp only at H)
 show K1 _ _
 refine hK1 _ _ (zI hr ?_)
 refine Rc.mk ?_
 refine qA [2] ?_
 cases oj H;exact W4

theorem c37 {p0:List Int}{r:List gBox}(H:oD p0=some r):APure Tryz.prog G 37 [.fsl (eL rI p0)] (.fsl (eL rBox r)):=by
 refine qK func37 ntmps37 results37 fun N0=>?_
 unfold oD at H
 refine qA [0] ?_
 refine qA [0,3] ?_
 refine Wsq [3] fun K1 hK1=>?_
 refine qA [3,6,7,8] ?_
 refine Wb ?_
 obtain⟨e1,hse1,H⟩:=bE H
 refine zS [3,6,7,8] (fun s a J=>∃M1 o1:Nat,N0<=M1/\N0<=o1/\o1<M1/\a=[(3,.sl o1 0 s.2.length),(6,.fsl (eL rI p0)),(7,.int .i64 (ilen p0)),(8,.int .i64 s.1)]/\J=hp E0 [(o1,some ⟨99,2,eL rBox s.2⟩)] M1) (fun s x a J=>x=.exit 0/\Rc G 19 N0 (fun a J=>∃M2 o2:Nat,N0<=M2/\N0<=o2/\o2<M2/\a=[(3,.sl o2 0 s.length)]/\J=hp E0 [(o2,some ⟨99,2,eL rBox s⟩)] M2) (AAct.keep a [3]) J) hse1 ?_ ?_ ?_
 .refine kp [3,6,7,8] ?_
  refine gNilS zI 3 99 2 [(N0+5,some ⟨99,2,eL rBox ([]:List gBox)⟩)] [(3,.sl (N0+5) 0 ([]:List gBox).length),(6,.fsl (eL rI p0)),(7,.int .i64 (ilen p0)),(8,.int .i64 0)] (by simp(disch:=omega)) (by simp(disch:=omega) [eN]) [3,6,7,8] rfl ?_
  exact R2 (N0+6) (N0+5)
 .clear H hse1
  rintro⟨s1,s2⟩ fl a J H ⟨M1,o1,fM1_0,fM1_1,fM1_2,rfl,rfl⟩ K2 O2 hK2 hO2
  unfold vV at H;dsimp only at H
  refine qA [3,6,7,8,9] ?_
  refine Wsq [3,6,7,8] fun K3 hK3=>?_
  refine Ci H ?_ ?_<;>intro H
  .refine Js hK3 ?_
   refine Wsq [3,6,7,8] fun K4 hK4=>?_
   refine Wb ?_
   obtain⟨v4,hv4,H⟩:=bE H
   refine qB [3,5,6,7,8] (ix23 hv4) ?_
   obtain⟨l5,hl5,H⟩:=bE H
   have q0:∀J i,bsA T 28 true i 1 [(0,.agg [.int .i64 v4,.fsl []])] J=some (.fsl (eL rBox ([(⟨v4,([]:List Int)⟩:gBox)]:List gBox)),J):=fun _ _=>rfl
   have e0:=nQ o1 (M1+8)
   refine Rb tok [3] (j e0 (j q0 (app28 hl5))) hK4 ?_
   obtain rfl:=oi H
   refine qI hK2 ?_
   exact R2 (M1+12) (M1+8)
  cases oj H
  refine zH (hO2 _ _ _ _ rfl ⟨rfl,?_⟩)
  refine kr ?_
  exact R2 (M1+1) o1
 intro x a J hx
 obtain⟨y3,rfl⟩:∃x,x=e1:=⟨_,rfl⟩
 obtain⟨rfl,b,U,hr,M2,o2,fM2_0,fM2_1,fM2_2,rfl,rfl⟩:=hx
 (try dsimp only at H)
 show K1 _ _
 refine hK1 _ _ (zI hr ?_)
 refine Rc.mk ?_
 refine qA [2] ?_
 cases oj H;exact W4

theorem c38 {p0:List Int}{r:Bool}(H:tL p0=some r):APure Tryz.prog G 38 [.fsl (eL rI p0)] (.bool r):=by
 refine qK func38 ntmps38 results38 fun N0=>?_
 unfold tL at H
 refine qA [0] ?_
 refine Wsq [0] fun K1 hK1=>?_
 refine qA [0,5,6,7] ?_
 refine Wb ?_
 obtain⟨e1,hse1,H⟩:=bE H
 refine zS [0,5,6,7] (fun s a J=>∃M1:Nat,N0<=M1/\a=[(0,.fsl (eL rI p0)),(5,.fsl (eL rI p0)),(6,.int .i64 (ilen p0)),(7,.int .i64 s)]/\J=hp E0 [] M1) (fun e x a J=>match e with|.inl s=>x=.exit 0/\Rc G 21 N0 (fun a J=>∃M2:Nat,N0<=M2/\a=[(0,.fsl (eL rI p0))]/\J=hp E0 [] M2) (AAct.keep a [0]) J|.inr s=>x=.ret/\∃vs,resA T J a [.tmp 2]=some vs/\∃d,thawA (fun _=>true) J d (tupA vs)=.bool s) hse1 ?_ ?_ ?_
 .refine kp [0,5,6,7] ?_
  exact R1 (N0+4)
 .clear H hse1
  rintro s1 fl a J H ⟨M1,fM1_0,rfl,rfl⟩ K2 O2 hK2 hO2
  unfold jX at H;dsimp only at H
  refine qA [0,5,6,7,8] ?_
  refine Wsq [0,5,6,7] fun K3 hK3=>?_
  refine Ci H ?_ ?_<;>intro H
  .refine Js hK3 ?_
   refine Wsq [0,5,6,7] fun K4 hK4=>?_
   refine Wb ?_
   obtain⟨v2,hv2,H⟩:=bE H
   refine qB [0,4,5,6,7] (ix23 hv2) ?_
   obtain⟨g3,hg3,H⟩:=bE H
   refine qF tok [0,5,6,7,16] ([(0,.fsl (eL rI p0)),(5,.fsl (eL rI p0)),(6,.int .i64 (ilen p0)),(7,.int .i64 s1),(16,.bool g3)]) (hp E0 [] (M1+10)) (by
    intro K k
    refine m0 ?_
    cases hbg3:ilt v2 1
    .cases oj (ifF hbg3 hg3)
     exact m1 hbg3 k
    cases oj (ifT hbg3 hg3)
    refine m1 hbg3 ?_
    exact k) ?_
   refine Ci H ?_ ?_<;>intro H
   .refine qA [2] ?_
    cases oj H
    refine Kp [2] ?_
    refine Wr (hO2 _ _ _ _ rfl ⟨rfl,?_⟩)
    exact⟨[.bool false],by simp,4,by simp[eN]⟩
   refine Js hK4 ?_
   obtain rfl:=oi H
   refine qI hK2 ?_
   exact R1 (M1+12)
  cases oj H
  refine zH (hO2 _ _ _ _ rfl ⟨rfl,?_⟩)
  refine kr ?_
  exact R1 (M1+1)
 intro x a J hx
 rcases e1 with⟨⟩|r0
 .obtain⟨rfl,b,U,hr,M2,fM2_0,rfl,rfl⟩:=hx
  (try dsimp only at H)
  show K1 _ _
  refine hK1 _ _ (zI hr ?_)
  refine Rc.mk ?_
  refine qA [2] ?_
  cases oj H;exact W4
 obtain⟨rfl,hx2⟩:=hx
 (try dsimp only at H)
 cases oj H;first|exact hx2|(simp only[List.set_set] at hx2 ⊢;exact hx2)

theorem c113 {p0:Int}{r:Bool}(H:wH p0=some r):APure Tryz.prog G 113 [.int .i64 p0] (.bool r):=by
 refine qK func113 ntmps113 results113 fun N0=>?_
 unfold wH at H
 refine qA [0] ?_
 obtain⟨g1,hg1,H⟩:=bE H
 refine qF tok [2] ([(2,.bool g1)]) (hp E0 [] (N0+8)) (by
  intro K k
  refine m0 ?_
  cases hbg1:ige p0 (-2147483648)
  .cases oj (ifF hbg1 hg1)
   exact m1 hbg1 k
  cases oj (ifT hbg1 hg1)
  refine m1 hbg1 ?_
  exact k) ?_
 cases oj H;exact W4

theorem c104 {p0:List Int}{r:Bool}(H:uM p0=some r):APure Tryz.prog G 104 [.fsl (eL rI p0)] (.bool r):=by
 refine qK func104 ntmps104 results104 fun N0=>?_
 unfold uM at H
 refine qA [0] ?_
 refine Wsq [] fun K1 hK1=>?_
 refine qA [5,6,7] ?_
 refine Wb ?_
 obtain⟨e1,hse1,H⟩:=bE H
 refine zS [5,6,7] (fun s a J=>∃M1:Nat,N0<=M1/\a=[(5,.fsl (eL rI p0)),(6,.int .i64 (ilen p0)),(7,.int .i64 s)]/\J=hp E0 [] M1) (fun e x a J=>match e with|.inl s=>x=.exit 0/\Rc G 15 N0 (fun a J=>∃M2:Nat,N0<=M2/\a=[]/\J=hp E0 [] M2) (AAct.keep a []) J|.inr s=>x=.ret/\∃vs,resA T J a [.tmp 2]=some vs/\∃d,thawA (fun _=>true) J d (tupA vs)=.bool s) hse1 ?_ ?_ ?_
 .refine kp [5,6,7] ?_
  exact R1 (N0+4)
 .clear H hse1
  rintro s1 fl a J H ⟨M1,fM1_0,rfl,rfl⟩ K2 O2 hK2 hO2
  unfold vW at H;dsimp only at H
  refine qA [5,6,7,8] ?_
  refine Wsq [5,6,7] fun K3 hK3=>?_
  refine Ci H ?_ ?_<;>intro H
  .refine Js hK3 ?_
   refine Wsq [5,6,7] fun K4 hK4=>?_
   refine Wb ?_
   obtain⟨v2,hv2,H⟩:=bE H
   refine qB [4,5,6,7] (ix23 hv2) ?_
   obtain⟨r3,hr3,H⟩:=bE H
   refine qD [5,6,7,13] (c113 hr3) ?_
   refine Ci H ?_ ?_<;>intro H
   .refine qA [2] ?_
    cases oj H
    refine Kp [2] ?_
    refine Wr (hO2 _ _ _ _ rfl ⟨rfl,?_⟩)
    exact⟨[.bool false],by simp,4,by simp[eN]⟩
   refine Js hK4 ?_
   obtain rfl:=oi H
   refine qI hK2 ?_
   exact R1 (M1+9)
  cases oj H
  refine zH (hO2 _ _ _ _ rfl ⟨rfl,?_⟩)
  refine kr ?_
  exact R1 (M1+1)
 intro x a J hx
 rcases e1 with⟨⟩|r0
 .obtain⟨rfl,b,U,hr,M2,fM2_0,rfl,rfl⟩:=hx
  (try dsimp only at H)
  show K1 _ _
  refine hK1 _ _ (zI hr ?_)
  refine Rc.mk ?_
  refine qA [2] ?_
  cases oj H;exact W4
 obtain⟨rfl,hx2⟩:=hx
 (try dsimp only at H)
 cases oj H;first|exact hx2|(simp only[List.set_set] at hx2 ⊢;exact hx2)

theorem c67 {p0:Int}{p1:Int}{p2:Int}{p3:List Int}{r:Bool}(H:pN p0 p1 p2 p3=some r):APure Tryz.prog G 67 [.int .i64 p0,.int .i64 p1,.int .i64 p2,.fsl (eL rI p3)] (.bool r):=by
 refine qK func67 ntmps67 results67 fun N0=>?_
 unfold pN at H
 refine qA [0,1,2,3] ?_
 obtain⟨g1,hg1,H⟩:=bE H
 obtain⟨g2,hg2,H⟩:=bE H
 obtain⟨g3,hg3,H⟩:=bE H
 obtain⟨g4,hg4,H⟩:=bE H
 obtain⟨g5,hg5,H⟩:=bE H
 obtain⟨g7,hg7,H⟩:=bE H
 refine qF tok [8] ([(8,.bool g7)]) (hp E0 [] (N0+30)) (by
  intro K k
  refine m0 ?_
  cases hbg1:ige p0 1
  .cases oj (ifF hbg1 hg1)
   cases oj (ifF rfl hg2)
   cases oj (ifF rfl hg3)
   cases oj (ifF rfl hg4)
   cases oj (ifF rfl hg5)
   cases oj (ifF rfl hg7)
   exact m1 hbg1 k
  cases oj (ifT hbg1 hg1)
  refine m1 hbg1 ?_
  cases hbg2:(ile p0 3)
  .cases oj (ifF hbg2 hg2)
   cases oj (ifF rfl hg3)
   cases oj (ifF rfl hg4)
   cases oj (ifF rfl hg5)
   cases oj (ifF rfl hg7)
   exact m2 hbg1 hbg2 k
  cases oj (ifT hbg2 hg2)
  refine m2 hbg1 hbg2 ?_
  cases hbg3:(ige p1 0)
  .cases oj (ifF hbg3 hg3)
   cases oj (ifF rfl hg4)
   cases oj (ifF rfl hg5)
   cases oj (ifF rfl hg7)
   exact m1 (j hbg1 (j hbg2 hbg3)) k
  cases oj (ifT hbg3 hg3)
  refine m1 (j hbg1 (j hbg2 hbg3)) ?_
  cases hbg4:(ilt p1 p0)
  .cases oj (ifF hbg4 hg4)
   cases oj (ifF rfl hg5)
   cases oj (ifF rfl hg7)
   exact m1 (j hbg1 (j hbg2 (j hbg3 hbg4))) k
  cases oj (ifT hbg4 hg4)
  refine m1 (j hbg1 (j hbg2 (j hbg3 hbg4))) ?_
  cases hbg5:(ige p2 0)
  .cases oj (ifF hbg5 hg5)
   cases oj (ifF rfl hg7)
   exact m1 (j hbg1 (j hbg2 (j hbg3 (j hbg4 hbg5)))) k
  cases oj (ifT hbg5 hg5)
  refine m1 (j hbg1 (j hbg2 (j hbg3 (j hbg4 hbg5)))) ?_
  cases hbg7:(ile p2 p0)
  .cases oj (ifF hbg7 hg7)
   exact m1 (j hbg1 (j hbg2 (j hbg3 (j hbg4 (j hbg5 hbg7))))) k
  replace hg7:=ifT hbg7 hg7
  obtain⟨r6,hr6,hg7⟩:=bE hg7
  cases oj hg7
  refine m1 (j hbg1 (j hbg2 (j hbg3 (j hbg4 (j hbg5 hbg7))))) ?_
  refine(c104 hr6).app (m1 (j hbg1 (j hbg2 (j hbg3 (j hbg4 (j hbg5 hbg7))))) ?_)
  exact k) ?_
 cases oj H;exact W4

theorem c105 {p0:gBox}{r:Bool}(H:oI p0=some r):APure Tryz.prog G 105 [.agg [.int .i64 p0.Room,.fsl (eL rI p0.Items)]] (.bool r):=by
 refine qK func105 ntmps105 results105 fun N0=>?_
 unfold oI at H
 refine S0 tok [0] [1] ?_
 obtain⟨g1,hg1,H⟩:=bE H
 obtain⟨g2,hg2,H⟩:=bE H
 obtain⟨g4,hg4,H⟩:=bE H
 refine qF tok [2] ([(2,.bool g4)]) (hp E0 [] (N0+24)) (by
  intro K k
  refine m0 ?_
  cases hbg1:ige p0.Room 1
  .cases oj (ifF hbg1 hg1)
   cases oj (ifF rfl hg2)
   cases oj (ifF rfl hg4)
   exact m1 hbg1 k
  cases oj (ifT hbg1 hg1)
  refine m1 hbg1 ?_
  cases hbg2:(ile p0.Room 4)
  .cases oj (ifF hbg2 hg2)
   cases oj (ifF rfl hg4)
   exact m2 hbg1 hbg2 k
  cases oj (ifT hbg2 hg2)
  refine m2 hbg1 hbg2 ?_
  cases hbg4:(ile (ilen p0.Items) p0.Room)
  .cases oj (ifF hbg4 hg4)
   exact m1 (j hbg1 (j hbg2 hbg4)) k
  replace hg4:=ifT hbg4 hg4
  obtain⟨r3,hr3,hg4⟩:=bE hg4
  cases oj hg4
  refine m1 (j hbg1 (j hbg2 hbg4)) ?_
  refine(c104 hr3).app (m1 (j hbg1 (j hbg2 hbg4)) ?_)
  exact k) ?_
 cases oj H;exact W4

theorem c68 {p0:List gBox}{r:Bool}(H:tM p0=some r):APure Tryz.prog G 68 [.fsl (eL rBox p0)] (.bool r):=by
 refine qK func68 ntmps68 results68 fun N0=>?_
 unfold tM at H
 refine qA [0] ?_
 refine Wsq [0] fun K1 hK1=>?_
 refine qA [0,5,6,7] ?_
 refine Wb ?_
 obtain⟨e1,hse1,H⟩:=bE H
 refine zS [0,5,6,7] (fun s a J=>∃M1:Nat,N0<=M1/\a=[(0,.fsl (eL rBox p0)),(5,.fsl (eL rBox p0)),(6,.int .i64 (ilen p0)),(7,.int .i64 s)]/\J=hp E0 [] M1) (fun e x a J=>match e with|.inl s=>x=.exit 0/\Rc G 18 N0 (fun a J=>∃M2:Nat,N0<=M2/\a=[(0,.fsl (eL rBox p0))]/\J=hp E0 [] M2) (AAct.keep a [0]) J|.inr s=>x=.ret/\∃vs,resA T J a [.tmp 2]=some vs/\∃d,thawA (fun _=>true) J d (tupA vs)=.bool s) hse1 ?_ ?_ ?_
 .refine kp [0,5,6,7] ?_
  exact R1 (N0+4)
 .clear H hse1
  rintro s1 fl a J H ⟨M1,fM1_0,rfl,rfl⟩ K2 O2 hK2 hO2
  unfold xC at H;dsimp only at H
  refine qA [0,5,6,7,8] ?_
  refine Wsq [0,5,6,7] fun K3 hK3=>?_
  refine Ci H ?_ ?_<;>intro H
  .refine Js hK3 ?_
   refine Wsq [0,5,6,7] fun K4 hK4=>?_
   refine Wb ?_
   obtain⟨v2,hv2,H⟩:=bE H
   refine qB [0,4,5,6,7] (ix28 hv2) ?_
   obtain⟨r3,hr3,H⟩:=bE H
   refine qD [0,5,6,7,13] (c105 hr3) ?_
   refine Ci H ?_ ?_<;>intro H
   .refine qA [2] ?_
    cases oj H
    refine Kp [2] ?_
    refine Wr (hO2 _ _ _ _ rfl ⟨rfl,?_⟩)
    exact⟨[.bool false],by simp,4,by simp[eN]⟩
   refine Js hK4 ?_
   obtain rfl:=oi H
   refine qI hK2 ?_
   exact Rc.fin (AHeap.Sub.trans (AHeap.Sub.refl _) (zT rfl (by simp;try omega))) ⟨M1+10,(by omega),rfl,rfl⟩
  cases oj H
  refine zH (hO2 _ _ _ _ rfl ⟨rfl,?_⟩)
  refine kr ?_
  exact R1 (M1+1)
 intro x a J hx
 rcases e1 with⟨⟩|r0
 .obtain⟨rfl,b,U,hr,M2,fM2_0,rfl,rfl⟩:=hx
  (try dsimp only at H)
  show K1 _ _
  refine hK1 _ _ (zI hr ?_)
  refine Rc.mk ?_
  refine qA [2] ?_
  cases oj H;exact W4
 obtain⟨rfl,hx2⟩:=hx
 (try dsimp only at H)
 cases oj H;first|exact hx2|(simp only[List.set_set] at hx2 ⊢;exact hx2)

theorem c112 {p0:Int}{r:Bool}(H:i_isReg p0=some r):APure Tryz.prog G 112 [.int .i64 p0] (.bool r):=by
 refine qK func112 ntmps112 results112 fun N0=>?_
 unfold i_isReg at H
 refine qA [0] ?_
 obtain⟨g1,hg1,H⟩:=bE H
 refine qF tok [2] ([(2,.bool g1)]) (hp E0 [] (N0+8)) (by
  intro K k
  refine m0 ?_
  cases hbg1:ige p0 0
  .cases oj (ifF hbg1 hg1)
   exact m1 hbg1 k
  cases oj (ifT hbg1 hg1)
  refine m1 hbg1 ?_
  exact k) ?_
 cases oj H;exact W4

theorem c114 {p0:Int}{r:Bool}(H:cO p0=some r):APure Tryz.prog G 114 [.int .i64 p0] (.bool r):=by
 refine qK func114 ntmps114 results114 fun N0=>?_
 unfold cO at H
 refine qA [0] ?_
 obtain⟨g1,hg1,H⟩:=bE H
 refine qF tok [2] ([(2,.bool g1)]) (hp E0 [] (N0+8)) (by
  intro K k
  refine m0 ?_
  cases hbg1:ige p0 1
  .cases oj (ifF hbg1 hg1)
   exact m1 hbg1 k
  cases oj (ifT hbg1 hg1)
  refine m1 hbg1 ?_
  exact k) ?_
 cases oj H;exact W4

theorem c78 {p0:gQuad}{p1:Int}{r:Bool}(H:qZ p0 p1=some r):APure Tryz.prog G 78 [.agg [.int .i64 p0.Op,.int .i64 p0.Dst,.int .i64 p0.A,.int .i64 p0.B,.int .i64 p0.N],.int .i64 p1] (.bool r):=by
 refine qK func78 ntmps78 results78 fun N0=>?_
 unfold qZ at H
 refine S0 tok [0] [1,2] ?_
 obtain⟨r1,hr1,H⟩:=bE H
 obtain⟨r2,hr2,H⟩:=bE H
 obtain⟨r3,hr3,H⟩:=bE H
 refine Sd tok tokM [] [] [0,1,2,3,4,5,6,7,8,9,10,11,12,13,14] [1,2,5,6,7,8] (by
  intro K k
  simp only[pickL,zN,zO]
  repeat first|simp -dsimp -implicitDefEqProofs|refine Pc.mk (c112 hr1) ?_|refine Pc.mk (c112 hr2) ?_|refine Pc.mk (c112 hr3) ?_
  exact k) ?_
 refine Wsq [] fun K1 hK1=>?_
 refine qA [1,2,5,6,7,8,21] ?_
 refine Wb ?_
 refine qA [1,2,5,6,7,8,21,22] ?_
 refine Ci H ?_ ?_<;>intro H
 .obtain⟨g4,hg4,H⟩:=bE H
  obtain⟨g6,hg6,H⟩:=bE H
  refine qF tok [4] ([(4,.bool g6)]) (hp E0 [] (N0+35)) (by
   intro K k
   refine m0 ?_
   cases hbg4:eqD p0 (⟨1,p0.Dst,0,0,p0.N⟩:gQuad)
   .cases oj (ifF hbg4 hg4)
    cases oj (ifF rfl hg6)
    exact m1 hbg4 k
   cases oj (ifT hbg4 hg4)
   refine m1 hbg4 ?_
   cases hbg6:r1
   .cases oj (ifF hbg6 hg6)
    exact m2 hbg4 hbg6 k
   replace hg6:=ifT hbg6 hg6
   obtain⟨r5,hr5,hg6⟩:=bE hg6
   cases oj hg6
   refine m2 hbg4 hbg6 ?_
   refine(c113 hr5).app (m2 hbg4 hbg6 ?_)
   exact k) ?_
  cases oj H;exact W4
 refine qA [1,2,5,6,7,8,21,37] ?_
 refine Ci H ?_ ?_<;>intro H
 .obtain⟨g7,hg7,H⟩:=bE H
  obtain⟨g8,hg8,H⟩:=bE H
  refine qF tok [4] ([(4,.bool g8)]) (hp E0 [] (N0+37)) (by
   intro K k
   refine m0 ?_
   cases hbg7:eqD p0 (⟨2,p0.Dst,p0.A,0,0⟩:gQuad)
   .cases oj (ifF hbg7 hg7)
    cases oj (ifF rfl hg8)
    exact m1 hbg7 k
   cases oj (ifT hbg7 hg7)
   refine m1 hbg7 ?_
   cases hbg8:r1
   .cases oj (ifF hbg8 hg8)
    exact m2 hbg7 hbg8 k
   cases oj (ifT hbg8 hg8)
   refine m2 hbg7 hbg8 ?_
   exact k) ?_
  cases oj H;exact W4
 refine qA [1,2,5,6,7,8,21,52] ?_
 refine Ci H ?_ ?_<;>intro H
 .obtain⟨g9,hg9,H⟩:=bE H
  obtain⟨g10,hg10,H⟩:=bE H
  obtain⟨g12,hg12,H⟩:=bE H
  refine qF tok [4] ([(4,.bool g12)]) (hp E0 [] (N0+37)) (by
   intro K k
   refine m0 ?_
   cases hbg9:r1
   .cases oj (ifF hbg9 hg9)
    cases oj (ifF rfl hg10)
    cases oj (ifF rfl hg12)
    exact m1 hbg9 k
   cases oj (ifT hbg9 hg9)
   refine m1 hbg9 ?_
   cases hbg10:r2
   .cases oj (ifF hbg10 hg10)
    cases oj (ifF rfl hg12)
    exact m2 hbg9 hbg10 k
   cases oj (ifT hbg10 hg10)
   refine m2 hbg9 hbg10 ?_
   cases hbg12:r3
   .cases oj (ifF hbg12 hg12)
    exact m1 (j hbg9 (j hbg10 hbg12)) k
   replace hg12:=ifT hbg12 hg12
   obtain⟨r11,hr11,hg12⟩:=bE hg12
   cases oj hg12
   refine m1 (j hbg9 (j hbg10 hbg12)) ?_
   refine(c114 hr11).app (m1 (j hbg9 (j hbg10 hbg12)) ?_)
   exact k) ?_
  cases oj H;exact W4
 refine qA [1,2,5,6,8,21,65] ?_
 refine Ci H ?_ ?_<;>intro H
 .obtain⟨g13,hg13,H⟩:=bE H
  obtain⟨g14,hg14,H⟩:=bE H
  refine qF tok [4] ([(4,.bool g14)]) (hp E0 [] (N0+41)) (by
   intro K k
   refine m0 ?_
   cases hbg13:eqD p0 (⟨4,0,0,0,p0.N⟩:gQuad)
   .cases oj (ifF hbg13 hg13)
    cases oj (ifF rfl hg14)
    exact m1 hbg13 k
   cases oj (ifT hbg13 hg13)
   refine m1 hbg13 ?_
   cases hbg14:(ige p0.N 0)
   .cases oj (ifF hbg14 hg14)
    exact m2 hbg13 hbg14 k
   cases oj (ifT hbg14 hg14)
   refine m2 hbg13 hbg14 ?_
   exact k) ?_
  cases oj H;exact W4
 refine qA [1,2,5,6,8,21,80] ?_
 refine Ci H ?_ ?_<;>intro H
 .obtain⟨g15,hg15,H⟩:=bE H
  obtain⟨g16,hg16,H⟩:=bE H
  obtain⟨g17,hg17,H⟩:=bE H
  refine qF tok [4] ([(4,.bool g17)]) (hp E0 [] (N0+48)) (by
   intro K k
   refine m0 ?_
   cases hbg15:eqD p0 (⟨5,0,p0.A,0,p0.N⟩:gQuad)
   .cases oj (ifF hbg15 hg15)
    cases oj (ifF rfl hg16)
    cases oj (ifF rfl hg17)
    exact m1 hbg15 k
   cases oj (ifT hbg15 hg15)
   refine m1 hbg15 ?_
   cases hbg16:r2
   .cases oj (ifF hbg16 hg16)
    cases oj (ifF rfl hg17)
    exact m2 hbg15 hbg16 k
   cases oj (ifT hbg16 hg16)
   refine m2 hbg15 hbg16 ?_
   cases hbg17:(ige p0.N 0)
   .cases oj (ifF hbg17 hg17)
    exact m1 (j hbg15 (j hbg16 hbg17)) k
   cases oj (ifT hbg17 hg17)
   refine m1 (j hbg15 (j hbg16 hbg17)) ?_
   exact k) ?_
  cases oj H;exact W4
 refine qA [2,5,6,8,21,100] ?_
 refine Ci H ?_ ?_<;>intro H
 .obtain⟨g18,hg18,H⟩:=bE H
  obtain⟨g19,hg19,H⟩:=bE H
  obtain⟨g20,hg20,H⟩:=bE H
  refine qF tok [4] ([(4,.bool g20)]) (hp E0 [] (N0+49)) (by
   intro K k
   refine m0 ?_
   cases hbg18:eqD p0 (⟨6,0,p0.A,0,p0.N⟩:gQuad)
   .cases oj (ifF hbg18 hg18)
    cases oj (ifF rfl hg19)
    cases oj (ifF rfl hg20)
    exact m1 hbg18 k
   cases oj (ifT hbg18 hg18)
   refine m1 hbg18 ?_
   cases hbg19:r2
   .cases oj (ifF hbg19 hg19)
    cases oj (ifF rfl hg20)
    exact m2 hbg18 hbg19 k
   cases oj (ifT hbg19 hg19)
   refine m2 hbg18 hbg19 ?_
   cases hbg20:(ige p0.N 0)
   .cases oj (ifF hbg20 hg20)
    exact m1 (j hbg18 (j hbg19 hbg20)) k
   cases oj (ifT hbg20 hg20)
   refine m1 (j hbg18 (j hbg19 hbg20)) ?_
   exact k) ?_
  cases oj H;exact W4
 refine qA [2,5,6,8,21,119] ?_
 refine Ci H ?_ ?_<;>intro H
 .obtain⟨g21,hg21,H⟩:=bE H
  obtain⟨g22,hg22,H⟩:=bE H
  obtain⟨g23,hg23,H⟩:=bE H
  refine qF tok [4] ([(4,.bool g23)]) (hp E0 [] (N0+51)) (by
   intro K k
   refine m0 ?_
   cases hbg21:eqD p0 (⟨7,p0.Dst,0,0,p0.N⟩:gQuad)
   .cases oj (ifF hbg21 hg21)
    cases oj (ifF rfl hg22)
    cases oj (ifF rfl hg23)
    exact m1 hbg21 k
   cases oj (ifT hbg21 hg21)
   refine m1 hbg21 ?_
   cases hbg22:r1
   .cases oj (ifF hbg22 hg22)
    cases oj (ifF rfl hg23)
    exact m2 hbg21 hbg22 k
   cases oj (ifT hbg22 hg22)
   refine m2 hbg21 hbg22 ?_
   cases hbg23:(ige p0.N 0)
   .cases oj (ifF hbg23 hg23)
    exact m1 (j hbg21 (j hbg22 hbg23)) k
   cases oj (ifT hbg23 hg23)
   refine m1 (j hbg21 (j hbg22 hbg23)) ?_
   exact k) ?_
  cases oj H;exact W4
 refine qA [2,6,21,138] ?_
 refine Ci H ?_ ?_<;>intro H
 .obtain⟨g24,hg24,H⟩:=bE H
  refine qF tok [4] ([(4,.bool g24)]) (hp E0 [] (N0+44)) (by
   intro K k
   refine m0 ?_
   cases hbg24:eqD p0 (⟨9,0,p0.A,0,0⟩:gQuad)
   .cases oj (ifF hbg24 hg24)
    exact m1 hbg24 k
   cases oj (ifT hbg24 hg24)
   refine m1 hbg24 ?_
   exact k) ?_
  cases oj H;exact W4
 obtain⟨j1,hj1,H⟩:=bE H
 refine kS (kM fun K2 hK2=>?_)
 have hJ1:∀a J,Rc G 156 N0 (fun a J=>∃M1:Nat,N0<=M1/\a=[(2,.fptr [.int .i64 p0.Op,.int .i64 p0.Dst,.int .i64 p0.A,.int .i64 p0.B,.int .i64 p0.N] 0),(148,.bool j1)]/\J=hp E0 [] M1) (a.keep [2,148]) J->K2 a J:=by
  rintro a J ⟨b,U,hr,M1,fM1_0,rfl,rfl⟩
  refine hK2 _ _ (kG [2,148] (Wre hr ?_))
  refine Ci H ?_ ?_<;>intro H
  .refine qA [4] ?_
   cases oj H;exact W4
  refine Js hK1 ?_
  refine qA [4] ?_
  cases oj H;exact W4
 replace H:=hj1
 refine qA [2,21,148] ?_
 refine Ci H ?_ ?_<;>intro H
 .refine Wsk ?_
  show K2 _ _
  refine kE [2,148] fun a' ha=>?_
  cases oj H
  refine hJ1 _ _ ?_;rw[ha]
  exact R1 (N0+37)
 refine Rt0 tok [] [2,148] fun a ha=>?_
 cases oj H
 refine hJ1 _ _ ?_;rw[ha]
 exact R1 (N0+39)

theorem c46 {p0:List gQuad}{r:Bool}(H:jD p0=some r):APure Tryz.prog G 46 [.fsl (eL rQuad p0)] (.bool r):=by
 refine qK func46 ntmps46 results46 fun N0=>?_
 unfold jD at H
 refine qA [0] ?_
 refine Wsq [0] fun K1 hK1=>?_
 obtain⟨g1,hg1,H⟩:=bE H
 refine qF tok [0,13] ([(0,.fsl (eL rQuad p0)),(13,.bool g1)]) (hp E0 [] (N0+9)) (by
  intro K k
  refine m0 ?_
  cases hbg1:ilt (ilen p0) 1
  .cases oj (ifF hbg1 hg1)
   exact m1 hbg1 k
  cases oj (ifT hbg1 hg1)
  refine m1 hbg1 ?_
  exact k) ?_
 refine Ci H ?_ ?_<;>intro H
 .refine qA [2] ?_
  cases oj H;exact W4
 refine Js hK1 ?_
 refine Wsq [0] fun K2 hK2=>?_
 refine qA [0,14,15,16] ?_
 refine Wb ?_
 obtain⟨e1,hse1,H⟩:=bE H
 refine zS [0,14,15,16] (fun s a J=>∃M1:Nat,N0<=M1/\a=[(0,.fsl (eL rQuad p0)),(14,.fsl (eL rQuad p0)),(15,.int .i64 (ilen p0)),(16,.int .i64 s)]/\J=hp E0 [] M1) (fun e x a J=>match e with|.inl s=>x=.exit 0/\Rc G 39 N0 (fun a J=>∃M2:Nat,N0<=M2/\a=[(0,.fsl (eL rQuad p0))]/\J=hp E0 [] M2) (AAct.keep a [0]) J|.inr s=>x=.ret/\∃vs,resA T J a [.tmp 2]=some vs/\∃d,thawA (fun _=>true) J d (tupA vs)=.bool s) hse1 ?_ ?_ ?_
 .refine kp [0,14,15,16] ?_
  exact R1 (N0+12)
 .clear H hse1
  rintro s2 fl a J H ⟨M1,fM1_0,rfl,rfl⟩ K3 O3 hK3 hO3
  unfold uS at H;dsimp only at H
  refine qA [0,14,15,16,17] ?_
  refine Wsq [0,14,15,16] fun K4 hK4=>?_
  refine Ci H ?_ ?_<;>intro H
  .refine Js hK4 ?_
   refine Wsq [0,14,15,16] fun K5 hK5=>?_
   refine Wb ?_
   obtain⟨v3,hv3,H⟩:=bE H
   refine qB [0,4,14,15,16] (ix34 hv3) ?_
   obtain⟨r4,hr4,H⟩:=bE H
   refine qD [0,14,15,16,24] (c78 hr4) ?_
   refine Ci H ?_ ?_<;>intro H
   .refine qA [2] ?_
    cases oj H
    refine Kp [2] ?_
    refine Wr (hO3 _ _ _ _ rfl ⟨rfl,?_⟩)
    exact⟨[.bool false],by simp,4,by simp[eN]⟩
   refine Js hK5 ?_
   obtain rfl:=oi H
   refine qI hK3 ?_
   exact Rc.fin (AHeap.Sub.trans (AHeap.Sub.refl _) (zT rfl (by simp;try omega))) ⟨M1+12,(by omega),rfl,rfl⟩
  cases oj H
  refine zH (hO3 _ _ _ _ rfl ⟨rfl,?_⟩)
  refine kr ?_
  exact R1 (M1+1)
 intro x a J hx
 rcases e1 with⟨⟩|r0
 .obtain⟨rfl,b,U,hr,M2,fM2_0,rfl,rfl⟩:=hx
  (try dsimp only at H)
  show K2 _ _
  refine hK2 _ _ (zI hr ?_)
  refine Rc.mk ?_
  obtain⟨v5,hv5,H⟩:=bE H
  refine qB [5] (ix34 hv5) ?_
  obtain⟨g6,hg6,H⟩:=bE H
  refine qF tok [2] ([(2,.bool g6)]) (hp E0 [] (M2+15)) (by
   intro K k
   refine m0 ?_
   cases hbg6:ieq v5.Op 10
   .cases oj (ifF hbg6 hg6)
    exact m1 hbg6 k
   cases oj (ifT hbg6 hg6)
   refine m1 hbg6 ?_
   exact k) ?_
  cases oj H;exact W4
 obtain⟨rfl,hx2⟩:=hx
 (try dsimp only at H)
 cases oj H;first|exact hx2|(simp only[List.set_set] at hx2 ⊢;exact hx2)

theorem c106 {p0:gThread}{p1:List gQuad}{r:Bool}(H:tK p0 p1=some r):APure Tryz.prog G 106 [.agg [.fsl (eL rI p0.Regs),.int .i64 p0.Pc],.fsl (eL rQuad p1)] (.bool r):=by
 refine qK func106 ntmps106 results106 fun N0=>?_
 unfold tK at H
 refine S0 tok [0] [1,2] ?_
 obtain⟨g2,hg2,H⟩:=bE H
 obtain⟨g3,hg3,H⟩:=bE H
 obtain⟨g4,hg4,H⟩:=bE H
 refine qF tok [4] ([(4,.bool g4)]) (hp E0 [] (N0+24)) (by
  intro K k
  refine m0 ?_
  cases hbg2:ieq (ilen p0.Regs) 12
  .cases oj (ifF hbg2 hg2)
   cases oj (ifF rfl hg3)
   cases oj (ifF rfl hg4)
   exact m1 hbg2 k
  replace hg2:=ifT hbg2 hg2
  obtain⟨r1,hr1,hg2⟩:=bE hg2
  obtain rfl:=oi hg2
  refine m1 hbg2 ?_
  refine(c104 hr1).app (m1 hbg2 ?_)
  cases hbg3:r1
  .cases oj (ifF hbg3 hg3)
   cases oj (ifF rfl hg4)
   exact m2 hbg2 hbg3 k
  cases oj (ifT hbg3 hg3)
  refine m2 hbg2 hbg3 ?_
  cases hbg4:(ige p0.Pc 0)
  .cases oj (ifF hbg4 hg4)
   exact m1 (j hbg2 (j hbg3 hbg4)) k
  cases oj (ifT hbg4 hg4)
  refine m1 (j hbg2 (j hbg3 hbg4)) ?_
  exact k) ?_
 cases oj H;exact W4

theorem c69 {p0:gThread}{p1:List gQuad}{r:Bool}(H:xI p0 p1=some r):APure Tryz.prog G 69 [.agg [.fsl (eL rI p0.Regs),.int .i64 p0.Pc],.fsl (eL rQuad p1)] (.bool r):=by
 refine qK func69 ntmps69 results69 fun N0=>?_
 unfold xI at H
 refine S0 tok [0] [1,2] ?_
 obtain⟨r1,hr1,H⟩:=bE H
 obtain⟨g3,hg3,H⟩:=bE H
 refine qF tok [4] ([(4,.bool g3)]) (hp E0 [] (N0+10)) (by
  intro K k
  refine m0 ?_
  refine(c46 hr1).app (m0 ?_)
  cases hbg3:r1
  .cases oj (ifF hbg3 hg3)
   exact m1 hbg3 k
  replace hg3:=ifT hbg3 hg3
  obtain⟨r2,hr2,hg3⟩:=bE hg3
  cases oj hg3
  refine m1 hbg3 ?_
  refine(c106 hr2).app (m1 hbg3 ?_)
  exact k) ?_
 cases oj H;exact W4

theorem c70 {p0:gQuad}{p1:Int}{r:Bool}(H:oF p0 p1=some r):APure Tryz.prog G 70 [.agg [.int .i64 p0.Op,.int .i64 p0.Dst,.int .i64 p0.A,.int .i64 p0.B,.int .i64 p0.N],.int .i64 p1] (.bool r):=by
 refine qK func70 ntmps70 results70 fun N0=>?_
 unfold oF at H
 refine S0 tok [0] [1,2] ?_
 obtain⟨g1,hg1,H⟩:=bE H
 obtain⟨g2,hg2,H⟩:=bE H
 refine qF tok [4] ([(4,.bool g2)]) (hp E0 [] (N0+17)) (by
  intro K k
  refine m0 ?_
  cases hbg1:ine p0.Op 6
  .cases oj (ifF hbg1 hg1)
   cases oj (ifF rfl hg2)
   exact m1 hbg1 k
  cases oj (ifT hbg1 hg1)
  refine m1 hbg1 ?_
  cases hbg2:(ine p0.Op 7)
  .cases oj (ifF hbg2 hg2)
   exact m2 hbg1 hbg2 k
  cases oj (ifT hbg2 hg2)
  refine m2 hbg1 hbg2 ?_
  exact k) ?_
 cases oj H;exact W4

theorem c39 {p0:gCrew}{r:Bool}(H:wI p0=some r):APure Tryz.prog G 39 [.agg [.fsl (eL zA p0.Codes),.fsl (eL zF p0.Threads),.fsl (eL rBox p0.Boxes),.int .i64 p0.Turn,.int .i64 p0.Idle,.fsl (eL rI p0.Out)]] (.bool r):=by
 refine qK func39 ntmps39 results39 fun N0=>?_
 unfold wI at H
 refine S0 tok [0] [1] ?_
 refine Wsq [1] fun K1 hK1=>?_
 obtain⟨r1,hr1,H⟩:=bE H
 obtain⟨g2,hg2,H⟩:=bE H
 obtain⟨g4,hg4,H⟩:=bE H
 refine qF tok [1,32] ([(1,.fptr [.fsl (eL zA p0.Codes),.fsl (eL zF p0.Threads),.fsl (eL rBox p0.Boxes),.int .i64 p0.Turn,.int .i64 p0.Idle,.fsl (eL rI p0.Out)] 0),(32,.bool g4)]) (hp E0 [] (N0+28)) (by
  intro K k
  refine m0 ?_
  refine(c67 hr1).app (m0 ?_)
  cases hbg2:bnot r1
  .cases oj (ifF hbg2 hg2)
   refine m1 hbg2 ?_
   cases hbg4:(ine (ilen p0.Threads) (ilen p0.Codes))
   .replace hg4:=ifF hbg4 hg4
    obtain⟨r3,hr3,hg4⟩:=bE hg4
    cases oj hg4
    refine m2 hbg2 hbg4 ?_
    refine(c68 hr3).app (m2 hbg2 hbg4 ?_)
    exact k
   cases oj (ifT hbg4 hg4)
   exact m2 hbg2 hbg4 k
  cases oj (ifT hbg2 hg2)
  cases oj (ifT rfl hg4)
  refine m1 hbg2 ?_
  exact k) ?_
 refine Ci H ?_ ?_<;>intro H
 .refine qA [2] ?_
  cases oj H;exact W4
 refine Js hK1 ?_
 refine Wsq [] fun K2 hK2=>?_
 refine qA [1,34,35,36] ?_
 refine Wb ?_
 obtain⟨e2,hse2,H⟩:=bE H
 refine zS [1,34,35,36] (fun s a J=>∃M1:Nat,N0<=M1/\a=[(1,.fptr [.fsl (eL zA p0.Codes),.fsl (eL zF p0.Threads),.fsl (eL rBox p0.Boxes),.int .i64 p0.Turn,.int .i64 p0.Idle,.fsl (eL rI p0.Out)] 0),(34,.fsl (eL zA p0.Codes)),(35,.int .i64 (ilen p0.Codes)),(36,.int .i64 s)]/\J=hp E0 [] M1) (fun e x a J=>match e with|.inl s=>x=.exit 0/\Rc G 63 N0 (fun a J=>∃M2:Nat,N0<=M2/\a=[]/\J=hp E0 [] M2) (AAct.keep a []) J|.inr s=>x=.ret/\∃vs,resA T J a [.tmp 2]=some vs/\∃d,thawA (fun _=>true) J d (tupA vs)=.bool s) hse2 ?_ ?_ ?_
 .refine kp [1,34,35,36] ?_
  exact R1 (N0+32)
 .clear H hse2
  rintro s5 fl a J H ⟨M1,fM1_0,rfl,rfl⟩ K3 O3 hK3 hO3
  unfold xX at H;dsimp only at H
  refine qA [1,34,35,36,37] ?_
  refine Wsq [1,34,35,36] fun K4 hK4=>?_
  refine Ci H ?_ ?_<;>intro H
  .refine Js hK4 ?_
   refine Wsq [1,34,35,36] fun K5 hK5=>?_
   refine Wb ?_
   obtain⟨v6,hv6,H⟩:=bE H
   refine qB [1,3,4,34,35,36] (ix24 hv6) ?_
   refine Wsq [1,4,34,35,36] fun K6 hK6=>?_
   obtain⟨v7,hv7,H⟩:=bE H
   obtain⟨r8,hr8,H⟩:=bE H
   refine qE [1,4,34,35,36,48] (ix27 hv7) (c69 hr8) ?_
   refine Ci H ?_ ?_<;>intro H
   .refine qA [2] ?_
    cases oj H
    refine Kp [2] ?_
    refine Wr (hO3 _ _ _ _ rfl ⟨rfl,?_⟩)
    exact⟨[.bool false],by simp,4,by simp[eN]⟩
   refine Js hK6 ?_
   refine qA [1,34,35,36,49,50,51] ?_
   refine Wb ?_
   obtain⟨e1,hse1,H⟩:=bE H
   refine zS [1,34,35,36,49,50,51] (fun s a J=>∃M3:Nat,N0<=M3/\a=[(1,.fptr [.fsl (eL zA p0.Codes),.fsl (eL zF p0.Threads),.fsl (eL rBox p0.Boxes),.int .i64 p0.Turn,.int .i64 p0.Idle,.fsl (eL rI p0.Out)] 0),(34,.fsl (eL zA p0.Codes)),(35,.int .i64 (ilen p0.Codes)),(36,.int .i64 s5),(49,.fsl (eL rQuad v6)),(50,.int .i64 (ilen v6)),(51,.int .i64 s)]/\J=hp E0 [] M3) (fun e x a J=>match e with|.inl s=>x=.exit 2/\Rc G 63 N0 (fun a J=>∃M4:Nat,N0<=M4/\a=[(1,.fptr [.fsl (eL zA p0.Codes),.fsl (eL zF p0.Threads),.fsl (eL rBox p0.Boxes),.int .i64 p0.Turn,.int .i64 p0.Idle,.fsl (eL rI p0.Out)] 0),(34,.fsl (eL zA p0.Codes)),(35,.int .i64 (ilen p0.Codes)),(36,.int .i64 s5)]/\J=hp E0 [] M4) (AAct.keep a [1,34,35,36]) J|.inr s=>x=.ret/\∃vs,resA T J a [.tmp 2]=some vs/\∃d,thawA (fun _=>true) J d (tupA vs)=.bool s) hse1 ?_ ?_ ?_
   .refine kp [1,34,35,36,49,50,51] ?_
    exact R1 (M1+17)
   .clear H hse1
    rintro s9 fl a J H ⟨M3,fM3_0,rfl,rfl⟩ K7 O7 hK7 hO7
    unfold jL at H;dsimp only at H
    refine qA [1,34,35,36,49,50,51,52] ?_
    refine Wsq [1,34,35,36,49,50,51] fun K8 hK8=>?_
    refine Ci H ?_ ?_<;>intro H
    .refine Js hK8 ?_
     refine Wsq [1,34,35,36,49,50,51] fun K9 hK9=>?_
     refine Wb ?_
     obtain⟨v10,hv10,H⟩:=bE H
     refine qB [1,6,34,35,36,49,50,51] (ix34 hv10) ?_
     obtain⟨r11,hr11,H⟩:=bE H
     refine qD [1,34,35,36,49,50,51,60] (c70 hr11) ?_
     refine Ci H ?_ ?_<;>intro H
     .refine qA [2] ?_
      cases oj H
      refine Kp [2] ?_
      refine Wr (hO7 _ _ _ _ rfl ⟨rfl,?_⟩)
      exact⟨[.bool false],by simp,4,by simp[eN]⟩
     refine Js hK9 ?_
     obtain rfl:=oi H
     refine qI hK7 ?_
     exact Rc.fin (AHeap.Sub.trans (AHeap.Sub.refl _) (zT rfl (by simp;try omega))) ⟨M3+13,(by omega),rfl,rfl⟩
    cases oj H
    refine zH (hO7 _ _ _ _ rfl ⟨rfl,?_⟩)
    refine kr ?_
    exact R1 (M3+1)
   intro x a J hx
   rcases e1 with⟨⟩|r0
   .obtain⟨rfl,b,U,hr,M4,fM4_0,rfl,rfl⟩:=hx
    (try dsimp only at H)
    show K5 _ _
    refine hK5 _ _ (zI hr ?_)
    refine Rc.mk ?_
    obtain rfl:=oi H
    refine qI hK3 ?_
    exact R1 (M4+2)
   obtain⟨rfl,hx2⟩:=hx
   (try dsimp only at H)
   cases oj H
   exact hO3 _ _ _ _ rfl ⟨rfl,hx2⟩
  cases oj H
  refine zH (hO3 _ _ _ _ rfl ⟨rfl,?_⟩)
  refine kr ?_
  exact R1 (M1+1)
 intro x a J hx
 rcases e2 with⟨⟩|r0
 .obtain⟨rfl,b,U,hr,M2,fM2_0,rfl,rfl⟩:=hx
  (try dsimp only at H)
  show K2 _ _
  refine hK2 _ _ (zI hr ?_)
  refine Rc.mk ?_
  refine qA [2] ?_
  cases oj H;exact W4
 obtain⟨rfl,hx2⟩:=hx
 (try dsimp only at H)
 cases oj H;first|exact hx2|(simp only[List.set_set] at hx2 ⊢;exact hx2)

theorem c14 {p0:List Int}{p1:(List (List gQuad))}{r:gCrew×Bool}(H:xY p0 p1=some r):APure Tryz.prog G 14 [.fsl (eL rI p0),.fsl (eL zA p1)] (.tup [.agg [.fsl (eL zA r.1.Codes),.fsl (eL zF r.1.Threads),.fsl (eL rBox r.1.Boxes),.int .i64 r.1.Turn,.int .i64 r.1.Idle,.fsl (eL rI r.1.Out)],.bool r.2]):=by
 refine qK func14 ntmps14 results14 fun N0=>?_
 unfold xY at H
 refine qA [0,1,4] ?_
 refine gW Wre N0 0 0 ?_
 refine gW Wre N0 0 1 ?_
 refine gW Wre N0 0 2 ?_
 refine gW Wre N0 0 5 ?_
 obtain⟨r1,hr1,H⟩:=bE H
 obtain⟨r2,hr2,H⟩:=bE H
 refine Sx tok [4] [0,1,4,6] (by intro K k;(repeat first|simp -dsimp -implicitDefEqProofs|refine(c36 hr1).app ?_|refine(c37 hr2).app ?_);exact k) ?_
 refine Wsq [0,4,6] fun K1 hK1=>?_
 refine qA [0,4,6,13,14] ?_
 refine Wb ?_
 obtain⟨e1,hse1,H⟩:=bE H
 refine zS [0,4,6,13,14] (fun s a J=>∃M1 o1 o2:Nat,N0<=M1/\N0<=o1/\o1<M1/\N0<=o2/\o2<M1/\¬o1=o2/\a=[(0,.fsl (eL rI p0)),(4,.ptr o1 0 0),(6,.ptr o2 0 0),(13,.int .i64 (ilen p1)),(14,.int .i64 s.1)]/\J=hp E0 [(o1,some ⟨30,6,[[.fsl (eL zA s.2.1.Codes),.fsl (eL zF s.2.1.Threads),.fsl (eL rBox s.2.1.Boxes),.int .i64 s.2.1.Turn,.int .i64 s.2.1.Idle,.fsl (eL rI s.2.1.Out)]]⟩),(o2,some ⟨30,6,[[.fsl (eL zA s.2.2.Codes),.osl 42 2 (eL zF s.2.2.Threads),.fsl (eL rBox s.2.2.Boxes),.int .i64 s.2.2.Turn,.int .i64 s.2.2.Idle,.fsl (eL rI s.2.2.Out)]]⟩)] M1) (fun s x a J=>x=.exit 0/\Rc G 34 N0 (fun a J=>∃M2 o3 o4:Nat,N0<=M2/\N0<=o3/\o3<M2/\N0<=o4/\o4<M2/\¬o3=o4/\a=[(0,.fsl (eL rI p0)),(4,.ptr o3 0 0),(6,.ptr o4 0 0)]/\J=hp E0 [(o3,some ⟨30,6,[[.fsl (eL zA s.1.Codes),.fsl (eL zF s.1.Threads),.fsl (eL rBox s.1.Boxes),.int .i64 s.1.Turn,.int .i64 s.1.Idle,.fsl (eL rI s.1.Out)]]⟩),(o4,some ⟨30,6,[[.fsl (eL zA s.2.Codes),.osl 42 2 (eL zF s.2.Threads),.fsl (eL rBox s.2.Boxes),.int .i64 s.2.Turn,.int .i64 s.2.Idle,.fsl (eL rI s.2.Out)]]⟩)] M2) (AAct.keep a [0,4,6]) J) hse1 ?_ ?_ ?_
 .refine kp [0,4,6,13,14] ?_
  refine gP0 zI (N0+7) 0 1 42 2 (eL zF ([]:List gThread)) ?_
  refine gW zI (N0+7) 0 5 ?_
  exact R3 (N0+12) N0 (N0+7)
 .clear H hse1
  rintro⟨s3,s4,s5⟩ fl a J H ⟨M1,o1,o2,fM1_0,fM1_1,fM1_2,fM1_3,fM1_4,fM1_5,rfl,rfl⟩ K2 O2 hK2 hO2
  unfold tO at H;dsimp only at H
  have e0:=nQ o1 o2
  refine qB [0,4,6,13,14,15] e0 ?_
  refine Wsq [0,4,6,13,14] fun K3 hK3=>?_
  refine Ci H ?_ ?_<;>intro H
  .refine Js hK3 ?_
   refine Wsq [0,4,6,13,14] fun K4 hK4=>?_
   refine Wb ?_
   refine gU Wre o2 0 1 ?_
   obtain⟨l8,hl8,H⟩:=bE H
   obtain⟨l9,hl9,H⟩:=bE H
   have q0:∀J i,bsA T 27 true i 1 [(0,.agg [.fsl (eL rI l8),.int .i64 0])] J=some (.fsl (eL zF ([(⟨l8,0⟩:gThread)]:List gThread)),J):=fun _ _=>rfl
   refine dF tok tokM [2,4] [1,5,7] [0,2,3,4,1,5,6,7] [0,4,6,13,14] (fun a J=>a=[(0,.fsl (eL rI p0)),(4,.ptr o1 0 0),(6,.ptr o2 0 0),(13,.int .i64 (ilen p1)),(14,.int .i64 s3)]/\J=hp E0 [(o1,some ⟨30,6,[[.fsl (eL zA s4.Codes),.fsl (eL zF s4.Threads),.fsl (eL rBox s4.Boxes),.int .i64 s4.Turn,.int .i64 s4.Idle,.fsl (eL rI s4.Out)]]⟩),(o2,some ⟨30,6,[[.fsl (eL zA s5.Codes),.sl (M1+7) 0 l9.length,.fsl (eL rBox s5.Boxes),.int .i64 s5.Turn,.int .i64 s5.Idle,.fsl (eL rI s5.Out)]]⟩),(M1+7,some ⟨42,2,eL zF l9⟩)] (M1+10)) (by decide) (fun K hK=>?_) ?_
   .simp only[pickL,zN,zO]
    have e0:=nQ o1 o2
    have e1:=nQ o1 (M1+1)
    have e2:=nQ o1 (M1+7)
    have e3:=nQ o2 (M1+1)
    have e4:=nQ o2 (M1+7)
    refine m1 (j e0 (j e1 (j e2 (j e3 (j e4 (j (makf23 hl8) (j q0 (app27 hl9)))))))) ?_
    exact hK _ _ ⟨rfl,rfl⟩
   rintro a J ⟨ha,rfl⟩
   refine hK4 _ _ ?_;rw[ha]
   refine Rc.mk ?_
   have e0:=nQ o1 o2
   have e1:=nQ o1 (M1+7)
   have e2:=nQ o2 (M1+7)
   obtain rfl:=oi H
   refine qJ (j e0 (j e1 e2)) hK2 ?_
   refine gP zI o2 0 1 ?_
   exact R3 (M1+12) o1 o2
  cases oj H
  refine zH (hO2 _ _ _ _ rfl ⟨rfl,?_⟩)
  refine kr ?_
  exact R3 (M1+1) o1 o2
 intro x a J hx
 obtain⟨y6,y7⟩:=e1
 obtain⟨rfl,b,U,hr,M2,o3,o4,fM2_0,fM2_1,fM2_2,fM2_3,fM2_4,fM2_5,rfl,rfl⟩:=hx
 (try dsimp only at H)
 show K1 _ _
 refine hK1 _ _ (zI hr ?_)
 refine Rc.mk ?_
 refine Wsq [4,6] fun K5 hK5=>?_
 refine gU Wre o4 0 1 ?_
 obtain⟨r11,hr11,H⟩:=bE H
 obtain⟨g13,hg13,H⟩:=bE H
 refine jJ tok [] [4,6,31] (fun a J=>a=[(4,.ptr o3 0 0),(6,.ptr o4 0 0),(31,.bool g13)]/\J=hp E0 [(o3,some ⟨30,6,[[.fsl (eL zA y6.Codes),.fsl (eL zF y6.Threads),.fsl (eL rBox y6.Boxes),.int .i64 y6.Turn,.int .i64 y6.Idle,.fsl (eL rI y6.Out)]]⟩),(o4,some ⟨30,6,[[.fsl (eL zA y7.Codes),.sl M2 0 y7.Threads.length,.fsl (eL rBox y7.Boxes),.int .i64 y7.Turn,.int .i64 y7.Idle,.fsl (eL rI y7.Out)]]⟩),(M2,some ⟨42,2,eL zF y7.Threads⟩)] (M2+9)) (fun K hK=>?_) ?_
 .skip
  have e0:=nQ o3 o4
  have e1:=nQ o3 M2
  have e2:=nQ o4 M2
  refine m1 (j e0 (j e1 e2)) ?_
  refine(c38 hr11).app (m1 (j e0 (j e1 e2)) ?_)
  cases hbg13:bnot r11
  .replace hg13:=ifF hbg13 hg13
   obtain⟨r12,hr12,hg13⟩:=bE hg13
   cases oj hg13
   refine m1 (j e0 (j e1 (j e2 hbg13))) ?_
   refine(borrow 8 (c39 hr12) (by simp[e0,e1,e2,hbg13]) rfl).mono ?_;rintro _ _ ⟨rfl,rfl⟩;try simp -dsimp -implicitDefEqProofs [e0,e1,e2,hbg13]
   exact hK _ _ ⟨rfl,rfl⟩
  cases oj (ifT hbg13 hg13)
  refine m1 (j e0 (j e1 (j e2 hbg13))) ?_
  exact hK _ _ ⟨rfl,rfl⟩
 rintro a J ⟨rfl,rfl⟩
 refine Ci H ?_ ?_<;>intro H
 .have e0:=nQ o3 o4
  have e1:=nQ o3 M2
  have e2:=nQ o4 M2
  refine qB [4,5] (j e0 (j e1 e2)) ?_
  cases oj H
  refine Kp [4,5] ?_
  have z0:=nQ o3 o4
  have z1:=nQ o3 M2
  have z2:=nQ o4 M2
  refine Wr ?_
  exact⟨[.agg [.fsl [],.fsl [],.fsl [],.int .i64 0,.int .i64 0,.fsl []],.bool false],by simp[z0,z1,z2],4,by simp[eN,z0,z1,z2]⟩
 refine Js hK5 ?_
 have e0:=nQ o3 o4
 have e1:=nQ o3 M2
 have e2:=nQ o4 M2
 refine qB [4,5] (j e0 (j e1 e2)) ?_
 obtain rfl:=oi H
 refine Kp [4,5] ?_
 have z3:=nQ o3 o4
 have z4:=nQ o3 M2
 have z5:=nQ o4 M2
 refine Wr ?_
 exact⟨[.agg [.fsl (eL zA y7.Codes),.sl M2 0 y7.Threads.length,.fsl (eL rBox y7.Boxes),.int .i64 y7.Turn,.int .i64 y7.Idle,.fsl (eL rI y7.Out)],.bool true],by simp[z3,z4,z5],4,by simp[eN,z3,z4,z5]⟩

theorem c40 {p0:List Int}{r:Bool}(H:nP p0=some r):APure Tryz.prog G 40 [.fsl (eL rI p0)] (.bool r):=by
 refine qK func40 ntmps40 results40 fun N0=>?_
 unfold nP at H
 refine qA [0] ?_
 refine Wsq [0] fun K1 hK1=>?_
 refine qA [0,3] ?_
 refine Wb ?_
 obtain⟨e1,hse1,H⟩:=bE H
 refine zS [0,3] (fun s a J=>∃M1:Nat,N0<=M1/\a=[(0,.fsl (eL rI p0)),(3,.int .i64 s)]/\J=hp E0 [] M1) (fun e x a J=>match e with|.inl s=>x=.exit 0/\Rc G 19 N0 (fun a J=>∃M2:Nat,N0<=M2/\a=[(0,.fsl (eL rI p0))]/\J=hp E0 [] M2) (AAct.keep a [0]) J|.inr s=>x=.ret/\∃vs,resA T J a [.tmp 2]=some vs/\∃d,thawA (fun _=>true) J d (tupA vs)=.bool s) hse1 ?_ ?_ ?_
 .refine kp [0,3] ?_
  exact R1 (N0+2)
 .clear H hse1
  rintro s1 fl a J H ⟨M1,fM1_0,rfl,rfl⟩ K2 O2 hK2 hO2
  unfold vC at H;dsimp only at H
  refine Wsq [0,3] fun K3 hK3=>?_
  refine qA [0,3,7] ?_
  refine Ci H ?_ ?_<;>intro H
  .refine Js hK3 ?_
   refine Wsq [0,3] fun K4 hK4=>?_
   refine Wb ?_
   obtain⟨v2,hv2,H⟩:=bE H
   obtain⟨r3,hr3,H⟩:=bE H
   refine qE [0,3,15] (ix23 hv2) (c71 hr3) ?_
   refine Ci H ?_ ?_<;>intro H
   .refine qA [2] ?_
    cases oj H
    refine Kp [2] ?_
    refine Wr (hO2 _ _ _ _ rfl ⟨rfl,?_⟩)
    exact⟨[.bool false],by simp,4,by simp[eN]⟩
   refine Js hK4 ?_
   obtain rfl:=oi H
   refine qI hK2 ?_
   exact R1 (M1+13)
  cases oj H
  refine zH (hO2 _ _ _ _ rfl ⟨rfl,?_⟩)
  refine kr ?_
  exact R1 (M1+4)
 intro x a J hx
 rcases e1 with⟨⟩|r0
 .obtain⟨rfl,b,U,hr,M2,fM2_0,rfl,rfl⟩:=hx
  (try dsimp only at H)
  show K1 _ _
  refine hK1 _ _ (zI hr ?_)
  refine Rc.mk ?_
  refine qA [2] ?_
  cases oj H;exact W4
 obtain⟨rfl,hx2⟩:=hx
 (try dsimp only at H)
 cases oj H;first|exact hx2|(simp only[List.set_set] at hx2 ⊢;exact hx2)

theorem c41 {p0:(List (List gQuad))}{r:(List (List gQuad))}(H:nM p0=some r):APure Tryz.prog G 41 [.fsl (eL zA p0)] (.fsl (eL zA r)):=by
 refine qK func41 ntmps41 results41 fun N0=>?_
 unfold nM at H
 refine qA [0] ?_
 have q0:∀J i,bsA T 24 true i 0 [] J=some (.esl,J):=fun _ _=>rfl
 refine Sy tok [0] [0,3] q0 ?_
 refine Wsq [3] fun K1 hK1=>?_
 refine qA [0,3,4] ?_
 refine Wb ?_
 obtain⟨e1,hse1,H⟩:=bE H
 refine zS [0,3,4] (fun s a J=>∃M1 o1:Nat,N0<=M1/\N0<=o1/\o1<M1/\a=[(0,.fsl (eL zA p0)),(3,.sl o1 0 s.2.length),(4,.int .i64 s.1)]/\J=hp E0 [(o1,some ⟨34,1,eL zA s.2⟩)] M1) (fun s x a J=>x=.exit 0/\Rc G 22 N0 (fun a J=>∃M2 o2:Nat,N0<=M2/\N0<=o2/\o2<M2/\a=[(3,.sl o2 0 s.length)]/\J=hp E0 [(o2,some ⟨34,1,eL zA s⟩)] M2) (AAct.keep a [3]) J) hse1 ?_ ?_ ?_
 .refine kp [0,3,4] ?_
  refine gNilS zI 3 34 1 [(N0+4,some ⟨34,1,eL zA ([]:List (List gQuad))⟩)] [(0,.fsl (eL zA p0)),(3,.sl (N0+4) 0 ([]:List (List gQuad)).length),(4,.int .i64 0)] (by simp(disch:=omega)) (by simp(disch:=omega) [eN]) [0,3,4] rfl ?_
  exact R2 (N0+5) (N0+4)
 .clear H hse1
  rintro⟨s1,s2⟩ fl a J H ⟨M1,o1,fM1_0,fM1_1,fM1_2,rfl,rfl⟩ K2 O2 hK2 hO2
  unfold wY at H;dsimp only at H
  refine Wsq [0,3,4] fun K3 hK3=>?_
  refine qA [0,3,4,9] ?_
  refine Ci H ?_ ?_<;>intro H
  .refine Js hK3 ?_
   refine Wsq [0,3,4] fun K4 hK4=>?_
   refine Wb ?_
   obtain⟨v4,hv4,H⟩:=bE H
   obtain⟨l5,hl5,H⟩:=bE H
   obtain⟨l6,hl6,H⟩:=bE H
   have q1:∀J i,bsA T 34 true i 0 [] J=some (.esl,J):=fun _ _=>rfl
   have q2:∀J i,bsA T 24 true i 1 [(0,.fsl (eL rQuad l5))] J=some (.fsl (eL zA ([l5]:List (List gQuad))),J):=fun _ _=>rfl
   have e0:=nQ o1 (M1+12)
   refine Rb tok [1,6,7] (j e0 (j q1 (j (ix24 hv4) (j (appf34 hl5) (j q2 (app24 hl6)))))) hK4 ?_
   obtain rfl:=oi H
   refine qI hK2 ?_
   exact R2 (M1+17) (M1+12)
  cases oj H
  refine zH (hO2 _ _ _ _ rfl ⟨rfl,?_⟩)
  refine kr ?_
  exact R2 (M1+4) o1
 intro x a J hx
 obtain⟨y3,rfl⟩:∃x,x=e1:=⟨_,rfl⟩
 obtain⟨rfl,b,U,hr,M2,o2,fM2_0,fM2_1,fM2_2,rfl,rfl⟩:=hx
 (try dsimp only at H)
 show K1 _ _
 refine hK1 _ _ (zI hr ?_)
 refine Rc.mk ?_
 refine qA [2] ?_
 cases oj H;exact W4

theorem c42 {p0:List Int}{r:List gBox}(H:nN p0=some r):APure Tryz.prog G 42 [.fsl (eL rI p0)] (.fsl (eL rBox r)):=by
 refine qK func42 ntmps42 results42 fun N0=>?_
 unfold nN at H
 refine qA [0] ?_
 have q0:∀J i,bsA T 28 true i 0 [] J=some (.esl,J):=fun _ _=>rfl
 refine Sy tok [0] [0,3] q0 ?_
 refine Wsq [3] fun K1 hK1=>?_
 refine qA [0,3,4] ?_
 refine Wb ?_
 obtain⟨e1,hse1,H⟩:=bE H
 refine zS [0,3,4] (fun s a J=>∃M1 o1:Nat,N0<=M1/\N0<=o1/\o1<M1/\a=[(0,.fsl (eL rI p0)),(3,.sl o1 0 s.2.length),(4,.int .i64 s.1)]/\J=hp E0 [(o1,some ⟨99,2,eL rBox s.2⟩)] M1) (fun s x a J=>x=.exit 0/\Rc G 22 N0 (fun a J=>∃M2 o2:Nat,N0<=M2/\N0<=o2/\o2<M2/\a=[(3,.sl o2 0 s.length)]/\J=hp E0 [(o2,some ⟨99,2,eL rBox s⟩)] M2) (AAct.keep a [3]) J) hse1 ?_ ?_ ?_
 .refine kp [0,3,4] ?_
  refine gNilS zI 3 99 2 [(N0+4,some ⟨99,2,eL rBox ([]:List gBox)⟩)] [(0,.fsl (eL rI p0)),(3,.sl (N0+4) 0 ([]:List gBox).length),(4,.int .i64 0)] (by simp(disch:=omega)) (by simp(disch:=omega) [eN]) [0,3,4] rfl ?_
  exact R2 (N0+5) (N0+4)
 .clear H hse1
  rintro⟨s1,s2⟩ fl a J H ⟨M1,o1,fM1_0,fM1_1,fM1_2,rfl,rfl⟩ K2 O2 hK2 hO2
  unfold vA at H;dsimp only at H
  refine Wsq [0,3,4] fun K3 hK3=>?_
  refine qA [0,3,4,9] ?_
  refine Ci H ?_ ?_<;>intro H
  .refine Js hK3 ?_
   refine Wsq [0,3,4] fun K4 hK4=>?_
   refine Wb ?_
   obtain⟨v4,hv4,H⟩:=bE H
   obtain⟨l5,hl5,H⟩:=bE H
   have q1:∀J i,bsA T 23 true i 0 [] J=some (.esl,J):=fun _ _=>rfl
   have q2:∀J i,bsA T 28 true i 1 [(0,.agg [.int .i64 v4,.fsl []])] J=some (.fsl (eL rBox ([(⟨v4,([]:List Int)⟩:gBox)]:List gBox)),J):=fun _ _=>rfl
   have e0:=nQ o1 (M1+12)
   refine Rb tok [5,7] (j e0 (j (ix23 hv4) (j q1 (j q2 (app28 hl5))))) hK4 ?_
   obtain rfl:=oi H
   refine qI hK2 ?_
   exact R2 (M1+17) (M1+12)
  cases oj H
  refine zH (hO2 _ _ _ _ rfl ⟨rfl,?_⟩)
  refine kr ?_
  exact R2 (M1+4) o1
 intro x a J hx
 obtain⟨y3,rfl⟩:∃x,x=e1:=⟨_,rfl⟩
 obtain⟨rfl,b,U,hr,M2,o2,fM2_0,fM2_1,fM2_2,rfl,rfl⟩:=hx
 (try dsimp only at H)
 show K1 _ _
 refine hK1 _ _ (zI hr ?_)
 refine Rc.mk ?_
 refine qA [2] ?_
 cases oj H;exact W4

theorem c75 {p0:List Int}{p1:Int}{r:Bool}(H:sU p0 p1=some r):APure Tryz.prog G 75 [.fsl (eL rI p0),.int .i64 p1] (.bool r):=by
 refine qK func75 ntmps75 results75 fun N0=>?_
 unfold sU at H
 refine qA [0,1] ?_
 refine Wsq [0] fun K1 hK1=>?_
 refine qA [0,9] ?_
 refine Ci H ?_ ?_<;>intro H
 .refine qA [4] ?_
  cases oj H;exact W4
 refine Js hK1 ?_
 refine Wsq [] fun K2 hK2=>?_
 refine qA [0,5] ?_
 refine Wb ?_
 obtain⟨e1,hse1,H⟩:=bE H
 refine zS [0,5] (fun s a J=>∃M1:Nat,N0<=M1/\a=[(0,.fsl (eL rI p0)),(5,.int .i64 s)]/\J=hp E0 [] M1) (fun e x a J=>match e with|.inl s=>x=.exit 0/\Rc G 22 N0 (fun a J=>∃M2:Nat,N0<=M2/\a=[]/\J=hp E0 [] M2) (AAct.keep a []) J|.inr s=>x=.ret/\∃vs,resA T J a [.tmp 4]=some vs/\∃d,thawA (fun _=>true) J d (tupA vs)=.bool s) hse1 ?_ ?_ ?_
 .refine kp [0,5] ?_
  exact R1 (N0+6)
 .clear H hse1
  rintro s1 fl a J H ⟨M1,fM1_0,rfl,rfl⟩ K3 O3 hK3 hO3
  unfold uX at H;dsimp only at H
  refine Wsq [0,5] fun K4 hK4=>?_
  refine qA [0,5,13] ?_
  refine Ci H ?_ ?_<;>intro H
  .refine Js hK4 ?_
   refine Wsq [0,5] fun K5 hK5=>?_
   refine Wb ?_
   obtain⟨v2,hv2,H⟩:=bE H
   obtain⟨r3,hr3,H⟩:=bE H
   refine qE [0,5,21] (ix23 hv2) (c111 hr3) ?_
   refine Ci H ?_ ?_<;>intro H
   .refine qA [4] ?_
    cases oj H
    refine Kp [4] ?_
    refine Wr (hO3 _ _ _ _ rfl ⟨rfl,?_⟩)
    exact⟨[.bool false],by simp,4,by simp[eN]⟩
   refine Js hK5 ?_
   obtain rfl:=oi H
   refine qI hK3 ?_
   exact R1 (M1+13)
  cases oj H
  refine zH (hO3 _ _ _ _ rfl ⟨rfl,?_⟩)
  refine kr ?_
  exact R1 (M1+4)
 intro x a J hx
 rcases e1 with⟨⟩|r0
 .obtain⟨rfl,b,U,hr,M2,fM2_0,rfl,rfl⟩:=hx
  (try dsimp only at H)
  show K2 _ _
  refine hK2 _ _ (zI hr ?_)
  refine Rc.mk ?_
  refine qA [4] ?_
  cases oj H;exact W4
 obtain⟨rfl,hx2⟩:=hx
 (try dsimp only at H)
 cases oj H;first|exact hx2|(simp only[List.set_set] at hx2 ⊢;exact hx2)

theorem c107 {p0:gBox}{r:Bool}(H:uH p0=some r):APure Tryz.prog G 107 [.agg [.int .i64 p0.Room,.fsl (eL rI p0.Items)]] (.bool r):=by
 refine qK func107 ntmps107 results107 fun N0=>?_
 unfold uH at H
 refine S0 tok [0] [1] ?_
 obtain⟨r1,hr1,H⟩:=bE H
 obtain⟨g2,hg2,H⟩:=bE H
 obtain⟨g4,hg4,H⟩:=bE H
 refine qF tok [2] ([(2,.bool g4)]) (hp E0 [] (N0+22)) (by
  intro K k
  refine m0 ?_
  refine(c71 hr1).app (m0 ?_)
  cases hbg2:r1
  .cases oj (ifF hbg2 hg2)
   cases oj (ifF rfl hg4)
   exact m1 hbg2 k
  cases oj (ifT hbg2 hg2)
  refine m1 hbg2 ?_
  cases hbg4:(ile (ilen p0.Items) p0.Room)
  .cases oj (ifF hbg4 hg4)
   exact m2 hbg2 hbg4 k
  replace hg4:=ifT hbg4 hg4
  obtain⟨r3,hr3,hg4⟩:=bE hg4
  cases oj hg4
  refine m2 hbg2 hbg4 ?_
  refine(c75 hr3).app (m2 hbg2 hbg4 ?_)
  exact k) ?_
 cases oj H;exact W4

theorem c72 {p0:List gBox}{r:Bool}(H:nO p0=some r):APure Tryz.prog G 72 [.fsl (eL rBox p0)] (.bool r):=by
 refine qK func72 ntmps72 results72 fun N0=>?_
 unfold nO at H
 refine qA [0] ?_
 refine Wsq [0] fun K1 hK1=>?_
 refine qA [0,3] ?_
 refine Wb ?_
 obtain⟨e1,hse1,H⟩:=bE H
 refine zS [0,3] (fun s a J=>∃M1:Nat,N0<=M1/\a=[(0,.fsl (eL rBox p0)),(3,.int .i64 s)]/\J=hp E0 [] M1) (fun e x a J=>match e with|.inl s=>x=.exit 0/\Rc G 19 N0 (fun a J=>∃M2:Nat,N0<=M2/\a=[(0,.fsl (eL rBox p0))]/\J=hp E0 [] M2) (AAct.keep a [0]) J|.inr s=>x=.ret/\∃vs,resA T J a [.tmp 2]=some vs/\∃d,thawA (fun _=>true) J d (tupA vs)=.bool s) hse1 ?_ ?_ ?_
 .refine kp [0,3] ?_
  exact R1 (N0+2)
 .clear H hse1
  rintro s1 fl a J H ⟨M1,fM1_0,rfl,rfl⟩ K2 O2 hK2 hO2
  unfold vB at H;dsimp only at H
  refine Wsq [0,3] fun K3 hK3=>?_
  refine qA [0,3,7] ?_
  refine Ci H ?_ ?_<;>intro H
  .refine Js hK3 ?_
   refine Wsq [0,3] fun K4 hK4=>?_
   refine Wb ?_
   obtain⟨v2,hv2,H⟩:=bE H
   obtain⟨r3,hr3,H⟩:=bE H
   refine qE [0,3,15] (ix28 hv2) (c107 hr3) ?_
   refine Ci H ?_ ?_<;>intro H
   .refine qA [2] ?_
    cases oj H
    refine Kp [2] ?_
    refine Wr (hO2 _ _ _ _ rfl ⟨rfl,?_⟩)
    exact⟨[.bool false],by simp,4,by simp[eN]⟩
   refine Js hK4 ?_
   obtain rfl:=oi H
   refine qI hK2 ?_
   exact R1 (M1+13)
  cases oj H
  refine zH (hO2 _ _ _ _ rfl ⟨rfl,?_⟩)
  refine kr ?_
  exact R1 (M1+4)
 intro x a J hx
 rcases e1 with⟨⟩|r0
 .obtain⟨rfl,b,U,hr,M2,fM2_0,rfl,rfl⟩:=hx
  (try dsimp only at H)
  show K1 _ _
  refine hK1 _ _ (zI hr ?_)
  refine Rc.mk ?_
  refine qA [2] ?_
  cases oj H;exact W4
 obtain⟨rfl,hx2⟩:=hx
 (try dsimp only at H)
 cases oj H;first|exact hx2|(simp only[List.set_set] at hx2 ⊢;exact hx2)

theorem c109 {p0:gThread}{p1:Int}{r:Bool}(H:gE p0 p1=some r):APure Tryz.prog G 109 [.agg [.fsl (eL rI p0.Regs),.int .i64 p0.Pc],.int .i64 p1] (.bool r):=by
 refine qK func109 ntmps109 results109 fun N0=>?_
 unfold gE at H
 refine S0 tok [0] [1,2] ?_
 obtain⟨r1,hr1,H⟩:=bE H
 obtain⟨g3,hg3,H⟩:=bE H
 refine qF tok [4] ([(4,.bool g3)]) (hp E0 [] (N0+13)) (by
  intro K k
  refine m0 ?_
  refine(c75 hr1).app (m0 ?_)
  cases hbg3:r1
  .cases oj (ifF hbg3 hg3)
   exact m1 hbg3 k
  replace hg3:=ifT hbg3 hg3
  obtain⟨r2,hr2,hg3⟩:=bE hg3
  cases oj hg3
  refine m1 hbg3 ?_
  refine(c71 hr2).app (m1 hbg3 ?_)
  exact k) ?_
 cases oj H;exact W4

theorem c73 {p0:gThread}{p1:List gQuad}{r:Bool}(H:yZ p0 p1=some r):APure Tryz.prog G 73 [.agg [.fsl (eL rI p0.Regs),.int .i64 p0.Pc],.fsl (eL rQuad p1)] (.bool r):=by
 refine qK func73 ntmps73 results73 fun N0=>?_
 unfold yZ at H
 refine S0 tok [0] [1,2] ?_
 obtain⟨r1,hr1,H⟩:=bE H
 obtain⟨g3,hg3,H⟩:=bE H
 refine qF tok [4] ([(4,.bool g3)]) (hp E0 [] (N0+11)) (by
  intro K k
  refine m0 ?_
  refine(c108 hr1).app (m0 ?_)
  cases hbg3:r1
  .cases oj (ifF hbg3 hg3)
   exact m1 hbg3 k
  replace hg3:=ifT hbg3 hg3
  obtain⟨r2,hr2,hg3⟩:=bE hg3
  cases oj hg3
  refine m1 hbg3 ?_
  refine(c109 hr2).app (m1 hbg3 ?_)
  exact k) ?_
 cases oj H;exact W4

theorem c110 {p0:gQuad}{p1:Int}{r:Bool}(H:gD p0 p1=some r):APure Tryz.prog G 110 [.agg [.int .i64 p0.Op,.int .i64 p0.Dst,.int .i64 p0.A,.int .i64 p0.B,.int .i64 p0.N],.int .i64 p1] (.bool r):=by
 refine qK func110 ntmps110 results110 fun N0=>?_
 unfold gD at H
 refine S0 tok [0] [1,2] ?_
 obtain⟨g1,hg1,H⟩:=bE H
 obtain⟨g2,hg2,H⟩:=bE H
 refine qF tok [4] ([(4,.bool g2)]) (hp E0 [] (N0+17)) (by
  intro K k
  refine m0 ?_
  cases hbg1:ine p0.Op 6
  .cases oj (ifF hbg1 hg1)
   cases oj (ifF rfl hg2)
   exact m1 hbg1 k
  cases oj (ifT hbg1 hg1)
  refine m1 hbg1 ?_
  cases hbg2:(ine p0.Op 7)
  .cases oj (ifF hbg2 hg2)
   exact m2 hbg1 hbg2 k
  cases oj (ifT hbg2 hg2)
  refine m2 hbg1 hbg2 ?_
  exact k) ?_
 cases oj H;exact W4

theorem c74 {p0:List gQuad}{p1:Int}{r:Bool}(H:gC p0 p1=some r):APure Tryz.prog G 74 [.fsl (eL rQuad p0),.int .i64 p1] (.bool r):=by
 refine qK func74 ntmps74 results74 fun N0=>?_
 unfold gC at H
 refine qA [0,1] ?_
 refine Wsq [] fun K1 hK1=>?_
 refine qA [0,1,5] ?_
 refine Wb ?_
 obtain⟨e1,hse1,H⟩:=bE H
 refine zS [0,1,5] (fun s a J=>∃M1:Nat,N0<=M1/\a=[(0,.fsl (eL rQuad p0)),(1,.int .i64 p1),(5,.int .i64 s)]/\J=hp E0 [] M1) (fun e x a J=>match e with|.inl s=>x=.exit 0/\Rc G 19 N0 (fun a J=>∃M2:Nat,N0<=M2/\a=[]/\J=hp E0 [] M2) (AAct.keep a []) J|.inr s=>x=.ret/\∃vs,resA T J a [.tmp 4]=some vs/\∃d,thawA (fun _=>true) J d (tupA vs)=.bool s) hse1 ?_ ?_ ?_
 .refine kp [0,1,5] ?_
  exact R1 (N0+2)
 .clear H hse1
  rintro s1 fl a J H ⟨M1,fM1_0,rfl,rfl⟩ K2 O2 hK2 hO2
  unfold tC at H;dsimp only at H
  refine Wsq [0,1,5] fun K3 hK3=>?_
  refine qA [0,1,5,9] ?_
  refine Ci H ?_ ?_<;>intro H
  .refine Js hK3 ?_
   refine Wsq [0,1,5] fun K4 hK4=>?_
   refine Wb ?_
   obtain⟨v2,hv2,H⟩:=bE H
   obtain⟨r3,hr3,H⟩:=bE H
   refine qE [0,1,5,18] (ix34 hv2) (c110 hr3) ?_
   refine Ci H ?_ ?_<;>intro H
   .refine qA [4] ?_
    cases oj H
    refine Kp [4] ?_
    refine Wr (hO2 _ _ _ _ rfl ⟨rfl,?_⟩)
    exact⟨[.bool false],by simp,4,by simp[eN]⟩
   refine Js hK4 ?_
   obtain rfl:=oi H
   refine qI hK2 ?_
   exact R1 (M1+14)
  cases oj H
  refine zH (hO2 _ _ _ _ rfl ⟨rfl,?_⟩)
  refine kr ?_
  exact R1 (M1+4)
 intro x a J hx
 rcases e1 with⟨⟩|r0
 .obtain⟨rfl,b,U,hr,M2,fM2_0,rfl,rfl⟩:=hx
  (try dsimp only at H)
  show K1 _ _
  refine hK1 _ _ (zI hr ?_)
  refine Rc.mk ?_
  refine qA [4] ?_
  cases oj H;exact W4
 obtain⟨rfl,hx2⟩:=hx
 (try dsimp only at H)
 cases oj H;first|exact hx2|(simp only[List.set_set] at hx2 ⊢;exact hx2)

theorem c43 {p0:gCrew}{r:Bool}(H:qM p0=some r):APure Tryz.prog G 43 [.agg [.fsl (eL zA p0.Codes),.fsl (eL zF p0.Threads),.fsl (eL rBox p0.Boxes),.int .i64 p0.Turn,.int .i64 p0.Idle,.fsl (eL rI p0.Out)]] (.bool r):=by
 refine qK func43 ntmps43 results43 fun N0=>?_
 unfold qM at H
 refine S0 tok [0] [1] ?_
 refine qA [1,3] ?_
 refine Wsq [1,3] fun K1 hK1=>?_
 obtain⟨r1,hr1,H⟩:=bE H
 obtain⟨g2,hg2,H⟩:=bE H
 obtain⟨g4,hg4,H⟩:=bE H
 obtain⟨g6,hg6,H⟩:=bE H
 obtain⟨g8,hg8,H⟩:=bE H
 refine qF tok [1,3,38] ([(1,.fptr [.fsl (eL zA p0.Codes),.fsl (eL zF p0.Threads),.fsl (eL rBox p0.Boxes),.int .i64 p0.Turn,.int .i64 p0.Idle,.fsl (eL rI p0.Out)] 0),(3,.int .i64 (ilen p0.Threads)),(38,.bool g8)]) (hp E0 [] (N0+37)) (by
  intro K k
  refine m0 ?_
  refine(c71 hr1).app (m0 ?_)
  cases hbg2:bnot r1
  .cases oj (ifF hbg2 hg2)
   refine m1 hbg2 ?_
   cases hbg4:(ine (ilen p0.Codes) (ilen p0.Threads))
   .replace hg4:=ifF hbg4 hg4
    obtain⟨r3,hr3,hg4⟩:=bE hg4
    obtain rfl:=oi hg4
    refine m2 hbg2 hbg4 ?_
    refine(c72 hr3).app (m2 hbg2 hbg4 ?_)
    cases hbg6:(bnot r3)
    .replace hg6:=ifF hbg6 hg6
     obtain⟨r5,hr5,hg6⟩:=bE hg6
     obtain rfl:=oi hg6
     refine m1 (j hbg2 (j hbg4 hbg6)) ?_
     refine(c71 hr5).app (m1 (j hbg2 (j hbg4 hbg6)) ?_)
     cases hbg8:(bnot r5)
     .replace hg8:=ifF hbg8 hg8
      obtain⟨r7,hr7,hg8⟩:=bE hg8
      cases oj hg8
      refine m1 (j hbg2 (j hbg4 (j hbg6 hbg8))) ?_
      refine(c71 hr7).app (m1 (j hbg2 (j hbg4 (j hbg6 hbg8))) ?_)
      exact k
     cases oj (ifT hbg8 hg8)
     exact m1 (j hbg2 (j hbg4 (j hbg6 hbg8))) k
    cases oj (ifT hbg6 hg6)
    cases oj (ifT rfl hg8)
    exact m1 (j hbg2 (j hbg4 hbg6)) k
   cases oj (ifT hbg4 hg4)
   cases oj (ifT rfl hg6)
   cases oj (ifT rfl hg8)
   exact m2 hbg2 hbg4 k
  cases oj (ifT hbg2 hg2)
  cases oj (ifT rfl hg4)
  cases oj (ifT rfl hg6)
  cases oj (ifT rfl hg8)
  refine m1 hbg2 ?_
  exact k) ?_
 refine Ci H ?_ ?_<;>intro H
 .refine qA [2] ?_
  cases oj H;exact W4
 refine Js hK1 ?_
 refine Wsq [1] fun K2 hK2=>?_
 refine qA [1,3,4] ?_
 refine Wb ?_
 obtain⟨e1,hse1,H⟩:=bE H
 refine zS [1,3,4] (fun s a J=>∃M1:Nat,N0<=M1/\a=[(1,.fptr [.fsl (eL zA p0.Codes),.fsl (eL zF p0.Threads),.fsl (eL rBox p0.Boxes),.int .i64 p0.Turn,.int .i64 p0.Idle,.fsl (eL rI p0.Out)] 0),(3,.int .i64 (ilen p0.Threads)),(4,.int .i64 s)]/\J=hp E0 [] M1) (fun e x a J=>match e with|.inl s=>x=.exit 0/\Rc G 74 N0 (fun a J=>∃M2:Nat,N0<=M2/\a=[(1,.fptr [.fsl (eL zA p0.Codes),.fsl (eL zF p0.Threads),.fsl (eL rBox p0.Boxes),.int .i64 p0.Turn,.int .i64 p0.Idle,.fsl (eL rI p0.Out)] 0)]/\J=hp E0 [] M2) (AAct.keep a [1]) J|.inr s=>x=.ret/\∃vs,resA T J a [.tmp 2]=some vs/\∃d,thawA (fun _=>true) J d (tupA vs)=.bool s) hse1 ?_ ?_ ?_
 .refine kp [1,3,4] ?_
  exact R1 (N0+38)
 .clear H hse1
  rintro s9 fl a J H ⟨M1,fM1_0,rfl,rfl⟩ K3 O3 hK3 hO3
  unfold xO at H;dsimp only at H
  refine Wsq [1,3,4] fun K4 hK4=>?_
  refine qA [1,3,4,41] ?_
  refine Ci H ?_ ?_<;>intro H
  .refine Js hK4 ?_
   refine Wsq [1,3,4] fun K5 hK5=>?_
   refine Wb ?_
   obtain⟨v10,hv10,H⟩:=bE H
   obtain⟨v11,hv11,H⟩:=bE H
   obtain⟨r12,hr12,H⟩:=bE H
   obtain⟨g14,hg14,H⟩:=bE H
   refine fH tok tokM [] [] [0,1,2,3,4,5,6,7,8,9,10,11,12,13,14,15,16,17,18,19,20,21,22,23] [1,3,4,67] (fun a J=>a=[(1,.fptr [.fsl (eL zA p0.Codes),.fsl (eL zF p0.Threads),.fsl (eL rBox p0.Boxes),.int .i64 p0.Turn,.int .i64 p0.Idle,.fsl (eL rI p0.Out)] 0),(3,.int .i64 (ilen p0.Threads)),(4,.int .i64 s9),(67,.bool g14)]/\J=hp E0 [] (M1+27)) (by decide) (fun K hK=>?_) ?_
   .simp only[pickL,zN,zO]
    refine m2 (ix27 hv10) (ix24 hv11) ?_
    refine Pc.mk (c73 hr12) (m2 (ix27 hv10) (ix24 hv11) ?_)
    cases hbg14:bnot r12
    .replace hg14:=ifF hbg14 hg14
     obtain⟨r13,hr13,hg14⟩:=bE hg14
     cases oj hg14
     refine m1 (j (ix27 hv10) (j (ix24 hv11) hbg14)) ?_
     refine Pc.mk (c74 hr13) (m1 (j (ix27 hv10) (j (ix24 hv11) hbg14)) ?_)
     exact hK _ _ ⟨rfl,rfl⟩
    cases oj (ifT hbg14 hg14)
    refine m1 (j (ix27 hv10) (j (ix24 hv11) hbg14)) ?_
    exact hK _ _ ⟨rfl,rfl⟩
   rintro a J ⟨rfl,rfl⟩
   refine Ci H ?_ ?_<;>intro H
   .refine qA [2] ?_
    cases oj H
    refine Kp [2] ?_
    refine Wr (hO3 _ _ _ _ rfl ⟨rfl,?_⟩)
    exact⟨[.bool false],by simp,4,by simp[eN]⟩
   refine Js hK5 ?_
   obtain rfl:=oi H
   refine qI hK3 ?_
   exact R1 (M1+30)
  cases oj H
  refine zH (hO3 _ _ _ _ rfl ⟨rfl,?_⟩)
  refine kr ?_
  exact R1 (M1+3)
 intro x a J hx
 rcases e1 with⟨⟩|r0
 .obtain⟨rfl,b,U,hr,M2,fM2_0,rfl,rfl⟩:=hx
  (try dsimp only at H)
  show K2 _ _
  refine hK2 _ _ (zI hr ?_)
  refine Rc.mk ?_
  obtain⟨r15,hr15,H⟩:=bE H
  refine qD [2] (c75 hr15) ?_
  cases oj H;exact W4
 obtain⟨rfl,hx2⟩:=hx
 (try dsimp only at H)
 cases oj H;first|exact hx2|(simp only[List.set_set] at hx2 ⊢;exact hx2)

theorem c15 {p0:List Int}{p1:(List (List gQuad))}{r:gCrew×Bool}(H:vG p0 p1=some r):APure Tryz.prog G 15 [.fsl (eL rI p0),.fsl (eL zA p1)] (.tup [.agg [.fsl (eL zA r.1.Codes),.fsl (eL zF r.1.Threads),.fsl (eL rBox r.1.Boxes),.int .i64 r.1.Turn,.int .i64 r.1.Idle,.fsl (eL rI r.1.Out)],.bool r.2]):=by
 refine qK func15 ntmps15 results15 fun N0=>?_
 unfold vG at H
 refine qA [0,1,4] ?_
 refine Wsq [0,1,4] fun K1 hK1=>?_
 refine gW Wre N0 0 0 ?_
 refine gW Wre N0 0 1 ?_
 refine gW Wre N0 0 2 ?_
 refine gW Wre N0 0 5 ?_
 obtain⟨r1,hr1,H⟩:=bE H
 refine qD [0,1,4,10] (c40 hr1) ?_
 refine Ci H ?_ ?_<;>intro H
 .refine qA [4,5] ?_
  cases oj H
  refine Kp [4,5] ?_
  exact V0
 refine Js hK1 ?_
 obtain⟨r2,hr2,H⟩:=bE H
 obtain⟨l3,hl3,H⟩:=bE H
 obtain⟨r4,hr4,H⟩:=bE H
 have q0:∀J i,bsA T 27 false i 0 [] J=some (.sl i 0 (List.length l3),J.put i ⟨42,2,eL zF l3⟩):=by rw[<- Option.some.inj hl3];exact fun _ _=>rfl
 have q1:∀J i,bsA T 23 true i 0 [] J=some (.esl,J):=fun _ _=>rfl
 refine Sx tok [5] [1,4,6] (by intro K k;(repeat first|simp -dsimp -implicitDefEqProofs [q0,q1]|refine(c41 hr2).app ?_|refine(c42 hr4).app ?_);exact k) ?_
 refine Wsq [4,6] fun K2 hK2=>?_
 refine qA [1,4,6,7] ?_
 refine Wb ?_
 obtain⟨e1,hse1,H⟩:=bE H
 refine zS [1,4,6,7] (fun s a J=>∃M1 o1 o2:Nat,N0<=M1/\N0<=o1/\o1<M1/\N0<=o2/\o2<M1/\¬o1=o2/\a=[(1,.fsl (eL zA p1)),(4,.ptr o1 0 0),(6,.ptr o2 0 0),(7,.int .i64 s.1)]/\J=hp E0 [(o1,some ⟨30,6,[[.fsl (eL zA s.2.1.Codes),.fsl (eL zF s.2.1.Threads),.fsl (eL rBox s.2.1.Boxes),.int .i64 s.2.1.Turn,.int .i64 s.2.1.Idle,.fsl (eL rI s.2.1.Out)]]⟩),(o2,some ⟨30,6,[[.fsl (eL zA s.2.2.Codes),.osl 42 2 (eL zF s.2.2.Threads),.fsl (eL rBox s.2.2.Boxes),.int .i64 s.2.2.Turn,.int .i64 s.2.2.Idle,.fsl (eL rI s.2.2.Out)]]⟩)] M1) (fun s x a J=>x=.exit 0/\Rc G 37 N0 (fun a J=>∃M2 o3 o4:Nat,N0<=M2/\N0<=o3/\o3<M2/\N0<=o4/\o4<M2/\¬o3=o4/\a=[(4,.ptr o3 0 0),(6,.ptr o4 0 0)]/\J=hp E0 [(o3,some ⟨30,6,[[.fsl (eL zA s.1.Codes),.fsl (eL zF s.1.Threads),.fsl (eL rBox s.1.Boxes),.int .i64 s.1.Turn,.int .i64 s.1.Idle,.fsl (eL rI s.1.Out)]]⟩),(o4,some ⟨30,6,[[.fsl (eL zA s.2.Codes),.osl 42 2 (eL zF s.2.Threads),.fsl (eL rBox s.2.Boxes),.int .i64 s.2.Turn,.int .i64 s.2.Idle,.fsl (eL rI s.2.Out)]]⟩)] M2) (AAct.keep a [4,6]) J) hse1 ?_ ?_ ?_
 .refine kp [1,4,6,7] ?_
  refine gP zI (N0+12) 0 1 ?_
  exact R3 (N0+15) N0 (N0+12)
 .clear H hse1
  rintro⟨s5,s6,s7⟩ fl a J H ⟨M1,o1,o2,fM1_0,fM1_1,fM1_2,fM1_3,fM1_4,fM1_5,rfl,rfl⟩ K3 O3 hK3 hO3
  unfold tH at H;dsimp only at H
  refine Wsq [1,4,6,7] fun K4 hK4=>?_
  have e0:=nQ o1 o2
  refine qB [1,4,6,7,22] e0 ?_
  refine Ci H ?_ ?_<;>intro H
  .refine Js hK4 ?_
   refine Wsq [1,4,6,7] fun K5 hK5=>?_
   refine Wb ?_
   refine gU Wre o2 0 1 ?_
   obtain⟨l10,hl10,H⟩:=bE H
   obtain⟨l11,hl11,H⟩:=bE H
   have q2:∀J i,bsA T 27 true i 1 [(0,.agg [.fsl (eL rI l10),.int .i64 0])] J=some (.fsl (eL zF ([(⟨l10,0⟩:gThread)]:List gThread)),J):=fun _ _=>rfl
   refine dF tok tokM [2,4] [1,5,7] [0,2,3,4,1,5,6,7] [1,4,6,7] (fun a J=>a=[(1,.fsl (eL zA p1)),(4,.ptr o1 0 0),(6,.ptr o2 0 0),(7,.int .i64 s5)]/\J=hp E0 [(o1,some ⟨30,6,[[.fsl (eL zA s6.Codes),.fsl (eL zF s6.Threads),.fsl (eL rBox s6.Boxes),.int .i64 s6.Turn,.int .i64 s6.Idle,.fsl (eL rI s6.Out)]]⟩),(o2,some ⟨30,6,[[.fsl (eL zA s7.Codes),.sl (M1+10) 0 l11.length,.fsl (eL rBox s7.Boxes),.int .i64 s7.Turn,.int .i64 s7.Idle,.fsl (eL rI s7.Out)]]⟩),(M1+10,some ⟨42,2,eL zF l11⟩)] (M1+13)) (by decide) (fun K hK=>?_) ?_
   .simp only[pickL,zN,zO]
    have e0:=nQ o1 o2
    have e1:=nQ o1 (M1+4)
    have e2:=nQ o1 (M1+10)
    have e3:=nQ o2 (M1+4)
    have e4:=nQ o2 (M1+10)
    refine m1 (j e0 (j e1 (j e2 (j e3 (j e4 (j (makf23 hl10) (j q2 (app27 hl11)))))))) ?_
    exact hK _ _ ⟨rfl,rfl⟩
   rintro a J ⟨ha,rfl⟩
   refine hK5 _ _ ?_;rw[ha]
   refine Rc.mk ?_
   have e0:=nQ o1 o2
   have e1:=nQ o1 (M1+10)
   have e2:=nQ o2 (M1+10)
   obtain rfl:=oi H
   refine qJ (j e0 (j e1 e2)) hK3 ?_
   refine gP zI o2 0 1 ?_
   exact R3 (M1+16) o1 o2
  cases oj H
  refine zH (hO3 _ _ _ _ rfl ⟨rfl,?_⟩)
  refine kr ?_
  exact R3 (M1+4) o1 o2
 intro x a J hx
 obtain⟨y8,y9⟩:=e1
 obtain⟨rfl,b,U,hr,M2,o3,o4,fM2_0,fM2_1,fM2_2,fM2_3,fM2_4,fM2_5,rfl,rfl⟩:=hx
 (try dsimp only at H)
 show K2 _ _
 refine hK2 _ _ (zI hr ?_)
 refine Rc.mk ?_
 refine Wsq [4,6] fun K6 hK6=>?_
 refine gU Wre o4 0 1 ?_
 obtain⟨r12,hr12,H⟩:=bE H
 refine jJ tok [] [4,6,34] (fun a J=>a=[(4,.ptr o3 0 0),(6,.ptr o4 0 0),(34,.bool (bnot r12))]/\J=hp E0 [(o3,some ⟨30,6,[[.fsl (eL zA y8.Codes),.fsl (eL zF y8.Threads),.fsl (eL rBox y8.Boxes),.int .i64 y8.Turn,.int .i64 y8.Idle,.fsl (eL rI y8.Out)]]⟩),(o4,some ⟨30,6,[[.fsl (eL zA y9.Codes),.sl M2 0 y9.Threads.length,.fsl (eL rBox y9.Boxes),.int .i64 y9.Turn,.int .i64 y9.Idle,.fsl (eL rI y9.Out)]]⟩),(M2,some ⟨42,2,eL zF y9.Threads⟩)] (M2+4)) (fun K hK=>?_) ?_
 .skip
  have e0:=nQ o3 o4
  have e1:=nQ o3 M2
  have e2:=nQ o4 M2
  refine m1 (j e0 (j e1 e2)) ?_
  refine(borrow 8 (c43 hr12) (by simp[e0,e1,e2]) rfl).mono ?_;rintro _ _ ⟨rfl,rfl⟩;try simp -dsimp -implicitDefEqProofs [e0,e1,e2]
  exact hK _ _ ⟨rfl,rfl⟩
 rintro a J ⟨rfl,rfl⟩
 refine Ci H ?_ ?_<;>intro H
 .have e0:=nQ o3 o4
  have e1:=nQ o3 M2
  have e2:=nQ o4 M2
  refine qB [4,5] (j e0 (j e1 e2)) ?_
  cases oj H
  refine Kp [4,5] ?_
  have z0:=nQ o3 o4
  have z1:=nQ o3 M2
  have z2:=nQ o4 M2
  refine Wr ?_
  exact⟨[.agg [.fsl [],.fsl [],.fsl [],.int .i64 0,.int .i64 0,.fsl []],.bool false],by simp[z0,z1,z2],4,by simp[eN,z0,z1,z2]⟩
 refine Js hK6 ?_
 have e0:=nQ o3 o4
 have e1:=nQ o3 M2
 have e2:=nQ o4 M2
 refine qB [4,5] (j e0 (j e1 e2)) ?_
 obtain rfl:=oi H
 refine Kp [4,5] ?_
 have z3:=nQ o3 o4
 have z4:=nQ o3 M2
 have z5:=nQ o4 M2
 refine Wr ?_
 exact⟨[.agg [.fsl (eL zA y9.Codes),.sl M2 0 y9.Threads.length,.fsl (eL rBox y9.Boxes),.int .i64 y9.Turn,.int .i64 y9.Idle,.fsl (eL rI y9.Out)],.bool true],by simp[z3,z4,z5],4,by simp[eN,z3,z4,z5]⟩

theorem c76 {p0:List gQuad}{p1:List gQuad}{r:Bool}(H:oA p0 p1=some r):APure Tryz.prog G 76 [.fsl (eL rQuad p0),.fsl (eL rQuad p1)] (.bool r):=by
 refine qK func76 ntmps76 results76 fun N0=>?_
 unfold oA at H
 refine qA [0,1] ?_
 refine Wsq [0,1] fun K1 hK1=>?_
 refine qA [0,1,10] ?_
 refine Ci H ?_ ?_<;>intro H
 .refine qA [4] ?_
  cases oj H;exact W4
 refine Js hK1 ?_
 refine Wsq [] fun K2 hK2=>?_
 refine qA [0,1,5] ?_
 refine Wb ?_
 obtain⟨e1,hse1,H⟩:=bE H
 refine zS [0,1,5] (fun s a J=>∃M1:Nat,N0<=M1/\a=[(0,.fsl (eL rQuad p0)),(1,.fsl (eL rQuad p1)),(5,.int .i64 s)]/\J=hp E0 [] M1) (fun e x a J=>match e with|.inl s=>x=.exit 0/\Rc G 26 N0 (fun a J=>∃M2:Nat,N0<=M2/\a=[]/\J=hp E0 [] M2) (AAct.keep a []) J|.inr s=>x=.ret/\∃vs,resA T J a [.tmp 4]=some vs/\∃d,thawA (fun _=>true) J d (tupA vs)=.bool s) hse1 ?_ ?_ ?_
 .refine kp [0,1,5] ?_
  exact R1 (N0+7)
 .clear H hse1
  rintro s1 fl a J H ⟨M1,fM1_0,rfl,rfl⟩ K3 O3 hK3 hO3
  unfold vN at H;dsimp only at H
  refine Wsq [0,1,5] fun K4 hK4=>?_
  refine qA [0,1,5,14] ?_
  refine Ci H ?_ ?_<;>intro H
  .refine Js hK4 ?_
   refine Wsq [0,1,5] fun K5 hK5=>?_
   refine Wb ?_
   obtain⟨v2,hv2,H⟩:=bE H
   obtain⟨v3,hv3,H⟩:=bE H
   refine Sd tok tokM [] [] [0,1,2,3,4,5,6,7,8] [0,1,5,25] (by
    intro K k
    simp only[pickL,zN,zO]
    refine m2 (ix34 hv2) (ix34 hv3) ?_
    exact k) ?_
   refine Ci H ?_ ?_<;>intro H
   .refine qA [4] ?_
    cases oj H
    refine Kp [4] ?_
    refine Wr (hO3 _ _ _ _ rfl ⟨rfl,?_⟩)
    exact⟨[.bool false],by simp,4,by simp[eN]⟩
   refine Js hK5 ?_
   obtain rfl:=oi H
   refine qI hK3 ?_
   exact R1 (M1+16)
  cases oj H
  refine zH (hO3 _ _ _ _ rfl ⟨rfl,?_⟩)
  refine kr ?_
  exact R1 (M1+4)
 intro x a J hx
 rcases e1 with⟨⟩|r0
 .obtain⟨rfl,b,U,hr,M2,fM2_0,rfl,rfl⟩:=hx
  (try dsimp only at H)
  show K2 _ _
  refine hK2 _ _ (zI hr ?_)
  refine Rc.mk ?_
  refine qA [4] ?_
  cases oj H;exact W4
 obtain⟨rfl,hx2⟩:=hx
 (try dsimp only at H)
 cases oj H;first|exact hx2|(simp only[List.set_set] at hx2 ⊢;exact hx2)

theorem c44 {p0:(List (List gQuad))}{p1:(List (List gQuad))}{r:Bool}(H:qS p0 p1=some r):APure Tryz.prog G 44 [.fsl (eL zA p0),.fsl (eL zA p1)] (.bool r):=by
 refine qK func44 ntmps44 results44 fun N0=>?_
 unfold qS at H
 refine qA [0,1] ?_
 refine Wsq [0,1] fun K1 hK1=>?_
 refine qA [0,1,10] ?_
 refine Ci H ?_ ?_<;>intro H
 .refine qA [4] ?_
  cases oj H;exact W4
 refine Js hK1 ?_
 refine Wsq [] fun K2 hK2=>?_
 refine qA [0,1,5] ?_
 refine Wb ?_
 obtain⟨e1,hse1,H⟩:=bE H
 refine zS [0,1,5] (fun s a J=>∃M1:Nat,N0<=M1/\a=[(0,.fsl (eL zA p0)),(1,.fsl (eL zA p1)),(5,.int .i64 s)]/\J=hp E0 [] M1) (fun e x a J=>match e with|.inl s=>x=.exit 0/\Rc G 27 N0 (fun a J=>∃M2:Nat,N0<=M2/\a=[]/\J=hp E0 [] M2) (AAct.keep a []) J|.inr s=>x=.ret/\∃vs,resA T J a [.tmp 4]=some vs/\∃d,thawA (fun _=>true) J d (tupA vs)=.bool s) hse1 ?_ ?_ ?_
 .refine kp [0,1,5] ?_
  exact R1 (N0+7)
 .clear H hse1
  rintro s1 fl a J H ⟨M1,fM1_0,rfl,rfl⟩ K3 O3 hK3 hO3
  unfold xS at H;dsimp only at H
  refine Wsq [0,1,5] fun K4 hK4=>?_
  refine qA [0,1,5,14] ?_
  refine Ci H ?_ ?_<;>intro H
  .refine Js hK4 ?_
   refine Wsq [0,1,5] fun K5 hK5=>?_
   refine Wb ?_
   obtain⟨v2,hv2,H⟩:=bE H
   obtain⟨v3,hv3,H⟩:=bE H
   obtain⟨r4,hr4,H⟩:=bE H
   refine Sd tok tokM [] [] [0,1,2,3,4,5,6,7,8,9] [0,1,5,26] (by
    intro K k
    simp only[pickL,zN,zO]
    repeat first|simp -dsimp -implicitDefEqProofs [ix24 hv2,ix24 hv3]|refine Pc.mk (c76 hr4) ?_
    exact k) ?_
   refine Ci H ?_ ?_<;>intro H
   .refine qA [4] ?_
    cases oj H
    refine Kp [4] ?_
    refine Wr (hO3 _ _ _ _ rfl ⟨rfl,?_⟩)
    exact⟨[.bool false],by simp,4,by simp[eN]⟩
   refine Js hK5 ?_
   obtain rfl:=oi H
   refine qI hK3 ?_
   exact R1 (M1+17)
  cases oj H
  refine zH (hO3 _ _ _ _ rfl ⟨rfl,?_⟩)
  refine kr ?_
  exact R1 (M1+4)
 intro x a J hx
 rcases e1 with⟨⟩|r0
 .obtain⟨rfl,b,U,hr,M2,fM2_0,rfl,rfl⟩:=hx
  (try dsimp only at H)
  show K2 _ _
  refine hK2 _ _ (zI hr ?_)
  refine Rc.mk ?_
  refine qA [4] ?_
  cases oj H;exact W4
 obtain⟨rfl,hx2⟩:=hx
 (try dsimp only at H)
 cases oj H;first|exact hx2|(simp only[List.set_set] at hx2 ⊢;exact hx2)

theorem c51 {p0:List Int}{p1:List Int}{r:Bool}(H:jK p0 p1=some r):APure Tryz.prog G 51 [.fsl (eL rI p0),.fsl (eL rI p1)] (.bool r):=by
 refine qK func51 ntmps51 results51 fun N0=>?_
 unfold jK at H
 refine qA [0,1] ?_
 refine Wsq [0,1] fun K1 hK1=>?_
 refine qA [0,1,10] ?_
 refine Ci H ?_ ?_<;>intro H
 .refine qA [4] ?_
  cases oj H;exact W4
 refine Js hK1 ?_
 refine Wsq [] fun K2 hK2=>?_
 refine qA [0,1,5] ?_
 refine Wb ?_
 obtain⟨e1,hse1,H⟩:=bE H
 refine zS [0,1,5] (fun s a J=>∃M1:Nat,N0<=M1/\a=[(0,.fsl (eL rI p0)),(1,.fsl (eL rI p1)),(5,.int .i64 s)]/\J=hp E0 [] M1) (fun e x a J=>match e with|.inl s=>x=.exit 0/\Rc G 26 N0 (fun a J=>∃M2:Nat,N0<=M2/\a=[]/\J=hp E0 [] M2) (AAct.keep a []) J|.inr s=>x=.ret/\∃vs,resA T J a [.tmp 4]=some vs/\∃d,thawA (fun _=>true) J d (tupA vs)=.bool s) hse1 ?_ ?_ ?_
 .refine kp [0,1,5] ?_
  exact R1 (N0+7)
 .clear H hse1
  rintro s1 fl a J H ⟨M1,fM1_0,rfl,rfl⟩ K3 O3 hK3 hO3
  unfold vM at H;dsimp only at H
  refine Wsq [0,1,5] fun K4 hK4=>?_
  refine qA [0,1,5,14] ?_
  refine Ci H ?_ ?_<;>intro H
  .refine Js hK4 ?_
   refine Wsq [0,1,5] fun K5 hK5=>?_
   refine Wb ?_
   obtain⟨v2,hv2,H⟩:=bE H
   obtain⟨v3,hv3,H⟩:=bE H
   refine Sd tok tokM [] [] [0,1,2,3,4,5,6,7,8] [0,1,5,25] (by
    intro K k
    simp only[pickL,zN,zO]
    refine m2 (ix23 hv2) (ix23 hv3) ?_
    exact k) ?_
   refine Ci H ?_ ?_<;>intro H
   .refine qA [4] ?_
    cases oj H
    refine Kp [4] ?_
    refine Wr (hO3 _ _ _ _ rfl ⟨rfl,?_⟩)
    exact⟨[.bool false],by simp,4,by simp[eN]⟩
   refine Js hK5 ?_
   obtain rfl:=oi H
   refine qI hK3 ?_
   exact R1 (M1+16)
  cases oj H
  refine zH (hO3 _ _ _ _ rfl ⟨rfl,?_⟩)
  refine kr ?_
  exact R1 (M1+4)
 intro x a J hx
 rcases e1 with⟨⟩|r0
 .obtain⟨rfl,b,U,hr,M2,fM2_0,rfl,rfl⟩:=hx
  (try dsimp only at H)
  show K2 _ _
  refine hK2 _ _ (zI hr ?_)
  refine Rc.mk ?_
  refine qA [4] ?_
  cases oj H;exact W4
 obtain⟨rfl,hx2⟩:=hx
 (try dsimp only at H)
 cases oj H;first|exact hx2|(simp only[List.set_set] at hx2 ⊢;exact hx2)

theorem c77 {p0:gThread}{p1:gThread}{r:Bool}(H:tJ p0 p1=some r):APure Tryz.prog G 77 [.agg [.fsl (eL rI p0.Regs),.int .i64 p0.Pc],.agg [.fsl (eL rI p1.Regs),.int .i64 p1.Pc]] (.bool r):=by
 refine qK func77 ntmps77 results77 fun N0=>?_
 unfold tJ at H
 refine S0 tok [0,1] [2,3] ?_
 obtain⟨g2,hg2,H⟩:=bE H
 refine qF tok [4] ([(4,.bool g2)]) (hp E0 [] (N0+16)) (by
  intro K k
  refine m0 ?_
  cases hbg2:ieq p0.Pc p1.Pc
  .cases oj (ifF hbg2 hg2)
   exact m1 hbg2 k
  replace hg2:=ifT hbg2 hg2
  obtain⟨r1,hr1,hg2⟩:=bE hg2
  cases oj hg2
  refine m1 hbg2 ?_
  refine(c51 hr1).app (m1 hbg2 ?_)
  exact k) ?_
 cases oj H;exact W4

theorem c86 {p0:gBox}{p1:gBox}{r:Bool}(H:gT p0 p1=some r):APure Tryz.prog G 86 [.agg [.int .i64 p0.Room,.fsl (eL rI p0.Items)],.agg [.int .i64 p1.Room,.fsl (eL rI p1.Items)]] (.bool r):=by
 refine qK func86 ntmps86 results86 fun N0=>?_
 unfold gT at H
 refine S0 tok [0,1] [2,3] ?_
 obtain⟨g2,hg2,H⟩:=bE H
 refine qF tok [4] ([(4,.bool g2)]) (hp E0 [] (N0+16)) (by
  intro K k
  refine m0 ?_
  cases hbg2:ieq p0.Room p1.Room
  .cases oj (ifF hbg2 hg2)
   exact m1 hbg2 k
  replace hg2:=ifT hbg2 hg2
  obtain⟨r1,hr1,hg2⟩:=bE hg2
  cases oj hg2
  refine m1 hbg2 ?_
  refine(c51 hr1).app (m1 hbg2 ?_)
  exact k) ?_
 cases oj H;exact W4

theorem c50 {p0:List gBox}{p1:List gBox}{r:Bool}(H:qT p0 p1=some r):APure Tryz.prog G 50 [.fsl (eL rBox p0),.fsl (eL rBox p1)] (.bool r):=by
 refine qK func50 ntmps50 results50 fun N0=>?_
 unfold qT at H
 refine qA [0,1] ?_
 refine Wsq [0,1] fun K1 hK1=>?_
 refine qA [0,1,10] ?_
 refine Ci H ?_ ?_<;>intro H
 .refine qA [4] ?_
  cases oj H;exact W4
 refine Js hK1 ?_
 refine Wsq [] fun K2 hK2=>?_
 refine qA [0,1,5] ?_
 refine Wb ?_
 obtain⟨e1,hse1,H⟩:=bE H
 refine zS [0,1,5] (fun s a J=>∃M1:Nat,N0<=M1/\a=[(0,.fsl (eL rBox p0)),(1,.fsl (eL rBox p1)),(5,.int .i64 s)]/\J=hp E0 [] M1) (fun e x a J=>match e with|.inl s=>x=.exit 0/\Rc G 27 N0 (fun a J=>∃M2:Nat,N0<=M2/\a=[]/\J=hp E0 [] M2) (AAct.keep a []) J|.inr s=>x=.ret/\∃vs,resA T J a [.tmp 4]=some vs/\∃d,thawA (fun _=>true) J d (tupA vs)=.bool s) hse1 ?_ ?_ ?_
 .refine kp [0,1,5] ?_
  exact R1 (N0+7)
 .clear H hse1
  rintro s1 fl a J H ⟨M1,fM1_0,rfl,rfl⟩ K3 O3 hK3 hO3
  unfold xT at H;dsimp only at H
  refine Wsq [0,1,5] fun K4 hK4=>?_
  refine qA [0,1,5,14] ?_
  refine Ci H ?_ ?_<;>intro H
  .refine Js hK4 ?_
   refine Wsq [0,1,5] fun K5 hK5=>?_
   refine Wb ?_
   obtain⟨v2,hv2,H⟩:=bE H
   obtain⟨v3,hv3,H⟩:=bE H
   obtain⟨r4,hr4,H⟩:=bE H
   refine Sd tok tokM [] [] [0,1,2,3,4,5,6,7,8,9] [0,1,5,26] (by
    intro K k
    simp only[pickL,zN,zO]
    repeat first|simp -dsimp -implicitDefEqProofs [ix28 hv2,ix28 hv3]|refine Pc.mk (c86 hr4) ?_
    exact k) ?_
   refine Ci H ?_ ?_<;>intro H
   .refine qA [4] ?_
    cases oj H
    refine Kp [4] ?_
    refine Wr (hO3 _ _ _ _ rfl ⟨rfl,?_⟩)
    exact⟨[.bool false],by simp,4,by simp[eN]⟩
   refine Js hK5 ?_
   obtain rfl:=oi H
   refine qI hK3 ?_
   exact R1 (M1+17)
  cases oj H
  refine zH (hO3 _ _ _ _ rfl ⟨rfl,?_⟩)
  refine kr ?_
  exact R1 (M1+4)
 intro x a J hx
 rcases e1 with⟨⟩|r0
 .obtain⟨rfl,b,U,hr,M2,fM2_0,rfl,rfl⟩:=hx
  (try dsimp only at H)
  show K2 _ _
  refine hK2 _ _ (zI hr ?_)
  refine Rc.mk ?_
  refine qA [4] ?_
  cases oj H;exact W4
 obtain⟨rfl,hx2⟩:=hx
 (try dsimp only at H)
 cases oj H;first|exact hx2|(simp only[List.set_set] at hx2 ⊢;exact hx2)

theorem c19 {p0:gCrew}{p1:gCrew}{r:Bool}(H:xH p0 p1=some r):APure Tryz.prog G 19 [.agg [.fsl (eL zA p0.Codes),.fsl (eL zF p0.Threads),.fsl (eL rBox p0.Boxes),.int .i64 p0.Turn,.int .i64 p0.Idle,.fsl (eL rI p0.Out)],.agg [.fsl (eL zA p1.Codes),.fsl (eL zF p1.Threads),.fsl (eL rBox p1.Boxes),.int .i64 p1.Turn,.int .i64 p1.Idle,.fsl (eL rI p1.Out)]] (.bool r):=by
 refine qK func19 ntmps19 results19 fun N0=>?_
 unfold xH at H
 refine S0 tok [0,1] [2,3] ?_
 refine Wsq [2,3] fun K1 hK1=>?_
 obtain⟨g1,hg1,H⟩:=bE H
 obtain⟨g2,hg2,H⟩:=bE H
 refine qF tok [2,3,26] ([(2,.fptr [.fsl (eL zA p0.Codes),.fsl (eL zF p0.Threads),.fsl (eL rBox p0.Boxes),.int .i64 p0.Turn,.int .i64 p0.Idle,.fsl (eL rI p0.Out)] 0),(3,.fptr [.fsl (eL zA p1.Codes),.fsl (eL zF p1.Threads),.fsl (eL rBox p1.Boxes),.int .i64 p1.Turn,.int .i64 p1.Idle,.fsl (eL rI p1.Out)] 0),(26,.bool g2)]) (hp E0 [] (N0+24)) (by
  intro K k
  refine m0 ?_
  cases hbg1:ine (ilen p0.Threads) (ilen p1.Threads)
  .cases oj (ifF hbg1 hg1)
   refine m1 hbg1 ?_
   cases hbg2:(ine p0.Turn p1.Turn)
   .cases oj (ifF hbg2 hg2)
    exact m2 hbg1 hbg2 k
   cases oj (ifT hbg2 hg2)
   exact m2 hbg1 hbg2 k
  cases oj (ifT hbg1 hg1)
  cases oj (ifT rfl hg2)
  refine m1 hbg1 ?_
  exact k) ?_
 refine Ci H ?_ ?_<;>intro H
 .refine qA [4] ?_
  cases oj H;exact W4
 refine Js hK1 ?_
 refine Wsq [2,3] fun K2 hK2=>?_
 refine qA [2,3,5] ?_
 refine Wb ?_
 obtain⟨e1,hse1,H⟩:=bE H
 refine zS [2,3,5] (fun s a J=>∃M1:Nat,N0<=M1/\a=[(2,.fptr [.fsl (eL zA p0.Codes),.fsl (eL zF p0.Threads),.fsl (eL rBox p0.Boxes),.int .i64 p0.Turn,.int .i64 p0.Idle,.fsl (eL rI p0.Out)] 0),(3,.fptr [.fsl (eL zA p1.Codes),.fsl (eL zF p1.Threads),.fsl (eL rBox p1.Boxes),.int .i64 p1.Turn,.int .i64 p1.Idle,.fsl (eL rI p1.Out)] 0),(5,.int .i64 s)]/\J=hp E0 [] M1) (fun e x a J=>match e with|.inl s=>x=.exit 0/\Rc G 59 N0 (fun a J=>∃M2:Nat,N0<=M2/\a=[(2,.fptr [.fsl (eL zA p0.Codes),.fsl (eL zF p0.Threads),.fsl (eL rBox p0.Boxes),.int .i64 p0.Turn,.int .i64 p0.Idle,.fsl (eL rI p0.Out)] 0),(3,.fptr [.fsl (eL zA p1.Codes),.fsl (eL zF p1.Threads),.fsl (eL rBox p1.Boxes),.int .i64 p1.Turn,.int .i64 p1.Idle,.fsl (eL rI p1.Out)] 0)]/\J=hp E0 [] M2) (AAct.keep a [2,3]) J|.inr s=>x=.ret/\∃vs,resA T J a [.tmp 4]=some vs/\∃d,thawA (fun _=>true) J d (tupA vs)=.bool s) hse1 ?_ ?_ ?_
 .refine kp [2,3,5] ?_
  exact R1 (N0+25)
 .clear H hse1
  rintro s3 fl a J H ⟨M1,fM1_0,rfl,rfl⟩ K3 O3 hK3 hO3
  unfold yO at H;dsimp only at H
  refine Wsq [2,3,5] fun K4 hK4=>?_
  refine qA [2,3,5,31] ?_
  refine Ci H ?_ ?_<;>intro H
  .refine Js hK4 ?_
   refine Wsq [2,3,5] fun K5 hK5=>?_
   refine Wb ?_
   obtain⟨v4,hv4,H⟩:=bE H
   obtain⟨v5,hv5,H⟩:=bE H
   refine Sd tok tokM [] [] [0,1,2,3,4,5,6,7,8,9,10,11,12] [2,3,5,46] (by
    intro K k
    simp only[pickL,zN,zO]
    refine m2 (ix27 hv4) (ix27 hv5) ?_
    exact k) ?_
   refine Ci H ?_ ?_<;>intro H
   .refine qA [4] ?_
    cases oj H
    refine Kp [4] ?_
    refine Wr (hO3 _ _ _ _ rfl ⟨rfl,?_⟩)
    exact⟨[.bool false],by simp,4,by simp[eN]⟩
   refine Js hK5 ?_
   obtain rfl:=oi H
   refine qI hK3 ?_
   exact R1 (M1+21)
  cases oj H
  refine zH (hO3 _ _ _ _ rfl ⟨rfl,?_⟩)
  refine kr ?_
  exact R1 (M1+5)
 intro x a J hx
 rcases e1 with⟨⟩|r0
 .obtain⟨rfl,b,U,hr,M2,fM2_0,rfl,rfl⟩:=hx
  (try dsimp only at H)
  show K2 _ _
  refine hK2 _ _ (zI hr ?_)
  refine Rc.mk ?_
  obtain⟨r6,hr6,H⟩:=bE H
  obtain⟨g8,hg8,H⟩:=bE H
  refine qF tok [4] ([(4,.bool g8)]) (hp E0 [] (M2+13)) (by
   intro K k
   refine m0 ?_
   refine(c50 hr6).app (m0 ?_)
   cases hbg8:r6
   .cases oj (ifF hbg8 hg8)
    exact m1 hbg8 k
   replace hg8:=ifT hbg8 hg8
   obtain⟨r7,hr7,hg8⟩:=bE hg8
   cases oj hg8
   refine m1 hbg8 ?_
   refine(c51 hr7).app (m1 hbg8 ?_)
   exact k) ?_
  cases oj H;exact W4
 obtain⟨rfl,hx2⟩:=hx
 (try dsimp only at H)
 cases oj H;first|exact hx2|(simp only[List.set_set] at hx2 ⊢;exact hx2)

theorem c45 {p0:gCrew}{p1:gCrew}{r:Bool}(H:qP p0 p1=some r):APure Tryz.prog G 45 [.agg [.fsl (eL zA p0.Codes),.fsl (eL zF p0.Threads),.fsl (eL rBox p0.Boxes),.int .i64 p0.Turn,.int .i64 p0.Idle,.fsl (eL rI p0.Out)],.agg [.fsl (eL zA p1.Codes),.fsl (eL zF p1.Threads),.fsl (eL rBox p1.Boxes),.int .i64 p1.Turn,.int .i64 p1.Idle,.fsl (eL rI p1.Out)]] (.bool r):=by
 refine qK func45 ntmps45 results45 fun N0=>?_
 unfold qP at H
 refine S0 tok [0,1] [2,3] ?_
 refine Wsq [2,3] fun K1 hK1=>?_
 refine qA [2,3,12] ?_
 refine Ci H ?_ ?_<;>intro H
 .refine qA [4] ?_
  cases oj H;exact W4
 refine Js hK1 ?_
 refine Wsq [2,3] fun K2 hK2=>?_
 refine qA [2,3,5] ?_
 refine Wb ?_
 obtain⟨e1,hse1,H⟩:=bE H
 refine zS [2,3,5] (fun s a J=>∃M1:Nat,N0<=M1/\a=[(2,.fptr [.fsl (eL zA p0.Codes),.fsl (eL zF p0.Threads),.fsl (eL rBox p0.Boxes),.int .i64 p0.Turn,.int .i64 p0.Idle,.fsl (eL rI p0.Out)] 0),(3,.fptr [.fsl (eL zA p1.Codes),.fsl (eL zF p1.Threads),.fsl (eL rBox p1.Boxes),.int .i64 p1.Turn,.int .i64 p1.Idle,.fsl (eL rI p1.Out)] 0),(5,.int .i64 s)]/\J=hp E0 [] M1) (fun e x a J=>match e with|.inl s=>x=.exit 0/\Rc G 35 N0 (fun a J=>∃M2:Nat,N0<=M2/\a=[(2,.fptr [.fsl (eL zA p0.Codes),.fsl (eL zF p0.Threads),.fsl (eL rBox p0.Boxes),.int .i64 p0.Turn,.int .i64 p0.Idle,.fsl (eL rI p0.Out)] 0),(3,.fptr [.fsl (eL zA p1.Codes),.fsl (eL zF p1.Threads),.fsl (eL rBox p1.Boxes),.int .i64 p1.Turn,.int .i64 p1.Idle,.fsl (eL rI p1.Out)] 0)]/\J=hp E0 [] M2) (AAct.keep a [2,3]) J|.inr s=>x=.ret/\∃vs,resA T J a [.tmp 4]=some vs/\∃d,thawA (fun _=>true) J d (tupA vs)=.bool s) hse1 ?_ ?_ ?_
 .refine kp [2,3,5] ?_
  exact R1 (N0+11)
 .clear H hse1
  rintro s1 fl a J H ⟨M1,fM1_0,rfl,rfl⟩ K3 O3 hK3 hO3
  unfold xP at H;dsimp only at H
  refine Wsq [2,3,5] fun K4 hK4=>?_
  refine qA [2,3,5,17] ?_
  refine Ci H ?_ ?_<;>intro H
  .refine Js hK4 ?_
   refine Wsq [2,3,5] fun K5 hK5=>?_
   refine Wb ?_
   obtain⟨v2,hv2,H⟩:=bE H
   obtain⟨v3,hv3,H⟩:=bE H
   obtain⟨r4,hr4,H⟩:=bE H
   refine Sd tok tokM [] [] [0,1,2,3,4,5,6,7,8,9,10,11] [2,3,5,31] (by
    intro K k
    simp only[pickL,zN,zO]
    repeat first|simp -dsimp -implicitDefEqProofs [ix27 hv2,ix27 hv3]|refine Pc.mk (c77 hr4) ?_
    exact k) ?_
   refine Ci H ?_ ?_<;>intro H
   .refine qA [4] ?_
    cases oj H
    refine Kp [4] ?_
    refine Wr (hO3 _ _ _ _ rfl ⟨rfl,?_⟩)
    exact⟨[.bool false],by simp,4,by simp[eN]⟩
   refine Js hK5 ?_
   obtain rfl:=oi H
   refine qI hK3 ?_
   exact R1 (M1+20)
  cases oj H
  refine zH (hO3 _ _ _ _ rfl ⟨rfl,?_⟩)
  refine kr ?_
  exact R1 (M1+5)
 intro x a J hx
 rcases e1 with⟨⟩|r0
 .obtain⟨rfl,b,U,hr,M2,fM2_0,rfl,rfl⟩:=hx
  (try dsimp only at H)
  show K2 _ _
  refine hK2 _ _ (zI hr ?_)
  refine Rc.mk ?_
  obtain⟨r5,hr5,H⟩:=bE H
  refine qD [4] (c19 hr5) ?_
  cases oj H;exact W4
 obtain⟨rfl,hx2⟩:=hx
 (try dsimp only at H)
 cases oj H;first|exact hx2|(simp only[List.set_set] at hx2 ⊢;exact hx2)

theorem c16 {p0:gCrew}{p1:gCrew}{r:Bool}(H:kY p0 p1=some r):APure Tryz.prog G 16 [.agg [.fsl (eL zA p0.Codes),.fsl (eL zF p0.Threads),.fsl (eL rBox p0.Boxes),.int .i64 p0.Turn,.int .i64 p0.Idle,.fsl (eL rI p0.Out)],.agg [.fsl (eL zA p1.Codes),.fsl (eL zF p1.Threads),.fsl (eL rBox p1.Boxes),.int .i64 p1.Turn,.int .i64 p1.Idle,.fsl (eL rI p1.Out)]] (.bool r):=by
 refine qK func16 ntmps16 results16 fun N0=>?_
 unfold kY at H
 refine S0 tok [0,1] [2,3] ?_
 obtain⟨r1,hr1,H⟩:=bE H
 obtain⟨g3,hg3,H⟩:=bE H
 refine qF tok [4] ([(4,.bool g3)]) (hp E0 [] (N0+14)) (by
  intro K k
  refine m0 ?_
  refine(c44 hr1).app (m0 ?_)
  cases hbg3:r1
  .cases oj (ifF hbg3 hg3)
   exact m1 hbg3 k
  replace hg3:=ifT hbg3 hg3
  obtain⟨r2,hr2,hg3⟩:=bE hg3
  cases oj hg3
  refine m1 hbg3 ?_
  refine(c45 hr2).app (m1 hbg3 ?_)
  exact k) ?_
 cases oj H;exact W4

theorem c92 {p0:gQuad}{p1:Int}{r:List Int}(H:vS p0 p1=some r):APure Tryz.prog G 92 [.agg [.int .i64 p0.Op,.int .i64 p0.Dst,.int .i64 p0.A,.int .i64 p0.B,.int .i64 p0.N],.int .i64 p1] (.fsl (eL rI r)):=by
 refine qK func92 ntmps92 results92 fun N0=>?_
 unfold vS at H
 refine S0 tok [0] [1,2] ?_
 refine Wsq [1] fun K1 hK1=>?_
 refine Wb ?_
 refine qA [1,2,5] ?_
 refine Ci H ?_ ?_<;>intro H
 .refine qA [4] ?_
  cases oj H;exact W4
 refine qA [1,2,9] ?_
 refine Ci H ?_ ?_<;>intro H
 .have q0:∀J i,bsA T 23 true i 1 [(0,.int .i64 p0.N)] J=some (.fsl (eL rI ([p0.N]:List Int)),J):=fun _ _=>rfl
  refine Sy tok [2] [4] q0 ?_
  cases oj H;exact W4
 obtain⟨g1,hg1,H⟩:=bE H
 refine qF tok [1,2,16] ([(1,.int .i64 p1),(2,.fptr [.int .i64 p0.Op,.int .i64 p0.Dst,.int .i64 p0.A,.int .i64 p0.B,.int .i64 p0.N] 0),(16,.bool g1)]) (hp E0 [] (N0+21)) (by
  intro K k
  refine m0 ?_
  cases hbg1:ieq p0.Op 5
  .cases oj (ifF hbg1 hg1)
   exact m1 hbg1 k
  cases oj (ifT hbg1 hg1)
  refine m1 hbg1 ?_
  exact k) ?_
 refine Ci H ?_ ?_<;>intro H
 .have q1:∀J i,bsA T 23 true i 2 [(0,.int .i64 p0.N),(1,.int .i64 (iadd .i64 p1 1))] J=some (.fsl (eL rI ([p0.N,iadd .i64 p1 1]:List Int)),J):=fun _ _=>rfl
  refine Sy tok [4] [4] q1 ?_
  cases oj H;exact W4
 obtain⟨g2,hg2,H⟩:=bE H
 refine qF tok [1,2,32] ([(1,.int .i64 p1),(2,.fptr [.int .i64 p0.Op,.int .i64 p0.Dst,.int .i64 p0.A,.int .i64 p0.B,.int .i64 p0.N] 0),(32,.bool g2)]) (hp E0 [] (N0+32)) (by
  intro K k
  refine m0 ?_
  cases hbg2:ieq p0.Op 5
  .cases oj (ifF hbg2 hg2)
   exact m1 hbg2 k
  cases oj (ifT hbg2 hg2)
  refine m1 hbg2 ?_
  exact k) ?_
 refine Ci H ?_ ?_<;>intro H
 .have q2:∀J i,bsA T 23 true i 2 [(0,.int .i64 (iadd .i64 p1 1)),(1,.int .i64 p0.N)] J=some (.fsl (eL rI ([iadd .i64 p1 1,p0.N]:List Int)),J):=fun _ _=>rfl
  refine Sy tok [4] [4] q2 ?_
  cases oj H;exact W4
 refine Js hK1 ?_
 have q3:∀J i,bsA T 23 true i 1 [(0,.int .i64 (iadd .i64 p1 1))] J=some (.fsl (eL rI ([iadd .i64 p1 1]:List Int)),J):=fun _ _=>rfl
 refine Sy tok [2] [4] q3 ?_
 cases oj H;exact W4

theorem c128 {p0:Bool}{r:Int}(H:i_truth p0=some r):APure Tryz.prog G 128 [.bool p0] (.int .i64 r):=by
 refine qK func128 ntmps128 results128 fun N0=>?_
 unfold i_truth at H
 refine qA [0] ?_
 refine Wsq [] fun K1 hK1=>?_
 refine qA [3] ?_
 refine Ci H ?_ ?_<;>intro H
 .refine qA [2] ?_
  cases oj H;exact W4
 refine Js hK1 ?_
 refine qA [2] ?_
 cases oj H;exact W4

theorem c129 {p0:Int}{r:Int}(H:cM p0=some r):APure Tryz.prog G 129 [.int .i64 p0] (.int .i64 r):=by
 refine qK func129 ntmps129 results129 fun N0=>?_
 unfold cM at H
 refine qA [0] ?_
 refine qA [2] ?_
 cases oj H;exact W4

theorem c116 {p0:Int}{p1:Int}{p2:Int}{r:Int}(H:mE p0 p1 p2=some r):APure Tryz.prog G 116 [.int .i64 p0,.int .i64 p1,.int .i64 p2] (.int .i64 r):=by
 refine qK func116 ntmps116 results116 fun N0=>?_
 unfold mE at H
 refine qA [0,1,2] ?_
 refine Wsq [1,2] fun K1 hK1=>?_
 refine qA [1,2,7] ?_
 refine Wb ?_
 refine qA [1,2,7,8] ?_
 refine Ci H ?_ ?_<;>intro H
 .refine qA [6] ?_
  cases oj H;exact W4
 refine qA [1,2,7,13] ?_
 refine Ci H ?_ ?_<;>intro H
 .refine qA [6] ?_
  cases oj H;exact W4
 refine qA [1,2,7,18] ?_
 refine Ci H ?_ ?_<;>intro H
 .refine qA [6] ?_
  cases oj H;exact W4
 refine qA [1,2,7,23] ?_
 refine Ci H ?_ ?_<;>intro H
 .obtain⟨r1,hr1,H⟩:=bE H
  refine qD [6] (c128 hr1) ?_
  cases oj H;exact W4
 refine qA [1,2,7,29] ?_
 refine Ci H ?_ ?_<;>intro H
 .obtain⟨r2,hr2,H⟩:=bE H
  refine qD [6] (c128 hr2) ?_
  cases oj H;exact W4
 refine qA [1,2,7,35] ?_
 refine Ci H ?_ ?_<;>intro H
 .obtain⟨v3,hv3,H⟩:=bE H
  obtain⟨r4,hr4,H⟩:=bE H
  refine qE [6] hv3 (c129 hr4) ?_
  cases oj H;exact W4
 refine qA [1,2,7,42] ?_
 refine Ci H ?_ ?_<;>intro H
 .obtain⟨v5,hv5,H⟩:=bE H
  refine qB [6] hv5 ?_
  cases oj H;exact W4
 refine qA [1,2,7,48] ?_
 refine Ci H ?_ ?_<;>intro H
 .obtain⟨r6,hr6,H⟩:=bE H
  refine qD [6] (c129 hr6) ?_
  cases oj H;exact W4
 refine qA [1,2,7,54] ?_
 refine Ci H ?_ ?_<;>intro H
 .obtain⟨r7,hr7,H⟩:=bE H
  refine qD [6] (c129 hr7) ?_
  cases oj H;exact W4
 refine qA [1,2,7,60] ?_
 refine Ci H ?_ ?_<;>intro H
 .obtain⟨r8,hr8,H⟩:=bE H
  refine qD [6] (c129 hr8) ?_
  cases oj H;exact W4
 refine qA [1,2,66] ?_
 refine Ci H ?_ ?_<;>intro H
 .refine Wsq [1,2] fun K2 hK2=>?_
  refine qA [1,2,69] ?_
  refine Ci H ?_ ?_<;>intro H
  .refine qA [6] ?_
   cases oj H;exact W4
  refine Js hK2 ?_
  obtain⟨v9,hv9,H⟩:=bE H
  obtain⟨r10,hr10,H⟩:=bE H
  refine qE [6] hv9 (c129 hr10) ?_
  cases oj H;exact W4
 refine Js hK1 ?_
 refine Wsq [1,2] fun K3 hK3=>?_
 refine qA [1,2,75] ?_
 refine Ci H ?_ ?_<;>intro H
 .refine qA [6] ?_
  cases oj H;exact W4
 refine Js hK3 ?_
 obtain⟨v11,hv11,H⟩:=bE H
 refine qB [6] hv11 ?_
 cases oj H;exact W4

theorem c117 {p0:gBox}{p1:Int}{r:Bool×gBox}(H:gZ p0 p1=some r){J:AHeap}{w0:Nat}{W0:List (List AV)}{r0_:Nat}(q0:J.objs w0=some ⟨99,2,W0⟩)(g0:W0[r0_]? =some [.int .i64 p0.Room,.osl 3 1 (eL rI p0.Items)]):ACalls Tryz.prog G 117 [.ptr w0 r0_ 0,.int .i64 p1] J (fun v J'=>∃M:Nat,J.next<=M/\v=.bool r.1/\J'=hp J.objs [(w0,some ⟨99,2,W0.set r0_ [.int .i64 r.2.Room,.osl 3 1 (eL rI r.2.Items)]⟩)] M):=by
 refine fr1 ([(w0,some ⟨99,2,W0⟩)]) (by simp[q0]) (fun hlt=>?_) ⟨_,func117,rfl,rfl⟩
 generalize J.next=N0 at hlt ⊢
 have lw0:w0<N0:=hlt _ (.head _) rfl
 have gs_W0:∀x,(W0.set r0_ x)[r0_]? =some x:=gsetW g0
 rw[<- kK g0]
 refine fnK tok func117 ntmps117 results117 ?_
 simp only[argsA,Nat.reduceAdd,hpN]
 unfold gZ at H
 refine qB [0,1] gs_W0 ?_
 refine Wsq [0,1] fun K1 hK1=>?_
 refine gU Wre w0 r0_ 1 ?_ (hr:=by exact gs_W0 _)
 refine Sd tok tokM [] [3,8] [0,1,2,5,6,7,3,4,8,9] [0,1,14] (by
  intro K k
  have e0:=nQ w0 (N0+1)
  simp only[pickL,zN,zO]
  refine m2 e0 gs_W0 ?_
  exact k) ?_
 refine Ci H ?_ ?_<;>intro H
 .have e0:=nQ w0 (N0+1)
  refine qC [4] e0 gs_W0 ?_
  cases oj H
  refine Kp [4] ?_
  refine gP Wre w0 r0_ 1 ?_ (hr:=by exact gs_W0 _)
  exact V1 gs_W0 (N0+13)
 refine Js hK1 ?_
 obtain⟨l1,hl1,H⟩:=bE H
 have q0:∀J i,bsA T 23 true i 1 [(0,.int .i64 p1)] J=some (.fsl (eL rI ([p1]:List Int)),J):=fun _ _=>rfl
 have e0:=nQ w0 (N0+1)
 have e1:=nQ w0 (N0+19)
 refine Sy tok [6] [] (j e0 (j e1 (j gs_W0 (j q0 (app23 hl1))))) ?_
 have e0:=nQ w0 (N0+19)
 refine qC [4] e0 gs_W0 ?_
 cases oj H
 refine Kp [4] ?_
 refine gP Wre w0 r0_ 1 ?_ (hr:=by exact gs_W0 _)
 exact V1 gs_W0 (N0+24)

theorem c118 {p0:gBox}{r:Int×Bool×gBox}(H:oH p0=some r){J:AHeap}{w0:Nat}{W0:List (List AV)}{r0_:Nat}(q0:J.objs w0=some ⟨99,2,W0⟩)(g0:W0[r0_]? =some [.int .i64 p0.Room,.osl 3 1 (eL rI p0.Items)]):ACalls Tryz.prog G 118 [.ptr w0 r0_ 0] J (fun v J'=>∃M:Nat,J.next<=M/\v=.tup [.int .i64 r.1,.bool r.2.1]/\J'=hp J.objs [(w0,some ⟨99,2,W0.set r0_ [.int .i64 r.2.2.Room,.osl 3 1 (eL rI r.2.2.Items)]⟩)] M):=by
 refine fr1 ([(w0,some ⟨99,2,W0⟩)]) (by simp[q0]) (fun hlt=>?_) ⟨_,func118,rfl,rfl⟩
 generalize J.next=N0 at hlt ⊢
 have lw0:w0<N0:=hlt _ (.head _) rfl
 have gs_W0:∀x,(W0.set r0_ x)[r0_]? =some x:=gsetW g0
 rw[<- kK g0]
 refine fnK tok func118 ntmps118 results118 ?_
 simp only[argsA,Nat.reduceAdd,hpN]
 unfold oH at H
 refine Sx tok [] [0] (by intro K k;simp -dsimp -implicitDefEqProofs (maxDischargeDepth:=6) [gs_W0];exact k) ?_
 refine Wsq [0] fun K1 hK1=>?_
 refine gU Wre w0 r0_ 1 ?_ (hr:=by exact gs_W0 _)
 have e0:=nQ w0 (N0+2)
 refine Sx tok [] [0,10] (by intro K k;simp -dsimp -implicitDefEqProofs (maxDischargeDepth:=6) [e0,gs_W0];exact k) ?_
 refine Ci H ?_ ?_<;>intro H
 .have e0:=nQ w0 (N0+2)
  refine Sx tok [] [2,3] (by intro K k;simp -dsimp -implicitDefEqProofs (maxDischargeDepth:=6) [e0,gs_W0];exact k) ?_
  cases oj H
  refine Kp [2,3] ?_
  refine gP Wre w0 r0_ 1 ?_ (hr:=by exact gs_W0 _)
  exact V1 gs_W0 (N0+11)
 refine Js hK1 ?_
 obtain⟨v1,hv1,H⟩:=bE H
 have e0:=nQ w0 (N0+2)
 refine Sx tok [] [0,4] (by intro K k;simp -dsimp -implicitDefEqProofs (maxDischargeDepth:=6) [e0,gs_W0,ixo23 hv1,(show _[0]? =some v1 from(zG hv1).2.2)];exact k) ?_
 obtain⟨l2,hl2,H⟩:=bE H
 obtain⟨l3,hl3,H⟩:=bE H
 obtain⟨l4,hl4,H⟩:=bE H
 refine Sd tok tokM [] [4,5,9,10,11,14] [0,1,2,3,6,7,8,4,5,9,10,11,12,13,14] [4] (by
  intro K k
  have e0:=nQ w0 (N0+2)
  have e1:=nQ w0 (N0+27)
  simp only[pickL,zN,zO]
  simp -dsimp -implicitDefEqProofs (maxDischargeDepth:=6) [e0,e1,gs_W0,cutoh_23 hl2,cutol_23 hl3,appv23 hl2 hl4,srcvn23 1 hl3 rfl]
  exact k) ?_
 have e0:=nQ w0 (N0+27)
 refine Sx tok [] [2,3] (by intro K k;simp -dsimp -implicitDefEqProofs (maxDischargeDepth:=6) [e0,gs_W0];exact k) ?_
 obtain rfl:=oi H
 refine Kp [2,3] ?_
 refine gP Wre w0 r0_ 1 ?_ (hr:=by exact gs_W0 _)
 exact V1 gs_W0 (N0+34)

theorem c85 {p0:gThread}{p1:List gQuad}{p2:List gBox}{p3:List Int}{r:Int×gThread×(List gBox)×(List Int)}(H:vX p0 p1 p2 p3=some r){J:AHeap}{w0:Nat}{W0:List (List AV)}{r0_:Nat}{w2:Nat}{w3:Nat}{W3:List (List AV)}{r3_:Nat}{x3_:List AV}{i3_:Nat}{t3_ s3_:Nat}(q0:J.objs w0=some ⟨42,2,W0⟩)(g0:W0[r0_]? =some [.osl 3 1 (eL rI p0.Regs),.int .i64 p0.Pc])(q2:J.objs w2=some ⟨99,2,eL kF p2⟩)(q3:J.objs w3=some ⟨t3_,s3_,W3⟩)(g3:W3[r3_]? =some x3_)(k3:x3_[i3_]? =some (.osl 3 1 (eL rI p3)))(d0_1:¬w0=w2)(d0_2:¬w0=w3)(d1_2:¬w2=w3):ACalls Tryz.prog G 85 [.ptr w0 r0_ 0,.fsl (eL rQuad p1),.sl w2 0 p2.length,.ptr w3 r3_ i3_] J (fun v J'=>∃M:Nat,J.next<=M/\r.2.2.1.length=p2.length/\v=.int .i64 r.1/\J'=hp J.objs [(w0,some ⟨42,2,W0.set r0_ [.osl 3 1 (eL rI r.2.1.Regs),.int .i64 r.2.1.Pc]⟩),(w2,some ⟨99,2,eL kF r.2.2.1⟩),(w3,some ⟨t3_,s3_,W3.set r3_ (x3_.set i3_ (.osl 3 1 (eL rI r.2.2.2)))⟩)] M):=by
 refine uC (L:=[(w0,some ⟨42,2,W0⟩),(w2,some ⟨99,2,eL kF p2⟩),(w3,some ⟨t3_,s3_,W3⟩)]) (Q1:=fun v J'=>∃M:Nat,J.next<=M/\r.2.2.1.length=p2.length/\v=.int .i64 r.1/\J'=hp E0 [(w0,some ⟨42,2,W0.set r0_ [.osl 3 1 (eL rI r.2.1.Regs),.int .i64 r.2.1.Pc]⟩),(w2,some ⟨99,2,eL kF r.2.2.1⟩),(w3,some ⟨t3_,s3_,W3.set r3_ (x3_.set i3_ (.osl 3 1 (eL rI r.2.2.2)))⟩)] M) (by simp[q0,q2,q3]) (fun hlt=>?_) ?_ ⟨_,func85,rfl,rfl⟩
 rotate_left
 .rintro v J1 ⟨M,h0,h1,rfl,rfl⟩
  exact⟨_,M,rfl,by simp,by simp;try omega,M,h0,h1,rfl,rfl⟩
 generalize J.next=N0 at hlt ⊢
 have lw0:w0<N0:=hlt _ (.head _) rfl
 have lw2:w2<N0:=hlt _ (.tail _ (.head _)) rfl
 have lw3:w3<N0:=hlt _ (.tail _ (.tail _ (.head _))) rfl
 have gs_W0:∀x,(W0.set r0_ x)[r0_]? =some x:=gsetW g0
 rw[<- kK g0]
 have gs_W3:∀x,(W3.set r3_ x)[r3_]? =some x:=gsetW g3
 have gs_x3_:∀x,(x3_.set i3_ x)[i3_]? =some x:=gsetC k3
 have ws_x3_:=winS k3
 have wl_x3_:=winL k3
 rw[show W3=W3.set r3_ (x3_.set i3_ (.osl 3 1 (eL rI p3))) from by rw[kK k3,kK g3]]
 refine fnK tok func85 ntmps85 results85 ?_
 simp only[argsA,Nat.reduceAdd,hpN]
 unfold vX at H
 have e0:=nQ w0 w2
 have e1:=nQ w0 w3
 have e2:=nQ w2 w3
 refine qB [0,1,2,3] (j e0 (j e1 (j e2 (j gs_W0 (j gs_W3 (j gs_x3_ (j ws_x3_ wl_x3_))))))) ?_
 obtain⟨v1,hv1,H⟩:=bE H
 have e0:=nQ w0 w2
 have e1:=nQ w0 w3
 have e2:=nQ w0 (N0+8)
 have e3:=nQ w2 w3
 have e4:=nQ w2 (N0+8)
 have e5:=nQ w3 (N0+8)
 refine qB [0,2,3,9] (j e0 (j e1 (j e2 (j e3 (j e4 (j e5 (j gs_W0 (j gs_W3 (j gs_x3_ (j ws_x3_ (j wl_x3_ (ix34 hv1)))))))))))) ?_
 have e0:=nQ w0 w2
 have e1:=nQ w0 w3
 have e2:=nQ w0 (N0+8)
 have e3:=nQ w2 w3
 have e4:=nQ w2 (N0+8)
 have e5:=nQ w3 (N0+8)
 refine qB [0,2,3,9,10] (j e0 (j e1 (j e2 (j e3 (j e4 (j e5 (j gs_W0 (j gs_W3 (j gs_x3_ (j ws_x3_ wl_x3_)))))))))) ?_
 obtain⟨flj1,hflj1,H⟩:=bE H
 refine kS (kM fun K1 hK1=>?_)
 have hJ1:∀(j1:Int×gThread×(List gBox)×(List Int)) a J,flj1=.next j1->Rc G 165 N0 (fun a J=>∃M1:Nat,N0<=M1/\j1.2.2.1.length=p2.length/\a=[(0,.ptr w0 r0_ 0),(10,.int .i64 j1.1)]/\J=hp E0 [(w0,some ⟨42,2,W0.set r0_ [.osl 3 1 (eL rI j1.2.1.Regs),.int .i64 j1.2.1.Pc]⟩),(w2,some ⟨99,2,eL kF j1.2.2.1⟩),(w3,some ⟨t3_,s3_,W3.set r3_ (x3_.set i3_ (.osl 3 1 (eL rI j1.2.2.2)))⟩)] M1) (AAct.keep a [0,10]) J->K1 a J:=by
  rintro j1 a J hfl ⟨b,U,hr,M1,fM1_0,fM1_1,rfl,rfl⟩
  subst hfl;dsimp only at H
  refine hK1 _ _ (kG [0,10] (Wre hr ?_))
  have e0:=nQ w0 w2
  have e1:=nQ w0 w3
  have e2:=nQ w2 w3
  refine qB [] (j e0 (j e1 (j e2 (j gs_W0 (j gs_W3 (j gs_x3_ (j ws_x3_ wl_x3_))))))) ?_
  have e0:=nQ w0 w2
  have e1:=nQ w0 w3
  have e2:=nQ w2 w3
  refine qB [8] (j e0 (j e1 (j e2 (j gs_W0 (j gs_W3 (j gs_x3_ (j ws_x3_ wl_x3_))))))) ?_
  cases oj H
  refine Kp [8] ?_
  have z0:=nQ w0 w2
  have z1:=nQ w0 w3
  have z2:=nQ w2 w3
  refine Wr ?_
  refine⟨[.int .i64 1],by simp[z0,z1,z2,gs_W0,gs_W3,gs_x3_,ws_x3_,wl_x3_],M1+6,by omega,by first|rfl|exact fM1_1|omega,?_,?_⟩
  .simp[eN]
  first|rfl|simp
 have Gj1:=H;replace H:=hflj1
 have e0:=nQ w0 w2
 have e1:=nQ w0 w3
 have e2:=nQ w0 (N0+8)
 have e3:=nQ w2 w3
 have e4:=nQ w2 (N0+8)
 have e5:=nQ w3 (N0+8)
 refine qB [0,2,3,9,10,26] (j e0 (j e1 (j e2 (j e3 (j e4 (j e5 (j gs_W0 (j gs_W3 (j gs_x3_ (j ws_x3_ wl_x3_)))))))))) ?_
 refine Wb ?_
 have e0:=nQ w0 w2
 have e1:=nQ w0 w3
 have e2:=nQ w0 (N0+8)
 have e3:=nQ w2 w3
 have e4:=nQ w2 (N0+8)
 have e5:=nQ w3 (N0+8)
 refine qB [0,2,3,9,10,26,27] (j e0 (j e1 (j e2 (j e3 (j e4 (j e5 (j gs_W0 (j gs_W3 (j gs_x3_ (j ws_x3_ wl_x3_)))))))))) ?_
 refine Ci H ?_ ?_<;>intro H
 .refine gU Wre w0 r0_ 0 ?_ (hr:=by exact gs_W0 _)
  obtain⟨v6,hv6,H⟩:=bE H
  obtain⟨l7,hl7,H⟩:=bE H
  refine dF tok tokM [] [3,5,7,8,9] [0,1,2,4,6,3,5,7,8,9] [0,10] (fun a J=>a=[(0,.ptr w0 r0_ 0),(10,.int .i64 (iadd .i64 p0.Pc 1))]/\J=hp E0 [(w0,some ⟨42,2,W0.set r0_ [.sl (N0+20) 0 p0.Regs.length,.int .i64 p0.Pc]⟩),(w2,some ⟨99,2,eL kF p2⟩),(w3,some ⟨t3_,s3_,W3.set r3_ (x3_.set i3_ (.osl 3 1 (eL rI p3)))⟩),(N0+8,some ⟨68,5,[[.int .i64 v1.Op,.int .i64 v1.Dst,.int .i64 v1.A,.int .i64 v1.B,.int .i64 v1.N]]⟩),(N0+20,some ⟨3,1,eL rI l7⟩)] (N0+31)) (by decide) (fun K hK=>?_) ?_
  .simp only[pickL,zN,zO]
   have e0:=nQ w0 w2
   have e1:=nQ w0 w3
   have e2:=nQ w0 (N0+8)
   have e3:=nQ w0 (N0+20)
   have e4:=nQ w2 w3
   have e5:=nQ w2 (N0+8)
   have e6:=nQ w2 (N0+20)
   have e7:=nQ w3 (N0+8)
   have e8:=nQ w3 (N0+20)
   refine m1 (j e0 (j e1 (j e2 (j e3 (j e4 (j e5 (j e6 (j e7 (j e8 (j gs_W0 (j gs_W3 (j gs_x3_ (j ws_x3_ (j wl_x3_ (j (ixo23 hv6) (j ((zG hv6).2.2) ((setx_iff.1 hl7).2.symm))))))))))))))))) ?_
   exact hK _ _ ⟨rfl,rfl⟩
  rintro a J ⟨ha,rfl⟩
  (try rw[<- zE hl7] at ha);(try rw[<- zE hl7])
  replace H:=oi H
  refine hJ1 _ _ _ H.symm ?_;rw[ha]
  refine gP zI w0 r0_ 0 ?_ (hr:=by exact gs_W0 _)
  exact Rc.fin (zK (zK (zK (AHeap.Sub.trans (AHeap.Sub.refl _) (zT rfl (by simp;try omega)))))) ⟨N0+31,(by omega),(by first|rfl|exact rfl|omega),rfl,rfl⟩
 have e0:=nQ w0 w2
 have e1:=nQ w0 w3
 have e2:=nQ w0 (N0+8)
 have e3:=nQ w2 w3
 have e4:=nQ w2 (N0+8)
 have e5:=nQ w3 (N0+8)
 refine qB [0,2,3,9,10,26,38] (j e0 (j e1 (j e2 (j e3 (j e4 (j e5 (j gs_W0 (j gs_W3 (j gs_x3_ (j ws_x3_ wl_x3_)))))))))) ?_
 refine Ci H ?_ ?_<;>intro H
 .refine gU Wre w0 r0_ 0 ?_ (hr:=by exact gs_W0 _)
  obtain⟨v8,hv8,H⟩:=bE H
  obtain⟨v9,hv9,H⟩:=bE H
  obtain⟨l10,hl10,H⟩:=bE H
  refine dF tok tokM [] [3,5,9,11,12,13,14,15] [0,1,2,4,6,7,8,10,3,5,9,11,12,13,14,15] [0,10] (fun a J=>a=[(0,.ptr w0 r0_ 0),(10,.int .i64 (iadd .i64 p0.Pc 1))]/\J=hp E0 [(w0,some ⟨42,2,W0.set r0_ [.sl (N0+22) 0 p0.Regs.length,.int .i64 p0.Pc]⟩),(w2,some ⟨99,2,eL kF p2⟩),(w3,some ⟨t3_,s3_,W3.set r3_ (x3_.set i3_ (.osl 3 1 (eL rI p3)))⟩),(N0+8,some ⟨68,5,[[.int .i64 v1.Op,.int .i64 v1.Dst,.int .i64 v1.A,.int .i64 v1.B,.int .i64 v1.N]]⟩),(N0+22,some ⟨3,1,eL rI l10⟩)] (N0+39)) (by decide) (fun K hK=>?_) ?_
  .simp only[pickL,zN,zO]
   have e0:=nQ w0 w2
   have e1:=nQ w0 w3
   have e2:=nQ w0 (N0+8)
   have e3:=nQ w0 (N0+22)
   have e4:=nQ w2 w3
   have e5:=nQ w2 (N0+8)
   have e6:=nQ w2 (N0+22)
   have e7:=nQ w3 (N0+8)
   have e8:=nQ w3 (N0+22)
   refine m1 (j e0 (j e1 (j e2 (j e3 (j e4 (j e5 (j e6 (j e7 (j e8 (j gs_W0 (j gs_W3 (j gs_x3_ (j ws_x3_ (j wl_x3_ (j (ixo23 hv8) (j ((zG hv8).2.2) (j (ixo23 hv9) (j ((zG hv9).2.2) ((setx_iff.1 hl10).2.symm))))))))))))))))))) ?_
   exact hK _ _ ⟨rfl,rfl⟩
  rintro a J ⟨ha,rfl⟩
  (try rw[<- zE hl10] at ha);(try rw[<- zE hl10])
  replace H:=oi H
  refine hJ1 _ _ _ H.symm ?_;rw[ha]
  refine gP zI w0 r0_ 0 ?_ (hr:=by exact gs_W0 _)
  exact Rc.fin (zK (zK (zK (AHeap.Sub.trans (AHeap.Sub.refl _) (zT rfl (by simp;try omega)))))) ⟨N0+39,(by omega),(by first|rfl|exact rfl|omega),rfl,rfl⟩
 have e0:=nQ w0 w2
 have e1:=nQ w0 w3
 have e2:=nQ w0 (N0+8)
 have e3:=nQ w2 w3
 have e4:=nQ w2 (N0+8)
 have e5:=nQ w3 (N0+8)
 refine qB [0,2,3,9,10,26,55] (j e0 (j e1 (j e2 (j e3 (j e4 (j e5 (j gs_W0 (j gs_W3 (j gs_x3_ (j ws_x3_ wl_x3_)))))))))) ?_
 refine Ci H ?_ ?_<;>intro H
 .refine gU Wre w0 r0_ 0 ?_ (hr:=by exact gs_W0 _)
  obtain⟨v11,hv11,H⟩:=bE H
  obtain⟨v12,hv12,H⟩:=bE H
  obtain⟨r13,hr13,H⟩:=bE H
  obtain⟨v14,hv14,H⟩:=bE H
  obtain⟨l15,hl15,H⟩:=bE H
  refine AWP_ry tok tokM [] [3,5,7,11,13,14,15,19,21,22,23,24,25,26] [0,1,2,4,6,8,9,10,12,16,17,18,20,3,5,7,11,13,14,15,19,21,22,23,24,25,26] [(24,[3,5])] [0,10] (fun a J=>a=[(0,.ptr w0 r0_ 0),(10,.int .i64 (iadd .i64 p0.Pc 1))]/\J=hp E0 [(w0,some ⟨42,2,W0.set r0_ [.sl (N0+24) 0 p0.Regs.length,.int .i64 p0.Pc]⟩),(w2,some ⟨99,2,eL kF p2⟩),(w3,some ⟨t3_,s3_,W3.set r3_ (x3_.set i3_ (.osl 3 1 (eL rI p3)))⟩),(N0+8,some ⟨68,5,[[.int .i64 v1.Op,.int .i64 v1.Dst,.int .i64 v1.A,.int .i64 v1.B,.int .i64 v1.N]]⟩),(N0+24,some ⟨3,1,eL rI l15⟩)] (N0+52)) (by decide) (fun K hK=>?_) ?_
  .simp only[pickL,zN,zO]
   have e0:=nQ w0 w2
   have e1:=nQ w0 w3
   have e2:=nQ w0 (N0+8)
   have e3:=nQ w0 (N0+24)
   have e4:=nQ w2 w3
   have e5:=nQ w2 (N0+8)
   have e6:=nQ w2 (N0+24)
   have e7:=nQ w3 (N0+8)
   have e8:=nQ w3 (N0+24)
   refine m1 (j e0 (j e1 (j e2 (j e3 (j e4 (j e5 (j e6 (j e7 (j e8 (j gs_W0 (j gs_W3 (j gs_x3_ (j ws_x3_ (j wl_x3_ (j (ixo23 hv11) (j ((zG hv11).2.2) (j (ixo23 hv12) (j ((zG hv12).2.2) (j (ixo23 hv14) (j ((zG hv14).2.2) ((setx_iff.1 hl15).2.symm))))))))))))))))))))) ?_
   refine(c116 hr13).app (m1 (j e0 (j e1 (j e2 (j e3 (j e4 (j e5 (j e6 (j e7 (j e8 (j gs_W0 (j gs_W3 (j gs_x3_ (j ws_x3_ (j wl_x3_ (j (ixo23 hv11) (j ((zG hv11).2.2) (j (ixo23 hv12) (j ((zG hv12).2.2) (j (ixo23 hv14) (j ((zG hv14).2.2) ((setx_iff.1 hl15).2.symm))))))))))))))))))))) ?_)
   exact hK _ _ ⟨rfl,rfl⟩
  rintro a J ⟨ha,rfl⟩
  (try rw[<- zE hl15] at ha);(try rw[<- zE hl15])
  replace H:=oi H
  refine hJ1 _ _ _ H.symm ?_;rw[ha]
  refine gP zI w0 r0_ 0 ?_ (hr:=by exact gs_W0 _)
  exact Rc.fin (zK (zK (zK (AHeap.Sub.trans (AHeap.Sub.refl _) (zT rfl (by simp;try omega)))))) ⟨N0+52,(by omega),(by first|rfl|exact rfl|omega),rfl,rfl⟩
 have e0:=nQ w0 w2
 have e1:=nQ w0 w3
 have e2:=nQ w0 (N0+8)
 have e3:=nQ w2 w3
 have e4:=nQ w2 (N0+8)
 have e5:=nQ w3 (N0+8)
 refine qB [0,2,3,9,10,26,83] (j e0 (j e1 (j e2 (j e3 (j e4 (j e5 (j gs_W0 (j gs_W3 (j gs_x3_ (j ws_x3_ wl_x3_)))))))))) ?_
 refine Ci H ?_ ?_<;>intro H
 .have e0:=nQ w0 w2
  have e1:=nQ w0 w3
  have e2:=nQ w0 (N0+8)
  have e3:=nQ w2 w3
  have e4:=nQ w2 (N0+8)
  have e5:=nQ w3 (N0+8)
  refine Rt tok [] [0,10] (by intro K k;simp -dsimp -implicitDefEqProofs [e0,e1,e2,e3,e4,e5,gs_W0,gs_W3,gs_x3_,ws_x3_,wl_x3_];exact k) fun a ha=>?_
  replace H:=oi H
  refine hJ1 _ _ _ H.symm ?_;rw[ha]
  exact Rc.fin (zK (zK (zK (AHeap.Sub.trans (AHeap.Sub.refl _) (zT rfl (by simp;try omega)))))) ⟨N0+29,(by omega),(by first|rfl|exact rfl|omega),rfl,rfl⟩
 have e0:=nQ w0 w2
 have e1:=nQ w0 w3
 have e2:=nQ w0 (N0+8)
 have e3:=nQ w2 w3
 have e4:=nQ w2 (N0+8)
 have e5:=nQ w3 (N0+8)
 refine qB [0,2,3,9,10,26,87] (j e0 (j e1 (j e2 (j e3 (j e4 (j e5 (j gs_W0 (j gs_W3 (j gs_x3_ (j ws_x3_ wl_x3_)))))))))) ?_
 refine Ci H ?_ ?_<;>intro H
 .refine gU Wre w0 r0_ 0 ?_ (hr:=by exact gs_W0 _)
  obtain⟨v16,hv16,H⟩:=bE H
  refine Sd tok tokM [] [3,5,6,7] [0,1,2,4,3,5,6,7,8] [0,9,10,97] (by
   intro K k
   have e0:=nQ w0 w2
   have e1:=nQ w0 w3
   have e2:=nQ w0 (N0+8)
   have e3:=nQ w0 (N0+28)
   have e4:=nQ w2 w3
   have e5:=nQ w2 (N0+8)
   have e6:=nQ w2 (N0+28)
   have e7:=nQ w3 (N0+8)
   have e8:=nQ w3 (N0+28)
   simp only[pickL,zN,zO]
   refine m1 (j e0 (j e1 (j e2 (j e3 (j e4 (j e5 (j e6 (j e7 (j e8 (j gs_W0 (j gs_W3 (j gs_x3_ (j ws_x3_ (j wl_x3_ (j (ixo23 hv16) ((zG hv16).2.2)))))))))))))))) ?_
   exact k) ?_
  refine Ci H ?_ ?_<;>intro H
  .have e0:=nQ w0 w2
   have e1:=nQ w0 w3
   have e2:=nQ w0 (N0+8)
   have e3:=nQ w0 (N0+28)
   have e4:=nQ w2 w3
   have e5:=nQ w2 (N0+8)
   have e6:=nQ w2 (N0+28)
   have e7:=nQ w3 (N0+8)
   have e8:=nQ w3 (N0+28)
   refine Rt tok [] [0,10] (by intro K k;simp -dsimp -implicitDefEqProofs [e0,e1,e2,e3,e4,e5,e6,e7,e8,gs_W0,gs_W3,gs_x3_,ws_x3_,wl_x3_];exact k) fun a ha=>?_
   replace H:=oi H
   refine hJ1 _ _ _ H.symm ?_;rw[ha]
   refine gP zI w0 r0_ 0 ?_ (hr:=by exact gs_W0 _)
   exact Rc.fin (zK (zK (zK (AHeap.Sub.trans (AHeap.Sub.refl _) (zT rfl (by simp;try omega)))))) ⟨N0+41,(by omega),(by first|rfl|exact rfl|omega),rfl,rfl⟩
  refine Wsk ?_
  show K1 _ _
  refine kE [0,10] fun a' ha=>?_
  replace H:=oi H
  refine hJ1 _ _ _ H.symm ?_;rw[ha]
  refine gP zI w0 r0_ 0 ?_ (hr:=by exact gs_W0 _)
  exact Rc.fin (zK (zK (zK (AHeap.Sub.trans (AHeap.Sub.refl _) (zT rfl (by simp;try omega)))))) ⟨N0+38,(by omega),(by first|rfl|exact rfl|omega),rfl,rfl⟩
 have e0:=nQ w0 w2
 have e1:=nQ w0 w3
 have e2:=nQ w0 (N0+8)
 have e3:=nQ w2 w3
 have e4:=nQ w2 (N0+8)
 have e5:=nQ w3 (N0+8)
 refine qB [0,2,3,9,10,26,100] (j e0 (j e1 (j e2 (j e3 (j e4 (j e5 (j gs_W0 (j gs_W3 (j gs_x3_ (j ws_x3_ wl_x3_)))))))))) ?_
 refine Ci H ?_ ?_<;>intro H
 .refine gU Wre w0 r0_ 0 ?_ (hr:=by exact gs_W0 _)
  obtain⟨v18,hv18,H⟩:=bE H
  obtain⟨v19,hv19,H⟩:=bE H
  obtain⟨r20,hr20,H⟩:=bE H
  obtain⟨l21,hl21,H⟩:=bE H
  refine fH tok tokM [] [2,3,7,9,10,11,12] [0,1,4,5,6,8,2,3,7,9,10,11,12,13] [0,10,115] (fun a J=>∃M2:Nat,N0+45<=M2/\a=[(0,.ptr w0 r0_ 0),(10,.int .i64 (iadd .i64 p0.Pc 1)),(115,.bool (bnot r20.1))]/\J=hp E0 [(w0,some ⟨42,2,W0.set r0_ [.sl (N0+30) 0 p0.Regs.length,.int .i64 p0.Pc]⟩),(w2,some ⟨99,2,eL kF l21⟩),(w3,some ⟨t3_,s3_,W3.set r3_ (x3_.set i3_ (.osl 3 1 (eL rI p3)))⟩),(N0+8,some ⟨68,5,[[.int .i64 v1.Op,.int .i64 v1.Dst,.int .i64 v1.A,.int .i64 v1.B,.int .i64 v1.N]]⟩),(N0+30,some ⟨3,1,eL rI p0.Regs⟩)] M2) (by decide) (fun K hK=>?_) ?_
  .simp only[pickL,zN,zO]
   have e0:=nQ w0 w2
   have e1:=nQ w0 w3
   have e2:=nQ w0 (N0+8)
   have e3:=nQ w0 (N0+30)
   have e4:=nQ w2 w3
   have e5:=nQ w2 (N0+8)
   have e6:=nQ w2 (N0+30)
   have e7:=nQ w3 (N0+8)
   have e8:=nQ w3 (N0+30)
   refine m1 (j e0 (j e1 (j e2 (j e3 (j e4 (j e5 (j e6 (j e7 (j e8 (j gs_W0 (j gs_W3 (j gs_x3_ (j ws_x3_ (j wl_x3_ (j (ixo28 hv18) (j ((zG hv18).2.2) (j (ixo23 hv19) (j ((zG hv19).2.2) (j ((setx_iff.1 hl21).2.symm) @sI))))))))))))))))))) ?_
   refine mc (j e0 (j e1 (j e2 (j e3 (j e4 (j e5 (j e6 (j e7 (j e8 (j gs_W0 (j gs_W3 (j gs_x3_ (j ws_x3_ (j wl_x3_ (j (ixo28 hv18) (j ((zG hv18).2.2) (j (ixo23 hv19) (j ((zG hv19).2.2) (j ((setx_iff.1 hl21).2.symm) @sI))))))))))))))))))) (c117 (r0_:=v1.N.toNat) (H:=hr20)) fun M2 fM2_0=>?_
   refine m1 (j e0 (j e1 (j e2 (j e3 (j e4 (j e5 (j e6 (j e7 (j e8 (j gs_W0 (j gs_W3 (j gs_x3_ (j ws_x3_ (j wl_x3_ (j (ixo28 hv18) (j ((zG hv18).2.2) (j (ixo23 hv19) (j ((zG hv19).2.2) (j ((setx_iff.1 hl21).2.symm) (j @sI (j @hoS @hoN))))))))))))))))))))) ?_
   exact hK _ _ ⟨M2,(by omega),rfl,rfl⟩
  rintro a J ⟨M2,fM2_0,rfl,rfl⟩
  try rw[<- zE hl21]
  refine Ci H ?_ ?_<;>intro H
  .have e0:=nQ w0 w2
   have e1:=nQ w0 w3
   have e2:=nQ w0 (N0+8)
   have e3:=nQ w0 (N0+30)
   have e4:=nQ w2 w3
   have e5:=nQ w2 (N0+8)
   have e6:=nQ w2 (N0+30)
   have e7:=nQ w3 (N0+8)
   have e8:=nQ w3 (N0+30)
   refine qB [8] (j e0 (j e1 (j e2 (j e3 (j e4 (j e5 (j e6 (j e7 (j e8 (j gs_W0 (j gs_W3 (j gs_x3_ (j ws_x3_ wl_x3_))))))))))))) ?_
   obtain⟨z,hz,H⟩:=bE H
   obtain rfl:=oi H;dsimp only at Gj1;obtain rfl:=oi Gj1;have H:=hz
   obtain rfl:=oi H
   refine Kp [8] ?_
   refine gP Wre w0 r0_ 0 ?_ (hr:=by exact gs_W0 _)
   have z3:=nQ w0 w2
   have z4:=nQ w0 w3
   have z5:=nQ w0 (N0+8)
   have z6:=nQ w2 w3
   have z7:=nQ w2 (N0+8)
   have z8:=nQ w3 (N0+8)
   refine gDrop Wre [(w0,some ⟨42,2,W0.set r0_ [.osl 3 1 (eL rI p0.Regs),.int .i64 p0.Pc]⟩),(w2,some ⟨99,2,eL kF l21⟩),(w3,some ⟨t3_,s3_,W3.set r3_ (x3_.set i3_ (.osl 3 1 (eL rI p3)))⟩)] (zK (zK (zK (AHeap.Sub.trans (AHeap.Sub.refl _) (zT rfl (by simp;try omega)))))) ?_
   refine Wr ?_
   refine⟨[.int .i64 3],by simp[z3,z4,z5,z6,z7,z8,gs_W0,gs_W3,gs_x3_,ws_x3_,wl_x3_],M2+1,by omega,by first|rfl|exact(zE hl21)|omega,?_,?_⟩
   .simp[eN]
   first|rfl|simp
  refine Wsk ?_
  show K1 _ _
  refine kE [0,10] fun a' ha=>?_
  replace H:=oi H
  refine hJ1 _ _ _ H.symm ?_;rw[ha]
  refine gP zI w0 r0_ 0 ?_ (hr:=by exact gs_W0 _)
  exact Rc.fin (zK (zK (zK (AHeap.Sub.trans (AHeap.Sub.refl _) (zT rfl (by simp;try omega)))))) ⟨M2,(by omega),(by first|rfl|exact(zE hl21)|omega),rfl,rfl⟩
 have e0:=nQ w0 w2
 have e1:=nQ w0 w3
 have e2:=nQ w0 (N0+8)
 have e3:=nQ w2 w3
 have e4:=nQ w2 (N0+8)
 have e5:=nQ w3 (N0+8)
 refine qB [0,2,3,9,10,26,116] (j e0 (j e1 (j e2 (j e3 (j e4 (j e5 (j gs_W0 (j gs_W3 (j gs_x3_ (j ws_x3_ wl_x3_)))))))))) ?_
 refine Ci H ?_ ?_<;>intro H
 .obtain⟨v22,hv22,H⟩:=bE H
  obtain⟨r23,hr23,H⟩:=bE H
  obtain⟨l24,hl24,H⟩:=bE H
  refine Sm tok [] [0,9,10,11,12] (N0+42) (by
   intro K k
   have e0:=nQ w0 w2
   have e1:=nQ w0 w3
   have e2:=nQ w0 (N0+8)
   have e3:=nQ w2 w3
   have e4:=nQ w2 (N0+8)
   have e5:=nQ w3 (N0+8)
   refine m1 (j e0 (j e1 (j e2 (j e3 (j e4 (j e5 (j gs_W0 (j gs_W3 (j gs_x3_ (j ws_x3_ (j wl_x3_ (j (ixo28 hv22) (j ((zG hv22).2.2) (j ((setx_iff.1 hl24).2.symm) @sI)))))))))))))) ?_
   refine mc (j e0 (j e1 (j e2 (j e3 (j e4 (j e5 (j gs_W0 (j gs_W3 (j gs_x3_ (j ws_x3_ (j wl_x3_ (j (ixo28 hv22) (j ((zG hv22).2.2) (j ((setx_iff.1 hl24).2.symm) @sI)))))))))))))) (c118 (r0_:=v1.N.toNat) (H:=hr23)) fun M3 fM3_0=>?_
   refine m1 (j e0 (j e1 (j e2 (j e3 (j e4 (j e5 (j gs_W0 (j gs_W3 (j gs_x3_ (j ws_x3_ (j wl_x3_ (j (ixo28 hv22) (j ((zG hv22).2.2) (j ((setx_iff.1 hl24).2.symm) (j @sI (j @hoS @hoN)))))))))))))))) ?_
   exact k M3 (by omega)) fun M3 fM3_0=>?_
  try rw[<- zE hl24]
  refine Wsq [0,9,10,11] fun K2 hK2=>?_
  have e0:=nQ w0 w2
  have e1:=nQ w0 w3
  have e2:=nQ w0 (N0+8)
  have e3:=nQ w2 w3
  have e4:=nQ w2 (N0+8)
  have e5:=nQ w3 (N0+8)
  refine qB [0,9,10,11,127] (j e0 (j e1 (j e2 (j e3 (j e4 (j e5 (j gs_W0 (j gs_W3 (j gs_x3_ (j ws_x3_ wl_x3_)))))))))) ?_
  refine Ci H ?_ ?_<;>intro H
  .have e0:=nQ w0 w2
   have e1:=nQ w0 w3
   have e2:=nQ w0 (N0+8)
   have e3:=nQ w2 w3
   have e4:=nQ w2 (N0+8)
   have e5:=nQ w3 (N0+8)
   refine qB [8] (j e0 (j e1 (j e2 (j e3 (j e4 (j e5 (j gs_W0 (j gs_W3 (j gs_x3_ (j ws_x3_ wl_x3_)))))))))) ?_
   obtain⟨z,hz,H⟩:=bE H
   obtain rfl:=oi H;dsimp only at Gj1;obtain rfl:=oi Gj1;have H:=hz
   obtain rfl:=oi H
   refine Kp [8] ?_
   have z9:=nQ w0 w2
   have z10:=nQ w0 w3
   have z11:=nQ w0 (N0+8)
   have z12:=nQ w2 w3
   have z13:=nQ w2 (N0+8)
   have z14:=nQ w3 (N0+8)
   refine gDrop Wre [(w0,some ⟨42,2,W0.set r0_ [.osl 3 1 (eL rI p0.Regs),.int .i64 p0.Pc]⟩),(w2,some ⟨99,2,eL kF l24⟩),(w3,some ⟨t3_,s3_,W3.set r3_ (x3_.set i3_ (.osl 3 1 (eL rI p3)))⟩)] (zK (zK (zK (AHeap.Sub.trans (AHeap.Sub.refl _) (zT rfl (by simp;try omega)))))) ?_
   refine Wr ?_
   refine⟨[.int .i64 3],by simp[z9,z10,z11,z12,z13,z14,gs_W0,gs_W3,gs_x3_,ws_x3_,wl_x3_],M3+3,by omega,by first|rfl|exact(zE hl24)|omega,?_,?_⟩
   .simp[eN]
   first|rfl|simp
  refine Js hK2 ?_
  refine gU Wre w0 r0_ 0 ?_ (hr:=by exact gs_W0 _)
  obtain⟨v25,hv25,H⟩:=bE H
  obtain⟨l26,hl26,H⟩:=bE H
  refine dF tok tokM [] [3,5,7,8] [0,1,2,4,6,3,5,7,8] [0,10] (fun a J=>a=[(0,.ptr w0 r0_ 0),(10,.int .i64 (iadd .i64 p0.Pc 1))]/\J=hp E0 [(w0,some ⟨42,2,W0.set r0_ [.sl (M3+2) 0 p0.Regs.length,.int .i64 p0.Pc]⟩),(w2,some ⟨99,2,eL kF l24⟩),(w3,some ⟨t3_,s3_,W3.set r3_ (x3_.set i3_ (.osl 3 1 (eL rI p3)))⟩),(N0+8,some ⟨68,5,[[.int .i64 v1.Op,.int .i64 v1.Dst,.int .i64 v1.A,.int .i64 v1.B,.int .i64 v1.N]]⟩),(M3+2,some ⟨3,1,eL rI l26⟩)] (M3+12)) (by decide) (fun K hK=>?_) ?_
  .simp only[pickL,zN,zO]
   have e0:=nQ w0 w2
   have e1:=nQ w0 w3
   have e2:=nQ w0 (N0+8)
   have e3:=nQ w0 (M3+2)
   have e4:=nQ w2 w3
   have e5:=nQ w2 (N0+8)
   have e6:=nQ w2 (M3+2)
   have e7:=nQ w3 (N0+8)
   have e8:=nQ w3 (M3+2)
   have e9:=nQ (N0+8) (M3+2)
   have e10:=nQ (N0+6) M3
   refine m1 (j e0 (j e1 (j e2 (j e3 (j e4 (j e5 (j e6 (j e7 (j e8 (j e9 (j e10 (j gs_W0 (j gs_W3 (j gs_x3_ (j ws_x3_ (j wl_x3_ (j (ixo23 hv25) (j ((zG hv25).2.2) ((setx_iff.1 hl26).2.symm))))))))))))))))))) ?_
   exact hK _ _ ⟨rfl,rfl⟩
  rintro a J ⟨ha,rfl⟩
  (try rw[<- zE hl26] at ha);(try rw[<- zE hl26])
  replace H:=oi H
  refine hJ1 _ _ _ H.symm ?_;rw[ha]
  refine gP zI w0 r0_ 0 ?_ (hr:=by exact gs_W0 _)
  exact Rc.fin (zK (zK (zK (AHeap.Sub.trans (AHeap.Sub.refl _) (zT rfl (by simp;try omega)))))) ⟨M3+12,(by omega),(by first|rfl|exact(zE hl24)|omega),rfl,rfl⟩
 have e0:=nQ w0 w2
 have e1:=nQ w0 w3
 have e2:=nQ w0 (N0+8)
 have e3:=nQ w2 w3
 have e4:=nQ w2 (N0+8)
 have e5:=nQ w3 (N0+8)
 refine qB [0,3,9,10,26,136] (j e0 (j e1 (j e2 (j e3 (j e4 (j e5 (j gs_W0 (j gs_W3 (j gs_x3_ (j ws_x3_ wl_x3_)))))))))) ?_
 refine Ci H ?_ ?_<;>intro H
 .have e0:=nQ w0 w2
  have e1:=nQ w0 w3
  have e2:=nQ w0 (N0+8)
  have e3:=nQ w2 w3
  have e4:=nQ w2 (N0+8)
  have e5:=nQ w3 (N0+8)
  refine qB [] (j e0 (j e1 (j e2 (j e3 (j e4 (j e5 (j gs_W0 (j gs_W3 (j gs_x3_ (j ws_x3_ wl_x3_)))))))))) ?_
  have e0:=nQ w0 w2
  have e1:=nQ w0 w3
  have e2:=nQ w0 (N0+8)
  have e3:=nQ w2 w3
  have e4:=nQ w2 (N0+8)
  have e5:=nQ w3 (N0+8)
  refine qB [8] (j e0 (j e1 (j e2 (j e3 (j e4 (j e5 (j gs_W0 (j gs_W3 (j gs_x3_ (j ws_x3_ wl_x3_)))))))))) ?_
  obtain⟨z,hz,H⟩:=bE H
  cases oj H;dsimp only at Gj1;obtain rfl:=oi Gj1;have H:=hz
  cases oj H
  refine Kp [8] ?_
  have z15:=nQ w0 w2
  have z16:=nQ w0 w3
  have z17:=nQ w0 (N0+8)
  have z18:=nQ w2 w3
  have z19:=nQ w2 (N0+8)
  have z20:=nQ w3 (N0+8)
  refine gDrop Wre [(w0,some ⟨42,2,W0.set r0_ [.osl 3 1 (eL rI p0.Regs),.int .i64 (iadd .i64 p0.Pc 1)]⟩),(w2,some ⟨99,2,eL kF p2⟩),(w3,some ⟨t3_,s3_,W3.set r3_ (x3_.set i3_ (.osl 3 1 (eL rI p3)))⟩)] (zK (zK (zK (AHeap.Sub.trans (AHeap.Sub.refl _) (zT rfl (by simp;try omega)))))) ?_
  refine Wr ?_
  refine⟨[.int .i64 2],by simp[z15,z16,z17,z18,z19,z20,gs_W0,gs_W3,gs_x3_,ws_x3_,wl_x3_],N0+40,by omega,by first|rfl|exact rfl|omega,?_,?_⟩
  .simp[eN]
  first|rfl|simp
 have e0:=nQ w0 w2
 have e1:=nQ w0 w3
 have e2:=nQ w0 (N0+8)
 have e3:=nQ w2 w3
 have e4:=nQ w2 (N0+8)
 have e5:=nQ w3 (N0+8)
 refine qB [0,3,9,10,26,142] (j e0 (j e1 (j e2 (j e3 (j e4 (j e5 (j gs_W0 (j gs_W3 (j gs_x3_ (j ws_x3_ wl_x3_)))))))))) ?_
 refine Ci H ?_ ?_<;>intro H
 .refine gUnp Wre (ty:=3) (sz:=1) (es:=eL rI p3) (o:=w3) (ob:=⟨t3_,s3_,W3.set r3_ (x3_.set i3_ (.osl 3 1 (eL rI p3)))⟩) (row:=x3_.set i3_ (.osl 3 1 (eL rI p3))) (r:=r3_) (i:=i3_) [(w0,some ⟨42,2,W0.set r0_ [.osl 3 1 (eL rI p0.Regs),.int .i64 p0.Pc]⟩),(w2,some ⟨99,2,eL kF p2⟩),(w3,some ⟨t3_,s3_,W3.set r3_ (x3_.set i3_ (.sl (N0+36) 0 p3.length))⟩),(N0+8,some ⟨68,5,[[.int .i64 v1.Op,.int .i64 v1.Dst,.int .i64 v1.A,.int .i64 v1.B,.int .i64 v1.N]]⟩),(N0+36,some ⟨3,1,eL rI p3⟩)] (by simp(disch:=omega)) (by simp(disch:=omega) [gs_W3]) (by simp(disch:=omega) [gs_x3_]) (by simp(disch:=omega)) ?_
  refine gU Wre w0 r0_ 0 ?_ (hr:=by exact gs_W0 _)
  obtain⟨v27,hv27,H⟩:=bE H
  obtain⟨l28,hl28,H⟩:=bE H
  have q0:∀J i,bsA T 23 true i 1 [(0,.int .i64 v27)] J=some (.fsl (eL rI ([v27]:List Int)),J):=fun _ _=>rfl
  refine AWP_ry tok tokM [12] [3,7,9,10,11,12,13,15] [0,1,2,4,5,6,8,3,7,9,10,11,12,13,14,15] [(12,[3])] [0,10] (fun a J=>a=[(0,.ptr w0 r0_ 0),(10,.int .i64 (iadd .i64 p0.Pc 1))]/\J=hp E0 [(w0,some ⟨42,2,W0.set r0_ [.sl (N0+37) 0 p0.Regs.length,.int .i64 p0.Pc]⟩),(w2,some ⟨99,2,eL kF p2⟩),(w3,some ⟨t3_,s3_,W3.set r3_ (x3_.set i3_ (.sl (N0+51) 0 l28.length))⟩),(N0+8,some ⟨68,5,[[.int .i64 v1.Op,.int .i64 v1.Dst,.int .i64 v1.A,.int .i64 v1.B,.int .i64 v1.N]]⟩),(N0+37,some ⟨3,1,eL rI p0.Regs⟩),(N0+51,some ⟨3,1,eL rI l28⟩)] (N0+54)) (by decide) (fun K hK=>?_) ?_
  .simp only[pickL,zN,zO]
   have e0:=nQ w0 w2
   have e1:=nQ w0 w3
   have e2:=nQ w0 (N0+8)
   have e3:=nQ w0 (N0+36)
   have e4:=nQ w0 (N0+37)
   have e5:=nQ w0 (N0+51)
   have e6:=nQ w2 w3
   have e7:=nQ w2 (N0+8)
   have e8:=nQ w2 (N0+36)
   have e9:=nQ w2 (N0+37)
   have e10:=nQ w2 (N0+51)
   have e11:=nQ w3 (N0+8)
   have e12:=nQ w3 (N0+36)
   have e13:=nQ w3 (N0+37)
   have e14:=nQ w3 (N0+51)
   refine m1 (j e0 (j e1 (j e2 (j e3 (j e4 (j e5 (j e6 (j e7 (j e8 (j e9 (j e10 (j e11 (j e12 (j e13 (j e14 (j gs_W0 (j gs_W3 (j gs_x3_ (j ws_x3_ (j wl_x3_ (j (ixo23 hv27) (j ((zG hv27).2.2) (j q0 (app23 hl28)))))))))))))))))))))))) ?_
   exact hK _ _ ⟨rfl,rfl⟩
  rintro a J ⟨ha,rfl⟩
  replace H:=oi H
  refine hJ1 _ _ _ H.symm ?_;rw[ha]
  refine gP zI w0 r0_ 0 ?_ (hr:=by exact gs_W0 _)
  refine gPk zI (k:=l28.length) (o:=w3) (ob:=⟨t3_,s3_,W3.set r3_ (x3_.set i3_ (.sl (N0+51) 0 l28.length))⟩) (row:=x3_.set i3_ (.sl (N0+51) 0 l28.length)) (d:=(N0+51)) (obd:=⟨3,1,eL rI l28⟩) (r:=r3_) (i:=i3_) [(w0,some ⟨42,2,W0.set r0_ [.osl 3 1 (eL rI p0.Regs),.int .i64 p0.Pc]⟩),(w2,some ⟨99,2,eL kF p2⟩),(w3,some ⟨t3_,s3_,W3.set r3_ (x3_.set i3_ (.osl 3 1 (eL rI l28)))⟩),(N0+8,some ⟨68,5,[[.int .i64 v1.Op,.int .i64 v1.Dst,.int .i64 v1.A,.int .i64 v1.B,.int .i64 v1.N]]⟩)] (by simp(disch:=omega)) (by simp(disch:=omega) [gs_W3]) (by simp(disch:=omega) [gs_x3_]) (by simp(disch:=omega)) (by simp(disch:=omega)) (by first|omega|simp) (by simp(disch:=omega) [fE]<;>omega) (by simp(disch:=omega) [fE]) ?_
  exact Rc.fin (zK (zK (zK (AHeap.Sub.trans (AHeap.Sub.refl _) (zT rfl (by simp;try omega)))))) ⟨N0+54,(by omega),(by first|rfl|exact rfl|omega),rfl,rfl⟩
 have e0:=nQ w0 w2
 have e1:=nQ w0 w3
 have e2:=nQ w0 (N0+8)
 have e3:=nQ w2 w3
 have e4:=nQ w2 (N0+8)
 have e5:=nQ w3 (N0+8)
 refine qB [0,10,159] (j e0 (j e1 (j e2 (j e3 (j e4 (j e5 (j gs_W0 (j gs_W3 (j gs_x3_ (j ws_x3_ wl_x3_)))))))))) ?_
 refine Ci H ?_ ?_<;>intro H
 .have e0:=nQ w0 w2
  have e1:=nQ w0 w3
  have e2:=nQ w0 (N0+8)
  have e3:=nQ w2 w3
  have e4:=nQ w2 (N0+8)
  have e5:=nQ w3 (N0+8)
  refine qB [8] (j e0 (j e1 (j e2 (j e3 (j e4 (j e5 (j gs_W0 (j gs_W3 (j gs_x3_ (j ws_x3_ wl_x3_)))))))))) ?_
  obtain⟨z,hz,H⟩:=bE H
  cases oj H;dsimp only at Gj1;obtain rfl:=oi Gj1;have H:=hz
  cases oj H
  refine Kp [8] ?_
  have z21:=nQ w0 w2
  have z22:=nQ w0 w3
  have z23:=nQ w0 (N0+8)
  have z24:=nQ w2 w3
  have z25:=nQ w2 (N0+8)
  have z26:=nQ w3 (N0+8)
  refine gDrop Wre [(w0,some ⟨42,2,W0.set r0_ [.osl 3 1 (eL rI p0.Regs),.int .i64 p0.Pc]⟩),(w2,some ⟨99,2,eL kF p2⟩),(w3,some ⟨t3_,s3_,W3.set r3_ (x3_.set i3_ (.osl 3 1 (eL rI p3)))⟩)] (zK (zK (zK (AHeap.Sub.trans (AHeap.Sub.refl _) (zT rfl (by simp;try omega)))))) ?_
  refine Wr ?_
  refine⟨[.int .i64 4],by simp[z21,z22,z23,z24,z25,z26,gs_W0,gs_W3,gs_x3_,ws_x3_,wl_x3_],N0+39,by omega,by first|rfl|exact rfl|omega,?_,?_⟩
  .simp[eN]
  first|rfl|simp
 refine Wsk ?_
 show K1 _ _
 refine kE [0,10] fun a' ha=>?_
 replace H:=oi H
 refine hJ1 _ _ _ H.symm ?_;rw[ha]
 exact Rc.fin (zK (zK (zK (AHeap.Sub.trans (AHeap.Sub.refl _) (zT rfl (by simp;try omega)))))) ⟨N0+38,(by omega),(by first|rfl|exact rfl|omega),rfl,rfl⟩
end Go.Proofs.YtnaikeccpnadgaaGreat
