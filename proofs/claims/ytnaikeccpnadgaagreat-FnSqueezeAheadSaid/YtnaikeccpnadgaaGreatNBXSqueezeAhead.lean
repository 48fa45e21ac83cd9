/- The contracts of functions of the program (BXSqueezeAhead): each computes what its mirror computes. No conditions. -/
import Derived.Test.YtnaikeccpnadgaaGreatNBNSqueezeAhead
import Derived.Test.YtnaikeccpnadgaaGreatNBT3
set_option linter.unusedSimpArgs false
set_option linter.unusedVariables false
set_option maxRecDepth 20000
set_option maxHeartbeats 4000000
namespace Go.Proofs.YtnaikeccpnadgaaGreat
open Go Go.Abs Go.RowKit Tryz

theorem c60 {p0:List gQuad}{r:List Bool}(H:jE p0=some r):APure Tryz.prog G 60 [.fsl (eL rQuad p0)] (.fsl (eL rB r)):=by
 refine qK func60 ntmps60 results60 fun N0=>?_
 unfold jE at H
 refine qA [0] ?_
 refine Wsq [0] fun K1 hK1=>?_
 obtain⟨r1,hr1,H⟩:=bE H
 refine qD [0,10] (c46 hr1) ?_
 refine Ci H ?_ ?_<;>intro H
 .refine qA [2] ?_
  cases oj H;exact W4
 refine Js hK1 ?_
 obtain⟨l2,hl2,H⟩:=bE H
 refine qB [0,3] (mak38 hl2) ?_
 obtain⟨v3,hv3,H⟩:=bE H
 obtain⟨l4,hl4,H⟩:=bE H
 refine qB [0,3] (j (ixo38 hv3) (j (show _[0]? =some v3 from(zG hv3).2.2) (show List.set _ 0 _=l4 from(setx_iff.1 hl4).2.symm))) ?_
 try rw[<- zE hl4]
 refine Wsq [3] fun K2 hK2=>?_
 obtain⟨l5,hl5,H⟩:=bE H
 have q0:∀J i,bsA T 23 false i 1 [(0,.int .i64 0)] J=some (.sl i 0 (List.length l5),J.put i ⟨3,1,eL rI l5⟩):=by rw[<- Option.some.inj hl5];exact fun _ _=>rfl
 refine qB [0,3,4] q0 ?_
 refine Wb ?_
 obtain⟨e2,hse2,H⟩:=bE H
 refine zS [0,3,4] (fun s a J=>∃M1 o1 o2:Nat,N0<=M1/\N0<=o1/\o1<M1/\N0<=o2/\o2<M1/\¬o1=o2/\a=[(0,.fsl (eL rQuad p0)),(3,.sl o1 0 s.1.length),(4,.sl o2 0 s.2.length)]/\J=hp E0 [(o1,some ⟨4,1,eL rB s.1⟩),(o2,some ⟨3,1,eL rI s.2⟩)] M1) (fun s x a J=>x=.exit 0/\Rc G 56 N0 (fun a J=>∃M2 o3:Nat,N0<=M2/\N0<=o3/\o3<M2/\a=[(3,.sl o3 0 s.length)]/\J=hp E0 [(o3,some ⟨4,1,eL rB s⟩)] M2) (AAct.keep a [3]) J) hse2 ?_ ?_ ?_
 .refine kp [0,3,4] ?_
  exact R3 (N0+13) (N0+6) (N0+11)
 .clear H hse2
  rintro⟨s6,s7⟩ fl a J H ⟨M1,o1,o2,fM1_0,fM1_1,fM1_2,fM1_3,fM1_4,fM1_5,rfl,rfl⟩ K3 O3 hK3 hO3
  unfold wA at H;dsimp only at H
  refine Wsq [0,3,4] fun K4 hK4=>?_
  have e0:=nQ o1 o2
  refine qB [0,3,4,19] e0 ?_
  refine Ci H ?_ ?_<;>intro H
  .refine Js hK4 ?_
   refine Wb ?_
   obtain⟨v9,hv9,H⟩:=bE H
   have e0:=nQ o1 o2
   refine qB [0,3,4,5] (j e0 (j (ixo23 hv9) ((zG hv9).2.2))) ?_
   obtain⟨l10,hl10,H⟩:=bE H
   have e0:=nQ o1 o2
   refine qC [0,3,4,5] e0 (cutoh_23 hl10) ?_
   refine gTrunc Wre (o:=o2) (ob:=⟨3,1,eL rI s7⟩) l10.length [(o1,some ⟨4,1,eL rB s6⟩),(o2,some ⟨3,1,eL rI l10⟩)] (by simp(disch:=omega)) (by simp(disch:=omega) [cut_take hl10]) ?_
   obtain⟨v11,hv11,H⟩:=bE H
   obtain⟨r12,hr12,H⟩:=bE H
   have e0:=nQ o1 o2
   refine qE [0,3,4,36,37,38] (j e0 (ix34 hv11)) (c92 hr12) ?_
   refine Wb ?_
   obtain⟨e1,hse1,H⟩:=bE H
   refine zS [0,3,4,36,37,38] (fun s a J=>∃M3 o4 o5:Nat,N0<=M3/\N0<=o4/\o4<M3/\N0<=o5/\o5<M3/\¬o4=o5/\a=[(0,.fsl (eL rQuad p0)),(3,.sl o4 0 s.2.1.length),(4,.sl o5 0 s.2.2.length),(36,.fsl (eL rI r12)),(37,.int .i64 (ilen r12)),(38,.int .i64 s.1)]/\J=hp E0 [(o4,some ⟨4,1,eL rB s.2.1⟩),(o5,some ⟨3,1,eL rI s.2.2⟩)] M3) (fun s x a J=>x=.exit 2/\Rc G 56 N0 (fun a J=>∃M4 o6 o7:Nat,N0<=M4/\N0<=o6/\o6<M4/\N0<=o7/\o7<M4/\¬o6=o7/\a=[(0,.fsl (eL rQuad p0)),(3,.sl o6 0 s.1.length),(4,.sl o7 0 s.2.length)]/\J=hp E0 [(o6,some ⟨4,1,eL rB s.1⟩),(o7,some ⟨3,1,eL rI s.2⟩)] M4) (AAct.keep a [0,3,4]) J) hse1 ?_ ?_ ?_
   .refine kp [0,3,4,36,37,38] ?_
    exact R3 (M1+24) o1 o2
   .clear H hse1
    rintro⟨s13,s14,s15⟩ fl a J H ⟨M3,o4,o5,fM3_0,fM3_1,fM3_2,fM3_3,fM3_4,fM3_5,rfl,rfl⟩ K5 O5 hK5 hO5
    unfold xZ at H;dsimp only at H
    have e0:=nQ o4 o5
    refine qB [0,3,4,36,37,38,39] e0 ?_
    refine Wsq [0,3,4,36,37,38] fun K6 hK6=>?_
    refine Ci H ?_ ?_<;>intro H
    .refine Js hK6 ?_
     refine Wsq [0,3,4,36,37,38] fun K7 hK7=>?_
     refine Wb ?_
     obtain⟨v18,hv18,H⟩:=bE H
     have e0:=nQ o4 o5
     refine qC [0,3,4,7,36,37,38] e0 (ix23 hv18) ?_
     obtain⟨v19,hv19,H⟩:=bE H
     have e0:=nQ o4 o5
     refine qB [0,3,4,7,36,37,38,46] (j e0 (j (ixo38 hv19) ((zG hv19).2.2))) ?_
     refine Ci H ?_ ?_<;>intro H
     .obtain⟨l20,hl20,H⟩:=bE H
      have e0:=nQ o4 o5
      refine qB [0,3,4,7,36,37,38] (j e0 (j (ixo38 hv19) (j ((zG hv19).2.2) ((setx_iff.1 hl20).2.symm)))) ?_
      try rw[<- zE hl20]
      obtain⟨l21,hl21,H⟩:=bE H
      have q1:∀J i,bsA T 23 true i 1 [(0,.int .i64 v18)] J=some (.fsl (eL rI ([v18]:List Int)),J):=fun _ _=>rfl
      have e0:=nQ o4 o5
      have e1:=nQ o4 (M3+16)
      have e2:=nQ o5 (M3+16)
      refine Rb tok [2] (j e0 (j e1 (j e2 (j q1 (app23 hl21))))) hK7 ?_
      have e0:=nQ o4 (M3+16)
      obtain rfl:=oi H
      refine qJ e0 hK5 ?_
      exact R3 (M3+20) o4 (M3+16)
     refine Js hK7 ?_
     have e0:=nQ o4 o5
     obtain rfl:=oi H
     refine qJ e0 hK5 ?_
     exact R3 (M3+11) o4 o5
    cases oj H
    refine zH (hO5 _ _ _ _ rfl ⟨rfl,?_⟩)
    refine kr ?_
    exact R3 (M3+1) o4 o5
   intro x a J hx
   obtain⟨y16,y17⟩:=e1
   obtain⟨rfl,b,U,hr,M4,o6,o7,fM4_0,fM4_1,fM4_2,fM4_3,fM4_4,fM4_5,rfl,rfl⟩:=hx
   (try dsimp only at H)
   show K3 _ _
   cases oj H
   refine hK3 _ _ _ rfl (zI hr ?_)
   exact R3 M4 o6 o7
  cases oj H
  refine zH (hO3 _ _ _ _ rfl ⟨rfl,?_⟩)
  refine kr ?_
  exact Rc.fin (zK (AHeap.Sub.trans (AHeap.Sub.refl _) (zT rfl (by simp;try omega)))) ⟨M1+3,o1,(by omega),(by omega),(by omega),rfl,rfl⟩
 intro x a J hx
 obtain⟨y8,rfl⟩:∃x,x=e2:=⟨_,rfl⟩
 obtain⟨rfl,b,U,hr,M2,o3,fM2_0,fM2_1,fM2_2,rfl,rfl⟩:=hx
 (try dsimp only at H)
 show K2 _ _
 refine hK2 _ _ (zI hr ?_)
 refine Rc.mk ?_
 refine qA [2] ?_
 cases oj H;exact W4

theorem c62 {p0:gQuad}{r:Bool}(H:jC p0=some r):APure Tryz.prog G 62 [.agg [.int .i64 p0.Op,.int .i64 p0.Dst,.int .i64 p0.A,.int .i64 p0.B,.int .i64 p0.N]] (.bool r):=by
 refine qK func62 ntmps62 results62 fun N0=>?_
 unfold jC at H
 refine S0 tok [0] [1] ?_
 obtain⟨g1,hg1,H⟩:=bE H
 refine qF tok [2] ([(2,.bool g1)]) (hp E0 [] (N0+11)) (by
  intro K k
  refine m0 ?_
  cases hbg1:ieq p0.Op 4
  .cases oj (ifF hbg1 hg1)
   exact m1 hbg1 k
  cases oj (ifT hbg1 hg1)
  refine m1 hbg1 ?_
  exact k) ?_
 cases oj H;exact W4

theorem c61 {p0:gQuad}{p1:Int}{r:Bool}(H:jZ p0 p1=some r):APure Tryz.prog G 61 [.agg [.int .i64 p0.Op,.int .i64 p0.Dst,.int .i64 p0.A,.int .i64 p0.B,.int .i64 p0.N],.int .i64 p1] (.bool r):=by
 refine qK func61 ntmps61 results61 fun N0=>?_
 unfold jZ at H
 refine S0 tok [0] [1,2] ?_
 obtain⟨r1,hr1,H⟩:=bE H
 obtain⟨g2,hg2,H⟩:=bE H
 obtain⟨g4,hg4,H⟩:=bE H
 refine qF tok [4] ([(4,.bool g4)]) (hp E0 [] (N0+26)) (by
  intro K k
  refine m0 ?_
  refine(c62 hr1).app (m0 ?_)
  cases hbg2:r1
  .cases oj (ifF hbg2 hg2)
   refine m1 hbg2 ?_
   cases hbg4:bnot false
   .cases oj (ifF hbg4 hg4)
    exact m2 hbg2 hbg4 k
   replace hg4:=ifT hbg4 hg4
   obtain⟨g3,hg3,hg4⟩:=bE hg4
   cases oj hg4
   refine m2 hbg2 hbg4 ?_
   cases hbg3:ieq p0.Op 2
   .cases oj (ifF hbg3 hg3)
    exact m1 (j hbg2 (j hbg4 hbg3)) k
   cases oj (ifT hbg3 hg3)
   exact m1 (j hbg2 (j hbg4 hbg3)) k
  cases oj (ifT hbg2 hg2)
  refine m1 hbg2 ?_
  cases hbg4:bnot (ieq p0.N (iadd .i64 p1 1))
  .cases oj (ifF hbg4 hg4)
   exact m2 hbg2 hbg4 k
  replace hg4:=ifT hbg4 hg4
  obtain⟨g3,hg3,hg4⟩:=bE hg4
  cases oj hg4
  refine m2 hbg2 hbg4 ?_
  cases hbg3:ieq p0.Op 2
  .cases oj (ifF hbg3 hg3)
   exact m1 (j hbg2 (j hbg4 hbg3)) k
  cases oj (ifT hbg3 hg3)
  refine m1 (j hbg2 (j hbg4 hbg3)) ?_
  exact k) ?_
 cases oj H;exact W4

theorem c27 {p0:List gQuad}{r:(List gQuad)×Bool}(H:kP p0=some r):APure Tryz.prog G 27 [.fsl (eL rQuad p0)] (.tup [.fsl (eL rQuad r.1),.bool r.2]):=by
 refine qK func27 ntmps27 results27 fun N0=>?_
 unfold kP at H
 refine qA [0] ?_
 refine Wsq [0] fun K1 hK1=>?_
 obtain⟨r1,hr1,H⟩:=bE H
 refine qD [0,12] (c46 hr1) ?_
 refine Ci H ?_ ?_<;>intro H
 .refine qA [2,3] ?_
  cases oj H;exact W4
 refine Js hK1 ?_
 obtain⟨l2,hl2,H⟩:=bE H
 refine qB [0,4] (mak23 hl2) ?_
 refine qA [0,4,5] ?_
 refine Wsq [4,5] fun K2 hK2=>?_
 obtain⟨r3,hr3,H⟩:=bE H
 refine qD [0,4,5,17,18,19] (c60 hr3) ?_
 refine Wb ?_
 obtain⟨e1,hse1,H⟩:=bE H
 refine zS [0,4,5,17,18,19] (fun s a J=>∃M1 o1 o2:Nat,N0<=M1/\N0<=o1/\o1<M1/\N0<=o2/\o2<M1/\¬o1=o2/\a=[(0,.fsl (eL rQuad p0)),(4,.sl o1 0 s.2.1.length),(5,.sl o2 0 s.2.2.length),(17,.fsl (eL rB r3)),(18,.int .i64 (ilen r3)),(19,.int .i64 s.1)]/\J=hp E0 [(o1,some ⟨3,1,eL rI s.2.1⟩),(o2,some ⟨68,5,eL rQuad s.2.2⟩)] M1) (fun s x a J=>x=.exit 0/\Rc G 66 N0 (fun a J=>∃M2 o3 o4:Nat,N0<=M2/\N0<=o3/\o3<M2/\N0<=o4/\o4<M2/\¬o3=o4/\a=[(4,.sl o3 0 s.1.length),(5,.sl o4 0 s.2.length)]/\J=hp E0 [(o3,some ⟨3,1,eL rI s.1⟩),(o4,some ⟨68,5,eL rQuad s.2⟩)] M2) (AAct.keep a [4,5]) J) hse1 ?_ ?_ ?_
 .refine kp [0,4,5,17,18,19] ?_
  refine gNilS zI 5 68 5 [(N0+7,some ⟨3,1,eL rI l2⟩),(N0+14,some ⟨68,5,eL rQuad ([]:List gQuad)⟩)] [(0,.fsl (eL rQuad p0)),(4,.sl (N0+7) 0 l2.length),(5,.sl (N0+14) 0 ([]:List gQuad).length),(17,.fsl (eL rB r3)),(18,.int .i64 (ilen r3)),(19,.int .i64 0)] (by simp(disch:=omega)) (by simp(disch:=omega) [eN]) [0,4,5,17,18,19] rfl ?_
  exact R3 (N0+15) (N0+7) (N0+14)
 .clear H hse1
  rintro⟨s4,s5,s6⟩ fl a J H ⟨M1,o1,o2,fM1_0,fM1_1,fM1_2,fM1_3,fM1_4,fM1_5,rfl,rfl⟩ K3 O3 hK3 hO3
  unfold jH at H;dsimp only at H
  have e0:=nQ o1 o2
  refine qB [0,4,5,17,18,19,20] e0 ?_
  refine Wsq [0,4,5,17,18,19] fun K4 hK4=>?_
  refine Ci H ?_ ?_<;>intro H
  .refine Js hK4 ?_
   refine Wsq [0,4,5,17,18,19] fun K5 hK5=>?_
   refine Wb ?_
   obtain⟨v9,hv9,H⟩:=bE H
   have e0:=nQ o1 o2
   refine qC [0,4,5,6,7,17,18,19] e0 (ix38 hv9) ?_
   obtain⟨v10,hv10,H⟩:=bE H
   obtain⟨l11,hl11,H⟩:=bE H
   have e0:=nQ o1 o2
   refine qB [0,4,5,6,7,17,18,19] (j e0 (j (ixo23 hv10) (j ((zG hv10).2.2) ((setx_iff.1 hl11).2.symm)))) ?_
   try rw[<- zE hl11]
   obtain⟨g14,hg14,H⟩:=bE H
   refine qF tok [0,4,5,6,17,18,19,37] ([(0,.fsl (eL rQuad p0)),(4,.sl o1 0 l11.length),(5,.sl o2 0 s6.length),(6,.int .i64 s4),(17,.fsl (eL rB r3)),(18,.int .i64 (ilen r3)),(19,.int .i64 s4),(37,.bool g14)]) (hp E0 [(o1,some ⟨3,1,eL rI l11⟩),(o2,some ⟨68,5,eL rQuad s6⟩)] (M1+21)) (by
    intro K k
    have e0:=nQ o1 o2
    refine m1 e0 ?_
    cases hbg14:v9
    .cases oj (ifF hbg14 hg14)
     exact m2 e0 hbg14 k
    replace hg14:=ifT hbg14 hg14
    obtain⟨v12,hv12,hg14⟩:=bE hg14
    obtain⟨r13,hr13,hg14⟩:=bE hg14
    cases oj hg14
    refine m1 (j e0 (j hbg14 (ix34 hv12))) ?_
    refine(c61 hr13).app (m1 (j e0 (j hbg14 (ix34 hv12))) ?_)
    exact k) ?_
   refine Ci H ?_ ?_<;>intro H
   .obtain⟨v15,hv15,H⟩:=bE H
    obtain⟨l16,hl16,H⟩:=bE H
    have q0:∀J i,bsA T 34 true i 1 [(0,.agg [.int .i64 v15.Op,.int .i64 v15.Dst,.int .i64 v15.A,.int .i64 v15.B,.int .i64 v15.N])] J=some (.fsl (eL rQuad ([v15]:List gQuad)),J):=fun _ _=>rfl
    have e0:=nQ o1 o2
    have e1:=nQ o1 (M1+27)
    have e2:=nQ o2 (M1+27)
    refine Rb tok [5] (j e0 (j e1 (j e2 (j (ix34 hv15) (j q0 (app34 hl16)))))) hK5 ?_
    have e0:=nQ o1 (M1+27)
    obtain rfl:=oi H
    refine qJ e0 hK3 ?_
    exact R3 (M1+31) o1 (M1+27)
   refine Js hK5 ?_
   have e0:=nQ o1 o2
   obtain rfl:=oi H
   refine qJ e0 hK3 ?_
   exact R3 (M1+23) o1 o2
  cases oj H
  refine zH (hO3 _ _ _ _ rfl ⟨rfl,?_⟩)
  refine kr ?_
  exact R3 (M1+1) o1 o2
 intro x a J hx
 obtain⟨y7,y8⟩:=e1
 obtain⟨rfl,b,U,hr,M2,o3,o4,fM2_0,fM2_1,fM2_2,fM2_3,fM2_4,fM2_5,rfl,rfl⟩:=hx
 (try dsimp only at H)
 show K2 _ _
 refine hK2 _ _ (zI hr ?_)
 refine Rc.mk ?_
 refine Wsq [5] fun K6 hK6=>?_
 have e0:=nQ o3 o4
 refine qB [4,5,46,47,48] e0 ?_
 refine Wb ?_
 obtain⟨e2,hse2,H⟩:=bE H
 refine zS [4,5,46,47,48] (fun s a J=>∃M3 o5 o6:Nat,N0<=M3/\N0<=o5/\o5<M3/\N0<=o6/\o6<M3/\¬o5=o6/\a=[(4,.sl o5 0 s.2.1.length),(5,.sl o6 0 s.2.2.length),(46,.sl o6 0 s.2.2.length),(47,.int .i64 (ilen y8)),(48,.int .i64 s.1)]/\J=hp E0 [(o5,some ⟨3,1,eL rI s.2.1⟩),(o6,some ⟨68,5,eL rQuad s.2.2⟩)] M3) (fun s x a J=>x=.exit 2/\Rc G 66 N0 (fun a J=>∃M4 o7:Nat,N0<=M4/\N0<=o7/\o7<M4/\a=[(5,.sl o7 0 s.length)]/\J=hp E0 [(o7,some ⟨68,5,eL rQuad s⟩)] M4) (AAct.keep a [5]) J) hse2 ?_ ?_ ?_
 .refine kp [4,5,46,47,48] ?_
  exact R3 (M2+3) o3 o4
 .clear H hse2
  rintro⟨s17,s18,s19⟩ fl a J H ⟨M3,o5,o6,fM3_0,fM3_1,fM3_2,fM3_3,fM3_4,fM3_5,rfl,rfl⟩ K7 O7 hK7 hO7
  unfold wF at H;dsimp only at H
  have e0:=nQ o5 o6
  refine qB [4,5,46,47,48,49] e0 ?_
  refine Wsq [4,5,46,47,48] fun K8 hK8=>?_
  refine Ci H ?_ ?_<;>intro H
  .refine Js hK8 ?_
   refine Wsq [4,5,46,47,48] fun K9 hK9=>?_
   refine Wb ?_
   obtain⟨v21,hv21,H⟩:=bE H
   have e0:=nQ o5 o6
   have e1:=nQ o5 (M3+4)
   have e2:=nQ o6 (M3+4)
   refine qB [4,5,8,9,46,47,48] (j e0 (j e1 (j e2 (j (ixo34 hv21) ((zG hv21).2.2))))) ?_
   obtain⟨r22,hr22,H⟩:=bE H
   have e0:=nQ o5 o6
   have e1:=nQ o5 (M3+4)
   have e2:=nQ o6 (M3+4)
   refine qE [4,5,8,9,46,47,48,54] (j e0 (j e1 e2)) (c62 hr22) ?_
   refine Ci H ?_ ?_<;>intro H
   .obtain⟨v23,hv23,H⟩:=bE H
    obtain⟨l24,hl24,H⟩:=bE H
    have e0:=nQ o5 o6
    have e1:=nQ o5 (M3+4)
    have e2:=nQ o6 (M3+4)
    refine Rt tok [] [4,5,46,47,48] (by intro K k;simp -dsimp -implicitDefEqProofs [e0,e1,e2,ixo23 hv23,(zG hv23).2.2,ixo34 hv21,(zG hv21).2.2,(setx_iff.1 hl24).2.symm];exact k) fun a ha=>?_
    (try rw[<- zE hl24] at ha);(try rw[<- zE hl24])
    refine hK9 _ _ ?_;rw[ha]
    refine Rc.mk ?_
    have e0:=nQ o5 o6
    have e1:=nQ o5 (M3+4)
    have e2:=nQ o6 (M3+4)
    obtain rfl:=oi H
    refine qJ (j e0 (j e1 e2)) hK7 ?_
    exact Rc.fin (zK (zK (AHeap.Sub.trans (AHeap.Sub.refl _) (zT rfl (by simp;try omega))))) ⟨M3+21,o5,o6,(by omega),(by omega),(by omega),(by omega),(by omega),(by omega),rfl,rfl⟩
   refine Js hK9 ?_
   have e0:=nQ o5 o6
   have e1:=nQ o5 (M3+4)
   have e2:=nQ o6 (M3+4)
   obtain rfl:=oi H
   refine qJ (j e0 (j e1 e2)) hK7 ?_
   exact Rc.fin (zK (zK (AHeap.Sub.trans (AHeap.Sub.refl _) (zT rfl (by simp;try omega))))) ⟨M3+11,o5,o6,(by omega),(by omega),(by omega),(by omega),(by omega),(by omega),rfl,rfl⟩
  cases oj H
  refine zH (hO7 _ _ _ _ rfl ⟨rfl,?_⟩)
  refine kr ?_
  exact Rc.fin (AHeap.Sub.trans (zK (AHeap.Sub.refl _)) (zT rfl (by simp;try omega))) ⟨M3+1,o6,(by omega),(by omega),(by omega),rfl,rfl⟩
 intro x a J hx
 obtain⟨y20,rfl⟩:∃x,x=e2:=⟨_,rfl⟩
 obtain⟨rfl,b,U,hr,M4,o7,fM4_0,fM4_1,fM4_2,rfl,rfl⟩:=hx
 (try dsimp only at H)
 show K6 _ _
 refine hK6 _ _ (zI hr ?_)
 refine Rc.mk ?_
 refine qA [2,3] ?_
 cases oj H;exact W4

theorem c29 {p0:List Int}{p1:List Int}{r:Bool}(H:qU p0 p1=some r):APure Tryz.prog G 29 [.fsl (eL rI p0),.fsl (eL rI p1)] (.bool r):=by
 refine qK func29 ntmps29 results29 fun N0=>?_
 unfold qU at H
 refine qA [0,1] ?_
 obtain⟨g3,hg3,H⟩:=bE H
 refine qF tok [4] ([(4,.bool g3)]) (hp E0 [] (N0+15)) (by
  intro K k
  refine m0 ?_
  cases hbg3:ile (ilen p1) (ilen p0)
  .cases oj (ifF hbg3 hg3)
   exact m1 hbg3 k
  replace hg3:=ifT hbg3 hg3
  obtain⟨l1,hl1,hg3⟩:=bE hg3
  obtain⟨r2,hr2,hg3⟩:=bE hg3
  cases oj hg3
  refine m2 hbg3 (cuth_23 hl1) ?_
  refine(c51 hr2).app (m2 hbg3 (cuth_23 hl1) ?_)
  exact k) ?_
 cases oj H;exact W4

theorem c10 {p0:List Int}{p1:List Int}{r:Bool}(H:wE p0 p1=some r):APure Tryz.prog G 10 [.fsl (eL rU8 p0),.fsl (eL rU8 p1)] (.bool r):=by
 refine qK func10 ntmps10 results10 fun N0=>?_
 unfold wE at H
 refine qA [0,1] ?_
 refine Wsq [0,1] fun K1 hK1=>?_
 obtain⟨g1,hg1,H⟩:=bE H
 refine qF tok [0,1,24] ([(0,.fsl (eL rU8 p0)),(1,.fsl (eL rU8 p1)),(24,.bool g1)]) (hp E0 [] (N0+9)) (by
  intro K k
  refine m0 ?_
  cases hbg1:igt (ilen p0) 1048576
  .cases oj (ifF hbg1 hg1)
   exact m1 hbg1 k
  cases oj (ifT hbg1 hg1)
  refine m1 hbg1 ?_
  exact k) ?_
 refine Ci H ?_ ?_<;>intro H
 .refine qA [4] ?_
  cases oj H;exact W4
 refine Js hK1 ?_
 obtain⟨r2,hr2,H⟩:=bE H
 refine qD [1,5,6] (c13 hr2) ?_
 obtain⟨r3,hr3,H⟩:=bE H
 refine qD [1,5,6,7,8] (c14 hr3) ?_
 obtain⟨r4,hr4,H⟩:=bE H
 refine qD [1,5,6,7,8,9,10] (c15 hr4) ?_
 refine Wsq [1,5,6] fun K2 hK2=>?_
 obtain⟨g6,hg6,H⟩:=bE H
 obtain⟨g7,hg7,H⟩:=bE H
 refine qF tok [1,5,6,7,8,9,10,54] ([(1,.fsl (eL rU8 p1)),(5,.fsl (eL rI r2.1)),(6,.fsl (eL zA r2.2)),(7,.ptr (N0+22) 0 0),(8,.bool r3.2),(9,.ptr (N0+31) 0 0),(10,.bool r4.2),(54,.bool g7)]) (hp E0 [(N0+22,some ⟨30,6,[[.fsl (eL zA r3.1.Codes),.fsl (eL zF r3.1.Threads),.fsl (eL rBox r3.1.Boxes),.int .i64 r3.1.Turn,.int .i64 r3.1.Idle,.fsl (eL rI r3.1.Out)]]⟩),(N0+31,some ⟨30,6,[[.fsl (eL zA r4.1.Codes),.fsl (eL zF r4.1.Threads),.fsl (eL rBox r4.1.Boxes),.int .i64 r4.1.Turn,.int .i64 r4.1.Idle,.fsl (eL rI r4.1.Out)]]⟩)] (N0+47)) (by
  intro K k
  refine m0 ?_
  cases hbg6:bneb r3.2 r4.2
  .replace hg6:=ifF hbg6 hg6
   obtain⟨r5,hr5,hg6⟩:=bE hg6
   obtain rfl:=oi hg6
   refine m1 hbg6 ?_
   refine(c16 hr5).app (m1 hbg6 ?_)
   cases hbg7:(bnot r5)
   .cases oj (ifF hbg7 hg7)
    exact m2 hbg6 hbg7 k
   cases oj (ifT hbg7 hg7)
   exact m2 hbg6 hbg7 k
  cases oj (ifT hbg6 hg6)
  cases oj (ifT rfl hg7)
  refine m1 hbg6 ?_
  exact k) ?_
 refine Ci H ?_ ?_<;>intro H
 .obtain⟨g9,hg9,H⟩:=bE H
  refine qF tok [4] ([(4,.bool g9)]) (hp E0 [(N0+22,some ⟨30,6,[[.fsl (eL zA r3.1.Codes),.fsl (eL zF r3.1.Threads),.fsl (eL rBox r3.1.Boxes),.int .i64 r3.1.Turn,.int .i64 r3.1.Idle,.fsl (eL rI r3.1.Out)]]⟩),(N0+31,some ⟨30,6,[[.fsl (eL zA r4.1.Codes),.fsl (eL zF r4.1.Threads),.fsl (eL rBox r4.1.Boxes),.int .i64 r4.1.Turn,.int .i64 r4.1.Idle,.fsl (eL rI r4.1.Out)]]⟩)] (N0+56)) (by
   intro K k
   refine m0 ?_
   cases hbg9:beqb r3.2 r4.2
   .cases oj (ifF hbg9 hg9)
    exact m1 hbg9 k
   replace hg9:=ifT hbg9 hg9
   obtain⟨r8,hr8,hg9⟩:=bE hg9
   cases oj hg9
   refine m1 hbg9 ?_
   refine(c16 hr8).app (m1 hbg9 ?_)
   exact k) ?_
  cases oj H;exact W4
 refine Js hK2 ?_
 have q0:∀J i,bsA T 24 true i 0 [] J=some (.esl,J):=fun _ _=>rfl
 refine Sy tok [0] [1,5,6,11] q0 ?_
 refine Wsq [1,5,6,11] fun K3 hK3=>?_
 refine qA [1,5,6,11,12] ?_
 refine Wb ?_
 obtain⟨e1,hse1,H⟩:=bE H
 refine zS [1,5,6,11,12] (fun s a J=>∃M1 o1:Nat,N0<=M1/\N0<=o1/\o1<M1/\a=[(1,.fsl (eL rU8 p1)),(5,.fsl (eL rI r2.1)),(6,.fsl (eL zA r2.2)),(11,.sl o1 0 s.2.length),(12,.int .i64 s.1)]/\J=hp E0 [(o1,some ⟨34,1,eL zA s.2⟩)] M1) (fun e x a J=>match e with|.inl s=>x=.exit 0/\Rc G 107 N0 (fun a J=>∃M2 o2:Nat,N0<=M2/\N0<=o2/\o2<M2/\a=[(1,.fsl (eL rU8 p1)),(5,.fsl (eL rI r2.1)),(6,.fsl (eL zA r2.2)),(11,.sl o2 0 s.length)]/\J=hp E0 [(o2,some ⟨34,1,eL zA s⟩)] M2) (AAct.keep a [1,5,6,11]) J|.inr s=>x=.ret/\∃vs,resA T J a [.tmp 4]=some vs/\∃d,thawA (fun _=>true) J d (tupA vs)=.bool s) hse1 ?_ ?_ ?_
 .refine kp [1,5,6,11,12] ?_
  refine gNilS zI 11 34 1 [(N0+22,some ⟨30,6,[[.fsl (eL zA r3.1.Codes),.fsl (eL zF r3.1.Threads),.fsl (eL rBox r3.1.Boxes),.int .i64 r3.1.Turn,.int .i64 r3.1.Idle,.fsl (eL rI r3.1.Out)]]⟩),(N0+31,some ⟨30,6,[[.fsl (eL zA r4.1.Codes),.fsl (eL zF r4.1.Threads),.fsl (eL rBox r4.1.Boxes),.int .i64 r4.1.Turn,.int .i64 r4.1.Idle,.fsl (eL rI r4.1.Out)]]⟩),(N0+50,some ⟨34,1,eL zA ([]:List (List gQuad))⟩)] [(1,.fsl (eL rU8 p1)),(5,.fsl (eL rI r2.1)),(6,.fsl (eL zA r2.2)),(11,.sl (N0+50) 0 ([]:List (List gQuad)).length),(12,.int .i64 0)] (by simp(disch:=omega)) (by simp(disch:=omega) [eN]) [1,5,6,11,12] rfl ?_
  exact Rc.fin (AHeap.Sub.trans (AHeap.Sub.trans (zK (AHeap.Sub.refl _)) (zT rfl (by simp;try omega))) (zT rfl (by simp;try omega))) ⟨N0+51,(N0+50),(by omega),(by omega),(by omega),rfl,rfl⟩
 .clear H hse1
  rintro⟨s10,s11⟩ fl a J H ⟨M1,o1,fM1_0,fM1_1,fM1_2,rfl,rfl⟩ K4 O4 hK4 hO4
  unfold qV at H;dsimp only at H
  refine Wsq [1,5,6,11,12] fun K5 hK5=>?_
  refine qA [1,5,6,11,12,67] ?_
  refine Ci H ?_ ?_<;>intro H
  .refine Js hK5 ?_
   refine Wsq [1,5,6,11,12] fun K6 hK6=>?_
   refine Wb ?_
   obtain⟨v13,hv13,H⟩:=bE H
   obtain⟨r14,hr14,H⟩:=bE H
   refine qE [1,5,6,11,12,13,14] (ix24 hv13) (c27 hr14) ?_
   refine Wsq [1,5,6,11,12,13] fun K7 hK7=>?_
   refine qA [1,5,6,11,12,13,79] ?_
   refine Ci H ?_ ?_<;>intro H
   .refine qA [4] ?_
    cases oj H
    refine Kp [4] ?_
    refine Wr (hO4 _ _ _ _ rfl ⟨rfl,?_⟩)
    exact⟨[.bool false],by simp,4,by simp[eN]⟩
   refine Js hK7 ?_
   obtain⟨l15,hl15,H⟩:=bE H
   have q1:∀J i,bsA T 24 true i 1 [(0,.fsl (eL rQuad r14.1))] J=some (.fsl (eL zA ([r14.1]:List (List gQuad))),J):=fun _ _=>rfl
   have e0:=nQ o1 (M1+19)
   refine Rb tok [2] (j e0 (j q1 (app24 hl15))) hK6 ?_
   obtain rfl:=oi H
   refine qI hK4 ?_
   exact R2 (M1+24) (M1+19)
  obtain rfl:=oi H
  refine zH (hO4 _ _ _ _ rfl ⟨rfl,?_⟩)
  refine kr ?_
  exact R2 (M1+4) o1
 intro x a J hx
 rcases e1 with y12|r0
 .obtain⟨rfl,b,U,hr,M2,o2,fM2_0,fM2_1,fM2_2,rfl,rfl⟩:=hx
  (try dsimp only at H)
  show K3 _ _
  refine hK3 _ _ (zI hr ?_)
  refine Rc.mk ?_
  obtain⟨v16,hv16,H⟩:=bE H
  refine qB [5,6,11,15] hv16 ?_
  obtain⟨r17,hr17,H⟩:=bE H
  have e0:=nQ o2 (M2+8)
  refine qE [5,6,11,15,16] e0 (c18 hr17) ?_
  have z0:=nQ o2 (M2+8)
  refine gFrz Wre 4 [o2] [(M2+8,some ⟨30,6,[[.fsl (eL zA r17.Codes),.fsl (eL zF r17.Threads),.fsl (eL rBox r17.Boxes),.int .i64 r17.Turn,.int .i64 r17.Idle,.fsl (eL rI r17.Out)]]⟩)] [(5,.fsl (eL rI r2.1)),(6,.fsl (eL zA r2.2)),(11,.fsl (eL zA y12)),(15,.int .i64 v16),(16,.ptr (M2+8) 0 0)] (by simp[z0]) (cutD (by simp[z0])) ?_
  obtain⟨g20,hg20,H⟩:=bE H
  refine fH tok tokM [] [1,13] [0,3,4,1,2,5,6,7,8,9,10,11,12,13,14,15,16] [4] (fun a J=>a=[(4,.bool g20)]/\J=hp E0 [(M2+8,some ⟨30,6,[[.fsl (eL zA r17.Codes),.fsl (eL zF r17.Threads),.fsl (eL rBox r17.Boxes),.int .i64 r17.Turn,.int .i64 r17.Idle,.fsl (eL rI r17.Out)]]⟩)] (M2+27)) (by decide) (fun K hK=>?_) ?_
  .simp only[pickL,zN,zO]
   refine m0 ?_
   cases hbg20:ieq (ilen r17.Threads) (ilen r2.2)
   .cases oj (ifF hbg20 hg20)
    refine m1 hbg20 ?_
    exact hK _ _ ⟨rfl,rfl⟩
   replace hg20:=ifT hbg20 hg20
   obtain⟨r18,hr18,hg20⟩:=bE hg20
   obtain⟨r19,hr19,hg20⟩:=bE hg20
   cases oj hg20
   refine m1 hbg20 ?_
   refine Pc.mk (c18 hr18) (m1 hbg20 ?_)
   refine Pc.mk (c29 hr19) (m1 hbg20 ?_)
   exact hK _ _ ⟨rfl,rfl⟩
  rintro a J ⟨rfl,rfl⟩
  cases oj H;exact W4
 obtain⟨rfl,hx2⟩:=hx
 (try dsimp only at H)
 cases oj H;first|exact hx2|(simp only[List.set_set] at hx2 ⊢;exact hx2)
end Go.Proofs.YtnaikeccpnadgaaGreat
