/- The contracts of functions of the program (BXSqueezeRun): each computes what its mirror computes. No conditions. -/
import Derived.Test.YtnaikeccpnadgaaGreatNBNSqueezeRun
import Derived.Test.YtnaikeccpnadgaaGreatNBT3
set_option linter.unusedSimpArgs false
set_option linter.unusedVariables false
set_option maxRecDepth 20000
set_option maxHeartbeats 4000000
namespace Go.Proofs.YtnaikeccpnadgaaGreat
open Go Go.Abs Go.RowKit Tryz

theorem c57 {p0:List Int}{r:List Int}(H:kJ p0=some r):APure Tryz.prog G 57 [.fsl (eL rI p0)] (.fsl (eL rI r)):=by
 refine qK func57 ntmps57 results57 fun N0=>?_
 unfold kJ at H
 refine qA [0] ?_
 refine Wsq [0] fun K1 hK1=>?_
 refine AWP_isnil tok [4,0] ([(0,.fsl (eL rI p0))]) rfl rfl (by decide) (by decide) (by decide) (fun _=>rfl) (fun n0=>?_) ?_
 .replace n0:p0=[]:=fW n0
  replace H:(if true=true then   some ([]:List Int) else   (appx 8 ([]:List Int) p0).bind fun l2=>   some l2:Option ((List Int)))=some r:=by simpa [n0,appx] using H
  refine Ci H ?_ ?_<;>intro H
  .refine qA [2] ?_
   cases oj H;exact W4
  refine Js hK1 ?_
  obtain⟨l2,hl2,H⟩:=bE H
  have q2:∀J i,bsA T 23 true i 0 [] J=some (.esl,J):=fun _ _=>rfl
  refine Sz tok [0,2] [2] q2 (appf23 hl2) ?_
  cases oj H;exact W4
 .
  refine Ci H ?_ ?_<;>intro H
  .refine qA [2] ?_
   cases oj H;exact W4
  refine Js hK1 ?_
  obtain⟨l1,hl1,H⟩:=bE H
  have q1:∀J i,bsA T 23 true i 0 [] J=some (.esl,J):=fun _ _=>rfl
  refine Sz tok [0,2] [2] q1 (appf23 hl1) ?_
  cases oj H;exact W4

theorem c60 {p0:List gQuad}{r:List Bool}(H:jE p0=some r):APure Tryz.prog G 60 [.fsl (eL rQuad p0)] (.fsl (eL rB r)):=by
 refine qK func60 ntmps60 results60 fun N0=>?_
 unfold jE at H
 refine qA [0] ?_
 refine Wsq [0] fun K1 hK1=>?_
 obtain⟨r1,hr1,H⟩:=bE H
 refine qD [0,10] (c46 hr1) ?_
 refine Ci H ?_ ?_<;>intro H
 .refine qA [2] ?_
  cases oj H;exact W4
 refine Js hK1 ?_
 obtain⟨l2,hl2,H⟩:=bE H
 refine qB [0,3] (mak38 hl2) ?_
 obtain⟨v3,hv3,H⟩:=bE H
 obtain⟨l4,hl4,H⟩:=bE H
 refine qB [0,3] (j (ixo38 hv3) (j (show _[0]? =some v3 from(zG hv3).2.2) (show List.set _ 0 _=l4 from(setx_iff.1 hl4).2.symm))) ?_
 try rw[<- zE hl4]
 refine Wsq [3] fun K2 hK2=>?_
 obtain⟨l5,hl5,H⟩:=bE H
 have q0:∀J i,bsA T 23 false i 1 [(0,.int .i64 0)] J=some (.sl i 0 (List.length l5),J.put i ⟨3,1,eL rI l5⟩):=by rw[<- Option.some.inj hl5];exact fun _ _=>rfl
 refine qB [0,3,4] q0 ?_
 refine Wb ?_
 obtain⟨e2,hse2,H⟩:=bE H
 refine zS [0,3,4] (fun s a J=>∃M1 o1 o2:Nat,N0<=M1/\N0<=o1/\o1<M1/\N0<=o2/\o2<M1/\¬o1=o2/\a=[(0,.fsl (eL rQuad p0)),(3,.sl o1 0 s.1.length),(4,.sl o2 0 s.2.length)]/\J=hp E0 [(o1,some ⟨4,1,eL rB s.1⟩),(o2,some ⟨3,1,eL rI s.2⟩)] M1) (fun s x a J=>x=.exit 0/\Rc G 56 N0 (fun a J=>∃M2 o3:Nat,N0<=M2/\N0<=o3/\o3<M2/\a=[(3,.sl o3 0 s.length)]/\J=hp E0 [(o3,some ⟨4,1,eL rB s⟩)] M2) (AAct.keep a [3]) J) hse2 ?_ ?_ ?_
 .refine kp [0,3,4] ?_
  exact R3 (N0+13) (N0+6) (N0+11)
 .clear H hse2
  rintro⟨s6,s7⟩ fl a J H ⟨M1,o1,o2,fM1_0,fM1_1,fM1_2,fM1_3,fM1_4,fM1_5,rfl,rfl⟩ K3 O3 hK3 hO3
  unfold wA at H;dsimp only at H
  refine Wsq [0,3,4] fun K4 hK4=>?_
  have e0:=nQ o1 o2
  refine qB [0,3,4,19] e0 ?_
  refine Ci H ?_ ?_<;>intro H
  .refine Js hK4 ?_
   refine Wb ?_
   obtain⟨v9,hv9,H⟩:=bE H
   have e0:=nQ o1 o2
   refine qB [0,3,4,5] (j e0 (j (ixo23 hv9) ((zG hv9).2.2))) ?_
   obtain⟨l10,hl10,H⟩:=bE H
   have e0:=nQ o1 o2
   refine qC [0,3,4,5] e0 (cutoh_23 hl10) ?_
   refine gTrunc Wre (o:=o2) (ob:=⟨3,1,eL rI s7⟩) l10.length [(o1,some ⟨4,1,eL rB s6⟩),(o2,some ⟨3,1,eL rI l10⟩)] (by simp(disch:=omega)) (by simp(disch:=omega) [cut_take hl10]) ?_
   obtain⟨v11,hv11,H⟩:=bE H
   obtain⟨r12,hr12,H⟩:=bE H
   have e0:=nQ o1 o2
   refine qE [0,3,4,36,37,38] (j e0 (ix34 hv11)) (c92 hr12) ?_
   refine Wb ?_
   obtain⟨e1,hse1,H⟩:=bE H
   refine zS [0,3,4,36,37,38] (fun s a J=>∃M3 o4 o5:Nat,N0<=M3/\N0<=o4/\o4<M3/\N0<=o5/\o5<M3/\¬o4=o5/\a=[(0,.fsl (eL rQuad p0)),(3,.sl o4 0 s.2.1.length),(4,.sl o5 0 s.2.2.length),(36,.fsl (eL rI r12)),(37,.int .i64 (ilen r12)),(38,.int .i64 s.1)]/\J=hp E0 [(o4,some ⟨4,1,eL rB s.2.1⟩),(o5,some ⟨3,1,eL rI s.2.2⟩)] M3) (fun s x a J=>x=.exit 2/\Rc G 56 N0 (fun a J=>∃M4 o6 o7:Nat,N0<=M4/\N0<=o6/\o6<M4/\N0<=o7/\o7<M4/\¬o6=o7/\a=[(0,.fsl (eL rQuad p0)),(3,.sl o6 0 s.1.length),(4,.sl o7 0 s.2.length)]/\J=hp E0 [(o6,some ⟨4,1,eL rB s.1⟩),(o7,some ⟨3,1,eL rI s.2⟩)] M4) (AAct.keep a [0,3,4]) J) hse1 ?_ ?_ ?_
   .refine kp [0,3,4,36,37,38] ?_
    exact R3 (M1+24) o1 o2
   .clear H hse1
    rintro⟨s13,s14,s15⟩ fl a J H ⟨M3,o4,o5,fM3_0,fM3_1,fM3_2,fM3_3,fM3_4,fM3_5,rfl,rfl⟩ K5 O5 hK5 hO5
    unfold xZ at H;dsimp only at H
    have e0:=nQ o4 o5
    refine qB [0,3,4,36,37,38,39] e0 ?_
    refine Wsq [0,3,4,36,37,38] fun K6 hK6=>?_
    refine Ci H ?_ ?_<;>intro H
    .refine Js hK6 ?_
     refine Wsq [0,3,4,36,37,38] fun K7 hK7=>?_
     refine Wb ?_
     obtain⟨v18,hv18,H⟩:=bE H
     have e0:=nQ o4 o5
     refine qC [0,3,4,7,36,37,38] e0 (ix23 hv18) ?_
     obtain⟨v19,hv19,H⟩:=bE H
     have e0:=nQ o4 o5
     refine qB [0,3,4,7,36,37,38,46] (j e0 (j (ixo38 hv19) ((zG hv19).2.2))) ?_
     refine Ci H ?_ ?_<;>intro H
     .obtain⟨l20,hl20,H⟩:=bE H
      have e0:=nQ o4 o5
      refine qB [0,3,4,7,36,37,38] (j e0 (j (ixo38 hv19) (j ((zG hv19).2.2) ((setx_iff.1 hl20).2.symm)))) ?_
      try rw[<- zE hl20]
      obtain⟨l21,hl21,H⟩:=bE H
      have q1:∀J i,bsA T 23 true i 1 [(0,.int .i64 v18)] J=some (.fsl (eL rI ([v18]:List Int)),J):=fun _ _=>rfl
      have e0:=nQ o4 o5
      have e1:=nQ o4 (M3+16)
      have e2:=nQ o5 (M3+16)
      refine Rb tok [2] (j e0 (j e1 (j e2 (j q1 (app23 hl21))))) hK7 ?_
      have e0:=nQ o4 (M3+16)
      obtain rfl:=oi H
      refine qJ e0 hK5 ?_
      exact R3 (M3+20) o4 (M3+16)
     refine Js hK7 ?_
     have e0:=nQ o4 o5
     obtain rfl:=oi H
     refine qJ e0 hK5 ?_
     exact R3 (M3+11) o4 o5
    cases oj H
    refine zH (hO5 _ _ _ _ rfl ⟨rfl,?_⟩)
    refine kr ?_
    exact R3 (M3+1) o4 o5
   intro x a J hx
   obtain⟨y16,y17⟩:=e1
   obtain⟨rfl,b,U,hr,M4,o6,o7,fM4_0,fM4_1,fM4_2,fM4_3,fM4_4,fM4_5,rfl,rfl⟩:=hx
   (try dsimp only at H)
   show K3 _ _
   cases oj H
   refine hK3 _ _ _ rfl (zI hr ?_)
   exact R3 M4 o6 o7
  cases oj H
  refine zH (hO3 _ _ _ _ rfl ⟨rfl,?_⟩)
  refine kr ?_
  exact Rc.fin (zK (AHeap.Sub.trans (AHeap.Sub.refl _) (zT rfl (by simp;try omega)))) ⟨M1+3,o1,(by omega),(by omega),(by omega),rfl,rfl⟩
 intro x a J hx
 obtain⟨y8,rfl⟩:∃x,x=e2:=⟨_,rfl⟩
 obtain⟨rfl,b,U,hr,M2,o3,fM2_0,fM2_1,fM2_2,rfl,rfl⟩:=hx
 (try dsimp only at H)
 show K2 _ _
 refine hK2 _ _ (zI hr ?_)
 refine Rc.mk ?_
 refine qA [2] ?_
 cases oj H;exact W4

theorem c62 {p0:gQuad}{r:Bool}(H:jC p0=some r):APure Tryz.prog G 62 [.agg [.int .i64 p0.Op,.int .i64 p0.Dst,.int .i64 p0.A,.int .i64 p0.B,.int .i64 p0.N]] (.bool r):=by
 refine qK func62 ntmps62 results62 fun N0=>?_
 unfold jC at H
 refine S0 tok [0] [1] ?_
 obtain⟨g1,hg1,H⟩:=bE H
 refine qF tok [2] ([(2,.bool g1)]) (hp E0 [] (N0+11)) (by
  intro K k
  refine m0 ?_
  cases hbg1:ieq p0.Op 4
  .cases oj (ifF hbg1 hg1)
   exact m1 hbg1 k
  cases oj (ifT hbg1 hg1)
  refine m1 hbg1 ?_
  exact k) ?_
 cases oj H;exact W4

theorem c61 {p0:gQuad}{p1:Int}{r:Bool}(H:jZ p0 p1=some r):APure Tryz.prog G 61 [.agg [.int .i64 p0.Op,.int .i64 p0.Dst,.int .i64 p0.A,.int .i64 p0.B,.int .i64 p0.N],.int .i64 p1] (.bool r):=by
 refine qK func61 ntmps61 results61 fun N0=>?_
 unfold jZ at H
 refine S0 tok [0] [1,2] ?_
 obtain⟨r1,hr1,H⟩:=bE H
 obtain⟨g2,hg2,H⟩:=bE H
 obtain⟨g4,hg4,H⟩:=bE H
 refine qF tok [4] ([(4,.bool g4)]) (hp E0 [] (N0+26)) (by
  intro K k
  refine m0 ?_
  refine(c62 hr1).app (m0 ?_)
  cases hbg2:r1
  .cases oj (ifF hbg2 hg2)
   refine m1 hbg2 ?_
   cases hbg4:bnot false
   .cases oj (ifF hbg4 hg4)
    exact m2 hbg2 hbg4 k
   replace hg4:=ifT hbg4 hg4
   obtain⟨g3,hg3,hg4⟩:=bE hg4
   cases oj hg4
   refine m2 hbg2 hbg4 ?_
   cases hbg3:ieq p0.Op 2
   .cases oj (ifF hbg3 hg3)
    exact m1 (j hbg2 (j hbg4 hbg3)) k
   cases oj (ifT hbg3 hg3)
   exact m1 (j hbg2 (j hbg4 hbg3)) k
  cases oj (ifT hbg2 hg2)
  refine m1 hbg2 ?_
  cases hbg4:bnot (ieq p0.N (iadd .i64 p1 1))
  .cases oj (ifF hbg4 hg4)
   exact m2 hbg2 hbg4 k
  replace hg4:=ifT hbg4 hg4
  obtain⟨g3,hg3,hg4⟩:=bE hg4
  cases oj hg4
  refine m2 hbg2 hbg4 ?_
  cases hbg3:ieq p0.Op 2
  .cases oj (ifF hbg3 hg3)
   exact m1 (j hbg2 (j hbg4 hbg3)) k
  cases oj (ifT hbg3 hg3)
  refine m1 (j hbg2 (j hbg4 hbg3)) ?_
  exact k) ?_
 cases oj H;exact W4

theorem c27 {p0:List gQuad}{r:(List gQuad)×Bool}(H:kP p0=some r):APure Tryz.prog G 27 [.fsl (eL rQuad p0)] (.tup [.fsl (eL rQuad r.1),.bool r.2]):=by
 refine qK func27 ntmps27 results27 fun N0=>?_
 unfold kP at H
 refine qA [0] ?_
 refine Wsq [0] fun K1 hK1=>?_
 obtain⟨r1,hr1,H⟩:=bE H
 refine qD [0,12] (c46 hr1) ?_
 refine Ci H ?_ ?_<;>intro H
 .refine qA [2,3] ?_
  cases oj H;exact W4
 refine Js hK1 ?_
 obtain⟨l2,hl2,H⟩:=bE H
 refine qB [0,4] (mak23 hl2) ?_
 refine qA [0,4,5] ?_
 refine Wsq [4,5] fun K2 hK2=>?_
 obtain⟨r3,hr3,H⟩:=bE H
 refine qD [0,4,5,17,18,19] (c60 hr3) ?_
 refine Wb ?_
 obtain⟨e1,hse1,H⟩:=bE H
 refine zS [0,4,5,17,18,19] (fun s a J=>∃M1 o1 o2:Nat,N0<=M1/\N0<=o1/\o1<M1/\N0<=o2/\o2<M1/\¬o1=o2/\a=[(0,.fsl (eL rQuad p0)),(4,.sl o1 0 s.2.1.length),(5,.sl o2 0 s.2.2.length),(17,.fsl (eL rB r3)),(18,.int .i64 (ilen r3)),(19,.int .i64 s.1)]/\J=hp E0 [(o1,some ⟨3,1,eL rI s.2.1⟩),(o2,some ⟨68,5,eL rQuad s.2.2⟩)] M1) (fun s x a J=>x=.exit 0/\Rc G 66 N0 (fun a J=>∃M2 o3 o4:Nat,N0<=M2/\N0<=o3/\o3<M2/\N0<=o4/\o4<M2/\¬o3=o4/\a=[(4,.sl o3 0 s.1.length),(5,.sl o4 0 s.2.length)]/\J=hp E0 [(o3,some ⟨3,1,eL rI s.1⟩),(o4,some ⟨68,5,eL rQuad s.2⟩)] M2) (AAct.keep a [4,5]) J) hse1 ?_ ?_ ?_
 .refine kp [0,4,5,17,18,19] ?_
  refine gNilS zI 5 68 5 [(N0+7,some ⟨3,1,eL rI l2⟩),(N0+14,some ⟨68,5,eL rQuad ([]:List gQuad)⟩)] [(0,.fsl (eL rQuad p0)),(4,.sl (N0+7) 0 l2.length),(5,.sl (N0+14) 0 ([]:List gQuad).length),(17,.fsl (eL rB r3)),(18,.int .i64 (ilen r3)),(19,.int .i64 0)] (by simp(disch:=omega)) (by simp(disch:=omega) [eN]) [0,4,5,17,18,19] rfl ?_
  exact R3 (N0+15) (N0+7) (N0+14)
 .clear H hse1
  rintro⟨s4,s5,s6⟩ fl a J H ⟨M1,o1,o2,fM1_0,fM1_1,fM1_2,fM1_3,fM1_4,fM1_5,rfl,rfl⟩ K3 O3 hK3 hO3
  unfold jH at H;dsimp only at H
  have e0:=nQ o1 o2
  refine qB [0,4,5,17,18,19,20] e0 ?_
  refine Wsq [0,4,5,17,18,19] fun K4 hK4=>?_
  refine Ci H ?_ ?_<;>intro H
  .refine Js hK4 ?_
   refine Wsq [0,4,5,17,18,19] fun K5 hK5=>?_
   refine Wb ?_
   obtain⟨v9,hv9,H⟩:=bE H
   have e0:=nQ o1 o2
   refine qC [0,4,5,6,7,17,18,19] e0 (ix38 hv9) ?_
   obtain⟨v10,hv10,H⟩:=bE H
   obtain⟨l11,hl11,H⟩:=bE H
   have e0:=nQ o1 o2
   refine qB [0,4,5,6,7,17,18,19] (j e0 (j (ixo23 hv10) (j ((zG hv10).2.2) ((setx_iff.1 hl11).2.symm)))) ?_
   try rw[<- zE hl11]
   obtain⟨g14,hg14,H⟩:=bE H
   refine qF tok [0,4,5,6,17,18,19,37] ([(0,.fsl (eL rQuad p0)),(4,.sl o1 0 l11.length),(5,.sl o2 0 s6.length),(6,.int .i64 s4),(17,.fsl (eL rB r3)),(18,.int .i64 (ilen r3)),(19,.int .i64 s4),(37,.bool g14)]) (hp E0 [(o1,some ⟨3,1,eL rI l11⟩),(o2,some ⟨68,5,eL rQuad s6⟩)] (M1+21)) (by
    intro K k
    have e0:=nQ o1 o2
    refine m1 e0 ?_
    cases hbg14:v9
    .cases oj (ifF hbg14 hg14)
     exact m2 e0 hbg14 k
    replace hg14:=ifT hbg14 hg14
    obtain⟨v12,hv12,hg14⟩:=bE hg14
    obtain⟨r13,hr13,hg14⟩:=bE hg14
    cases oj hg14
    refine m1 (j e0 (j hbg14 (ix34 hv12))) ?_
    refine(c61 hr13).app (m1 (j e0 (j hbg14 (ix34 hv12))) ?_)
    exact k) ?_
   refine Ci H ?_ ?_<;>intro H
   .obtain⟨v15,hv15,H⟩:=bE H
    obtain⟨l16,hl16,H⟩:=bE H
    have q0:∀J i,bsA T 34 true i 1 [(0,.agg [.int .i64 v15.Op,.int .i64 v15.Dst,.int .i64 v15.A,.int .i64 v15.B,.int .i64 v15.N])] J=some (.fsl (eL rQuad ([v15]:List gQuad)),J):=fun _ _=>rfl
    have e0:=nQ o1 o2
    have e1:=nQ o1 (M1+27)
    have e2:=nQ o2 (M1+27)
    refine Rb tok [5] (j e0 (j e1 (j e2 (j (ix34 hv15) (j q0 (app34 hl16)))))) hK5 ?_
    have e0:=nQ o1 (M1+27)
    obtain rfl:=oi H
    refine qJ e0 hK3 ?_
    exact R3 (M1+31) o1 (M1+27)
   refine Js hK5 ?_
   have e0:=nQ o1 o2
   obtain rfl:=oi H
   refine qJ e0 hK3 ?_
   exact R3 (M1+23) o1 o2
  cases oj H
  refine zH (hO3 _ _ _ _ rfl ⟨rfl,?_⟩)
  refine kr ?_
  exact R3 (M1+1) o1 o2
 intro x a J hx
 obtain⟨y7,y8⟩:=e1
 obtain⟨rfl,b,U,hr,M2,o3,o4,fM2_0,fM2_1,fM2_2,fM2_3,fM2_4,fM2_5,rfl,rfl⟩:=hx
 (try dsimp only at H)
 show K2 _ _
 refine hK2 _ _ (zI hr ?_)
 refine Rc.mk ?_
 refine Wsq [5] fun K6 hK6=>?_
 have e0:=nQ o3 o4
 refine qB [4,5,46,47,48] e0 ?_
 refine Wb ?_
 obtain⟨e2,hse2,H⟩:=bE H
 refine zS [4,5,46,47,48] (fun s a J=>∃M3 o5 o6:Nat,N0<=M3/\N0<=o5/\o5<M3/\N0<=o6/\o6<M3/\¬o5=o6/\a=[(4,.sl o5 0 s.2.1.length),(5,.sl o6 0 s.2.2.length),(46,.sl o6 0 s.2.2.length),(47,.int .i64 (ilen y8)),(48,.int .i64 s.1)]/\J=hp E0 [(o5,some ⟨3,1,eL rI s.2.1⟩),(o6,some ⟨68,5,eL rQuad s.2.2⟩)] M3) (fun s x a J=>x=.exit 2/\Rc G 66 N0 (fun a J=>∃M4 o7:Nat,N0<=M4/\N0<=o7/\o7<M4/\a=[(5,.sl o7 0 s.length)]/\J=hp E0 [(o7,some ⟨68,5,eL rQuad s⟩)] M4) (AAct.keep a [5]) J) hse2 ?_ ?_ ?_
 .refine kp [4,5,46,47,48] ?_
  exact R3 (M2+3) o3 o4
 .clear H hse2
  rintro⟨s17,s18,s19⟩ fl a J H ⟨M3,o5,o6,fM3_0,fM3_1,fM3_2,fM3_3,fM3_4,fM3_5,rfl,rfl⟩ K7 O7 hK7 hO7
  unfold wF at H;dsimp only at H
  have e0:=nQ o5 o6
  refine qB [4,5,46,47,48,49] e0 ?_
  refine Wsq [4,5,46,47,48] fun K8 hK8=>?_
  refine Ci H ?_ ?_<;>intro H
  .refine Js hK8 ?_
   refine Wsq [4,5,46,47,48] fun K9 hK9=>?_
   refine Wb ?_
   obtain⟨v21,hv21,H⟩:=bE H
   have e0:=nQ o5 o6
   have e1:=nQ o5 (M3+4)
   have e2:=nQ o6 (M3+4)
   refine qB [4,5,8,9,46,47,48] (j e0 (j e1 (j e2 (j (ixo34 hv21) ((zG hv21).2.2))))) ?_
   obtain⟨r22,hr22,H⟩:=bE H
   have e0:=nQ o5 o6
   have e1:=nQ o5 (M3+4)
   have e2:=nQ o6 (M3+4)
   refine qE [4,5,8,9,46,47,48,54] (j e0 (j e1 e2)) (c62 hr22) ?_
   refine Ci H ?_ ?_<;>intro H
   .obtain⟨v23,hv23,H⟩:=bE H
    obtain⟨l24,hl24,H⟩:=bE H
    have e0:=nQ o5 o6
    have e1:=nQ o5 (M3+4)
    have e2:=nQ o6 (M3+4)
    refine Rt tok [] [4,5,46,47,48] (by intro K k;simp -dsimp -implicitDefEqProofs [e0,e1,e2,ixo23 hv23,(zG hv23).2.2,ixo34 hv21,(zG hv21).2.2,(setx_iff.1 hl24).2.symm];exact k) fun a ha=>?_
    (try rw[<- zE hl24] at ha);(try rw[<- zE hl24])
    refine hK9 _ _ ?_;rw[ha]
    refine Rc.mk ?_
    have e0:=nQ o5 o6
    have e1:=nQ o5 (M3+4)
    have e2:=nQ o6 (M3+4)
    obtain rfl:=oi H
    refine qJ (j e0 (j e1 e2)) hK7 ?_
    exact Rc.fin (zK (zK (AHeap.Sub.trans (AHeap.Sub.refl _) (zT rfl (by simp;try omega))))) ⟨M3+21,o5,o6,(by omega),(by omega),(by omega),(by omega),(by omega),(by omega),rfl,rfl⟩
   refine Js hK9 ?_
   have e0:=nQ o5 o6
   have e1:=nQ o5 (M3+4)
   have e2:=nQ o6 (M3+4)
   obtain rfl:=oi H
   refine qJ (j e0 (j e1 e2)) hK7 ?_
   exact Rc.fin (zK (zK (AHeap.Sub.trans (AHeap.Sub.refl _) (zT rfl (by simp;try omega))))) ⟨M3+11,o5,o6,(by omega),(by omega),(by omega),(by omega),(by omega),(by omega),rfl,rfl⟩
  cases oj H
  refine zH (hO7 _ _ _ _ rfl ⟨rfl,?_⟩)
  refine kr ?_
  exact Rc.fin (AHeap.Sub.trans (zK (AHeap.Sub.refl _)) (zT rfl (by simp;try omega))) ⟨M3+1,o6,(by omega),(by omega),(by omega),rfl,rfl⟩
 intro x a J hx
 obtain⟨y20,rfl⟩:∃x,x=e2:=⟨_,rfl⟩
 obtain⟨rfl,b,U,hr,M4,o7,fM4_0,fM4_1,fM4_2,rfl,rfl⟩:=hx
 (try dsimp only at H)
 show K6 _ _
 refine hK6 _ _ (zI hr ?_)
 refine Rc.mk ?_
 refine qA [2,3] ?_
 cases oj H;exact W4

theorem c96_o {p0:List Int}{p1:List gBox}{p2:Bool}{r:gOutcome}(H:sF p0 p1 p2=some r){J:AHeap}:ACalls Tryz.prog G 96 [.fsl (eL rI p0),.fsl (eL rBox p1),.bool p2] J (fun v J'=>∃M n0:Nat,J.next<=M/\J.next<=n0/\n0<M/\v=.agg [.fsl (eL rI r.Out),.fsl (eL rL_I r.Items),.sl n0 0 r.Ended.length,.bool r.Rest]/\J'=hp J.objs [(n0,some ⟨4,1,eL rB r.Ended⟩)] M):=by
 refine fr2 [] (by simp) (fun hlt=>?_) ⟨_,func96,rfl,rfl⟩
 generalize J.next=N0 at hlt ⊢
 refine wJ 4 ?_
 refine fnK tok func96 ntmps96 results96 ?_
 simp only[argsA,Nat.reduceAdd,hpN]
 unfold sF at H
 refine qA [0,1,2,6] ?_
 refine gW Wre N0 0 0 ?_
 refine gP0 Wre N0 0 1 23 1 (eL rL_I ([]:List (List Int))) ?_
 refine gP0 Wre N0 0 2 4 1 (eL rB ([]:List Bool)) ?_
 obtain⟨r1,hr1,H⟩:=bE H
 refine Sc tok [3] [1,6,7] (c57 hr1) ?_
 refine Wsq [6,7] fun K1 hK1=>?_
 refine qA [6,7,14,15,16] ?_
 refine Wb ?_
 obtain⟨e1,hse1,H⟩:=bE H
 refine zS [6,7,14,15,16] (fun s a J=>∃M1 o1 o2:Nat,N0<=M1/\N0<=o1/\o1<M1/\N0<=o2/\o2<M1/\¬o1=o2/\a=[(6,.ptr o1 0 0),(7,.ptr o2 0 0),(14,.fsl (eL rBox p1)),(15,.int .i64 (ilen p1)),(16,.int .i64 s.1)]/\J=hp E0 [(o1,some ⟨92,4,[[.fsl (eL rI s.2.1.Out),.osl 23 1 (eL rL_I s.2.1.Items),.osl 4 1 (eL rB s.2.1.Ended),.bool s.2.1.Rest]]⟩),(o2,some ⟨92,4,[[.fsl (eL rI s.2.2.Out),.osl 23 1 (eL rL_I s.2.2.Items),.osl 4 1 (eL rB s.2.2.Ended),.bool s.2.2.Rest]]⟩)] M1) (fun s x a J=>x=.exit 0/\Rc G 30 N0 (fun a J=>∃M2 o3 o4:Nat,N0<=M2/\N0<=o3/\o3<M2/\N0<=o4/\o4<M2/\¬o3=o4/\a=[(6,.ptr o3 0 0),(7,.ptr o4 0 0)]/\J=hp E0 [(o3,some ⟨92,4,[[.fsl (eL rI s.1.Out),.osl 23 1 (eL rL_I s.1.Items),.osl 4 1 (eL rB s.1.Ended),.bool s.1.Rest]]⟩),(o4,some ⟨92,4,[[.fsl (eL rI s.2.Out),.osl 23 1 (eL rL_I s.2.Items),.osl 4 1 (eL rB s.2.Ended),.bool s.2.Rest]]⟩)] M2) (AAct.keep a [6,7]) J) hse1 ?_ ?_ ?_
 .refine kp [6,7,14,15,16] ?_
  refine gP0 zI (N0+5) 0 1 23 1 (eL rL_I ([]:List (List Int))) ?_
  refine gP0 zI (N0+5) 0 2 4 1 (eL rB ([]:List Bool)) ?_
  exact R3 (N0+10) N0 (N0+5)
 .clear H hse1
  rintro⟨s2,s3,s4⟩ fl a J H ⟨M1,o1,o2,fM1_0,fM1_1,fM1_2,fM1_3,fM1_4,fM1_5,rfl,rfl⟩ K2 O2 hK2 hO2
  unfold jG at H;dsimp only at H
  have e0:=nQ o1 o2
  refine qB [6,7,14,15,16,17] e0 ?_
  refine Wsq [6,7,14,15,16] fun K3 hK3=>?_
  refine Ci H ?_ ?_<;>intro H
  .refine Js hK3 ?_
   refine Wsq [6,7,14,15,16] fun K4 hK4=>?_
   refine Wb ?_
   obtain⟨v7,hv7,H⟩:=bE H
   have e0:=nQ o1 o2
   have e1:=nQ o1 (M1+3)
   have e2:=nQ o2 (M1+3)
   refine qB [6,7,9,14,15,16] (j e0 (j e1 (j e2 (ix28 hv7)))) ?_
   refine gU Wre o2 0 1 ?_
   obtain⟨r8,hr8,H⟩:=bE H
   obtain⟨l9,hl9,H⟩:=bE H
   have q0:∀J i,bsA T 50 true i 1 [(0,.fsl (eL rI r8))] J=some (.fsl (eL rL_I ([r8]:List (List Int))),J):=fun _ _=>rfl
   refine AWP_ry tok tokM [5] [1,3,4,5,6,8] [0,2,1,3,4,5,6,7,8] [(4,[1]),(5,[1])] [6,7,14,15,16] (fun a J=>a=[(6,.ptr o1 0 0),(7,.ptr o2 0 0),(14,.fsl (eL rBox p1)),(15,.int .i64 (ilen p1)),(16,.int .i64 s2)]/\J=hp E0 [(o1,some ⟨92,4,[[.fsl (eL rI s3.Out),.osl 23 1 (eL rL_I s3.Items),.osl 4 1 (eL rB s3.Ended),.bool s3.Rest]]⟩),(o2,some ⟨92,4,[[.fsl (eL rI s4.Out),.sl (M1+12) 0 l9.length,.osl 4 1 (eL rB s4.Ended),.bool s4.Rest]]⟩),(M1+3,some ⟨99,2,[[.int .i64 v7.Room,.fsl (eL rI v7.Items)]]⟩),(M1+12,some ⟨23,1,eL rL_I l9⟩)] (M1+15)) (by decide) (fun K hK=>?_) ?_
   .simp only[pickL,zN,zO]
    have e0:=nQ o1 o2
    have e1:=nQ o1 (M1+3)
    have e2:=nQ o1 (M1+5)
    have e3:=nQ o1 (M1+12)
    have e4:=nQ o2 (M1+3)
    have e5:=nQ o2 (M1+5)
    have e6:=nQ o2 (M1+12)
    refine m1 (j e0 (j e1 (j e2 (j e3 (j e4 (j e5 (j e6 (j q0 (app50 hl9))))))))) ?_
    refine(c57 hr8).app (m1 (j e0 (j e1 (j e2 (j e3 (j e4 (j e5 (j e6 (j q0 (app50 hl9))))))))) ?_)
    exact hK _ _ ⟨rfl,rfl⟩
   rintro a J ⟨ha,rfl⟩
   refine hK4 _ _ ?_;rw[ha]
   refine Rc.mk ?_
   have e0:=nQ o1 o2
   have e1:=nQ o1 (M1+3)
   have e2:=nQ o1 (M1+12)
   have e3:=nQ o2 (M1+3)
   have e4:=nQ o2 (M1+12)
   obtain rfl:=oi H
   refine qJ (j e0 (j e1 (j e2 (j e3 e4)))) hK2 ?_
   refine gP zI o2 0 1 ?_
   exact Rc.fin (zK (zK (AHeap.Sub.trans (AHeap.Sub.refl _) (zT rfl (by simp;try omega))))) ⟨M1+17,o1,o2,(by omega),(by omega),(by omega),(by omega),(by omega),(by omega),rfl,rfl⟩
  cases oj H
  refine zH (hO2 _ _ _ _ rfl ⟨rfl,?_⟩)
  refine kr ?_
  exact R3 (M1+1) o1 o2
 intro x a J hx
 obtain⟨y5,y6⟩:=e1
 obtain⟨rfl,b,U,hr,M2,o3,o4,fM2_0,fM2_1,fM2_2,fM2_3,fM2_4,fM2_5,rfl,rfl⟩:=hx
 (try dsimp only at H)
 show K1 _ _
 refine hK1 _ _ (zI hr ?_)
 refine Rc.mk ?_
 refine gU Wre o4 0 1 ?_
 refine gU Wre o4 0 2 ?_
 have e0:=nQ o3 o4
 have e1:=nQ o3 M2
 have e2:=nQ o3 (M2+1)
 have e3:=nQ o4 M2
 have e4:=nQ o4 (M2+1)
 refine qB [6] (j e0 (j e1 (j e2 (j e3 e4)))) ?_
 obtain rfl:=oi H
 refine Kp [6] ?_
 refine gDrop Wre [(o3,some ⟨92,4,[[.fsl (eL rI y6.Out),.sl M2 0 y6.Items.length,.sl (M2+1) 0 y6.Ended.length,.bool y6.Rest]]⟩),(M2,some ⟨23,1,eL rL_I y6.Items⟩),(M2+1,some ⟨4,1,eL rB y6.Ended⟩)] (zK (AHeap.Sub.trans (zK (zK (AHeap.Sub.refl _))) (zT rfl (by simp;try omega)))) ?_
 refine gP Wre o3 0 1 ?_
 refine gP Wre o3 0 2 ?_
 refine gU Wre o3 0 1 ?_
 refine gU Wre o3 0 2 ?_
 have z0:=nQ o3 (M2+4)
 have z1:=nQ o3 (M2+5)
 refine Wr ?_
 refine⟨[.agg [.fsl (eL rI y6.Out),.sl (M2+4) 0 y6.Items.length,.sl (M2+5) 0 y6.Ended.length,.bool y6.Rest]],by simp[z0,z1],(fun o=>[o3,M2+4].contains o),M2+6,M2+5,by omega,by omega,by omega,?_,?_⟩
 .simp[eN,z0,z1]
 rw[cutD (L':=[(M2+5,some ⟨4,1,eL rB y6.Ended⟩)]) (by simp[z0,z1])]
 first|done|rfl|simp

theorem c63 {p0:gCrew}{r:gOutcome}(H:xJ p0=some r):APure Tryz.prog G 63 [.agg [.fsl (eL zA p0.Codes),.fsl (eL zF p0.Threads),.fsl (eL rBox p0.Boxes),.int .i64 p0.Turn,.int .i64 p0.Idle,.fsl (eL rI p0.Out)]] (.agg [.fsl (eL rI r.Out),.fsl (eL rL_I r.Items),.fsl (eL rB r.Ended),.bool r.Rest]):=by
 refine qK func63 ntmps63 results63 fun N0=>?_
 unfold xJ at H
 refine S0 tok [0] [1,2] ?_
 refine Wsq [1,2] fun K1 hK1=>?_
 refine gW Wre (N0+1) 0 0 ?_
 refine gW Wre (N0+1) 0 1 ?_
 refine gW Wre (N0+1) 0 2 ?_
 obtain⟨r1,hr1,H⟩:=bE H
 refine qD [1,2,8] (c39 hr1) ?_
 refine Ci H ?_ ?_<;>intro H
 .refine qA [2] ?_
  cases oj H
  refine Kp [2] ?_
  exact V0
 refine Js hK1 ?_
 obtain⟨r2,hr2,H⟩:=bE H
 refine jJ tok [] [1,2,3] (fun a J=>∃M1 o1:Nat,N0+18<=M1/\N0+18<=o1/\o1<M1/\a=[(1,.fptr [.fsl (eL zA p0.Codes),.fsl (eL zF p0.Threads),.fsl (eL rBox p0.Boxes),.int .i64 p0.Turn,.int .i64 p0.Idle,.fsl (eL rI p0.Out)] 0),(2,.ptr (N0+1) 0 0),(3,.ptr (N0+16) 0 0)]/\J=hp E0 [(N0+1,some ⟨92,4,[[.fsl [],.fsl [],.fsl [],.bool false]]⟩),(o1,some ⟨4,1,eL rB r2.Ended⟩),(N0+16,some ⟨92,4,[[.fsl (eL rI r2.Out),.fsl (eL rL_I r2.Items),.sl o1 0 r2.Ended.length,.bool r2.Rest]]⟩)] M1) (fun K hK=>?_) ?_
 .skip
  refine m0 ?_
  refine mo (c96_o (H:=hr2)) fun M1 o1 fM1_0 fM1_1 fM1_2=>?_
  have eM1_0:=nQ o1 (N0+1)
  have eM1_1:=nQ o1 (N0+16)
  refine m1 (j eM1_0 (j eM1_1 (j @hoS @hoN))) ?_
  exact hK _ _ ⟨M1,o1,(by omega),(by omega),(by omega),rfl,rfl⟩
 rintro a J ⟨M1,o1,fM1_0,fM1_1,fM1_2,rfl,rfl⟩
 refine Wsq [2,3] fun K2 hK2=>?_
 have e0:=nQ (N0+1) o1
 have e1:=nQ o1 (N0+16)
 refine qC [1,2,3,22,23,24] e0 e1 ?_
 refine Wb ?_
 obtain⟨e1,hse1,H⟩:=bE H
 refine zS [1,2,3,22,23,24] (fun s a J=>∃M2 o2 o3:Nat,N0<=M2/\N0<=o2/\o2<M2/\N0<=o3/\o3<M2/\¬o2=o3/\a=[(1,.fptr [.fsl (eL zA p0.Codes),.fsl (eL zF p0.Threads),.fsl (eL rBox p0.Boxes),.int .i64 p0.Turn,.int .i64 p0.Idle,.fsl (eL rI p0.Out)] 0),(2,.ptr o2 0 0),(3,.ptr o3 0 0),(22,.fsl (eL zF p0.Threads)),(23,.int .i64 (ilen p0.Threads)),(24,.int .i64 s.1)]/\J=hp E0 [(o2,some ⟨92,4,[[.fsl (eL rI s.2.1.Out),.fsl (eL rL_I s.2.1.Items),.fsl (eL rB s.2.1.Ended),.bool s.2.1.Rest]]⟩),(o3,some ⟨92,4,[[.fsl (eL rI s.2.2.Out),.fsl (eL rL_I s.2.2.Items),.osl 4 1 (eL rB s.2.2.Ended),.bool s.2.2.Rest]]⟩)] M2) (fun s x a J=>x=.exit 0/\Rc G 47 N0 (fun a J=>∃M3 o4 o5:Nat,N0<=M3/\N0<=o4/\o4<M3/\N0<=o5/\o5<M3/\¬o4=o5/\a=[(2,.ptr o4 0 0),(3,.ptr o5 0 0)]/\J=hp E0 [(o4,some ⟨92,4,[[.fsl (eL rI s.1.Out),.fsl (eL rL_I s.1.Items),.fsl (eL rB s.1.Ended),.bool s.1.Rest]]⟩),(o5,some ⟨92,4,[[.fsl (eL rI s.2.Out),.fsl (eL rL_I s.2.Items),.osl 4 1 (eL rB s.2.Ended),.bool s.2.Rest]]⟩)] M3) (AAct.keep a [2,3]) J) hse1 ?_ ?_ ?_
 .refine kp [1,2,3,22,23,24] ?_
  refine gP zI (N0+16) 0 2 ?_
  exact R3 (M1+4) (N0+1) (N0+16)
 .clear H hse1
  rintro⟨s3,s4,s5⟩ fl a J H ⟨M2,o2,o3,fM2_0,fM2_1,fM2_2,fM2_3,fM2_4,fM2_5,rfl,rfl⟩ K3 O3 hK3 hO3
  unfold jI at H;dsimp only at H
  have e0:=nQ o2 o3
  refine qB [1,2,3,22,23,24,25] e0 ?_
  refine Wsq [1,2,3,22,23,24] fun K4 hK4=>?_
  refine Ci H ?_ ?_<;>intro H
  .refine Js hK4 ?_
   refine Wsq [1,2,3,22,23,24] fun K5 hK5=>?_
   refine Wb ?_
   obtain⟨v8,hv8,H⟩:=bE H
   have e0:=nQ o2 o3
   have e1:=nQ o2 (M2+4)
   have e2:=nQ o3 (M2+4)
   refine qB [1,2,3,4,5,22,23,24] (j e0 (j e1 (j e2 (ix27 hv8)))) ?_
   refine gU Wre o3 0 2 ?_
   obtain⟨v9,hv9,H⟩:=bE H
   obtain⟨v10,hv10,H⟩:=bE H
   obtain⟨l11,hl11,H⟩:=bE H
   have q0:∀J i,bsA T 38 true i 1 [(0,.bool (ieq v10.Op 10))] J=some (.fsl (eL rB ([ieq v10.Op 10]:List Bool)),J):=fun _ _=>rfl
   refine AWP_ry tok tokM [13] [1,8,9,10,11,12,13,14,16] [0,2,3,4,5,6,7,1,8,9,10,11,12,13,14,15,16] [(13,[1])] [1,2,3,22,23,24] (fun a J=>a=[(1,.fptr [.fsl (eL zA p0.Codes),.fsl (eL zF p0.Threads),.fsl (eL rBox p0.Boxes),.int .i64 p0.Turn,.int .i64 p0.Idle,.fsl (eL rI p0.Out)] 0),(2,.ptr o2 0 0),(3,.ptr o3 0 0),(22,.fsl (eL zF p0.Threads)),(23,.int .i64 (ilen p0.Threads)),(24,.int .i64 s3)]/\J=hp E0 [(o2,some ⟨92,4,[[.fsl (eL rI s4.Out),.fsl (eL rL_I s4.Items),.fsl (eL rB s4.Ended),.bool s4.Rest]]⟩),(o3,some ⟨92,4,[[.fsl (eL rI s5.Out),.fsl (eL rL_I s5.Items),.sl (M2+22) 0 l11.length,.bool s5.Rest]]⟩),(M2+4,some ⟨42,2,[[.fsl (eL rI v8.Regs),.int .i64 v8.Pc]]⟩),(M2+22,some ⟨4,1,eL rB l11⟩)] (M2+25)) (by decide) (fun K hK=>?_) ?_
   .simp only[pickL,zN,zO]
    have e0:=nQ o2 o3
    have e1:=nQ o2 (M2+4)
    have e2:=nQ o2 (M2+7)
    have e3:=nQ o2 (M2+22)
    have e4:=nQ o3 (M2+4)
    have e5:=nQ o3 (M2+7)
    have e6:=nQ o3 (M2+22)
    refine m1 (j e0 (j e1 (j e2 (j e3 (j e4 (j e5 (j e6 (j (ix24 hv9) (j (ix34 hv10) (j q0 (app38 hl11))))))))))) ?_
    exact hK _ _ ⟨rfl,rfl⟩
   rintro a J ⟨ha,rfl⟩
   refine hK5 _ _ ?_;rw[ha]
   refine Rc.mk ?_
   have e0:=nQ o2 o3
   have e1:=nQ o2 (M2+4)
   have e2:=nQ o2 (M2+22)
   have e3:=nQ o3 (M2+4)
   have e4:=nQ o3 (M2+22)
   obtain rfl:=oi H
   refine qJ (j e0 (j e1 (j e2 (j e3 e4)))) hK3 ?_
   refine gP zI o3 0 2 ?_
   exact Rc.fin (zK (zK (AHeap.Sub.trans (AHeap.Sub.refl _) (zT rfl (by simp;try omega))))) ⟨M2+27,o2,o3,(by omega),(by omega),(by omega),(by omega),(by omega),(by omega),rfl,rfl⟩
  cases oj H
  refine zH (hO3 _ _ _ _ rfl ⟨rfl,?_⟩)
  refine kr ?_
  exact R3 (M2+1) o2 o3
 intro x a J hx
 obtain⟨y6,y7⟩:=e1
 obtain⟨rfl,b,U,hr,M3,o4,o5,fM3_0,fM3_1,fM3_2,fM3_3,fM3_4,fM3_5,rfl,rfl⟩:=hx
 (try dsimp only at H)
 show K2 _ _
 refine hK2 _ _ (zI hr ?_)
 refine Rc.mk ?_
 refine gU Wre o5 0 2 ?_
 have e0:=nQ o4 o5
 have e1:=nQ o4 M3
 have e2:=nQ o5 M3
 refine qB [2] (j e0 (j e1 e2)) ?_
 obtain rfl:=oi H
 refine Kp [2] ?_
 have z0:=nQ o4 o5
 have z1:=nQ o4 M3
 have z2:=nQ o5 M3
 refine Wr ?_
 exact⟨[.agg [.fsl (eL rI y7.Out),.fsl (eL rL_I y7.Items),.sl M3 0 y7.Ended.length,.bool y7.Rest]],by simp[z0,z1,z2],4,by simp[eN,z0,z1,z2]⟩

theorem c97 {p0:(List (List Int))}{p1:(List (List Int))}{r:Bool}(H:qQ p0 p1=some r):APure Tryz.prog G 97 [.fsl (eL rL_I p0),.fsl (eL rL_I p1)] (.bool r):=by
 refine qK func97 ntmps97 results97 fun N0=>?_
 unfold qQ at H
 refine qA [0,1] ?_
 refine Wsq [0,1] fun K1 hK1=>?_
 refine qA [0,1,10] ?_
 refine Ci H ?_ ?_<;>intro H
 .refine qA [4] ?_
  cases oj H;exact W4
 refine Js hK1 ?_
 refine Wsq [] fun K2 hK2=>?_
 refine qA [0,1,5] ?_
 refine Wb ?_
 obtain⟨e1,hse1,H⟩:=bE H
 refine zS [0,1,5] (fun s a J=>∃M1:Nat,N0<=M1/\a=[(0,.fsl (eL rL_I p0)),(1,.fsl (eL rL_I p1)),(5,.int .i64 s)]/\J=hp E0 [] M1) (fun e x a J=>match e with|.inl s=>x=.exit 0/\Rc G 27 N0 (fun a J=>∃M2:Nat,N0<=M2/\a=[]/\J=hp E0 [] M2) (AAct.keep a []) J|.inr s=>x=.ret/\∃vs,resA T J a [.tmp 4]=some vs/\∃d,thawA (fun _=>true) J d (tupA vs)=.bool s) hse1 ?_ ?_ ?_
 .refine kp [0,1,5] ?_
  exact R1 (N0+7)
 .clear H hse1
  rintro s1 fl a J H ⟨M1,fM1_0,rfl,rfl⟩ K3 O3 hK3 hO3
  unfold xQ at H;dsimp only at H
  refine Wsq [0,1,5] fun K4 hK4=>?_
  refine qA [0,1,5,14] ?_
  refine Ci H ?_ ?_<;>intro H
  .refine Js hK4 ?_
   refine Wsq [0,1,5] fun K5 hK5=>?_
   refine Wb ?_
   obtain⟨v2,hv2,H⟩:=bE H
   obtain⟨v3,hv3,H⟩:=bE H
   obtain⟨r4,hr4,H⟩:=bE H
   refine Sd tok tokM [] [] [0,1,2,3,4,5,6,7,8,9] [0,1,5,26] (by
    intro K k
    simp only[pickL,zN,zO]
    repeat first|simp -dsimp -implicitDefEqProofs [ix50 hv2,ix50 hv3]|refine Pc.mk (c51 hr4) ?_
    exact k) ?_
   refine Ci H ?_ ?_<;>intro H
   .refine qA [4] ?_
    cases oj H
    refine Kp [4] ?_
    refine Wr (hO3 _ _ _ _ rfl ⟨rfl,?_⟩)
    exact⟨[.bool false],by simp,4,by simp[eN]⟩
   refine Js hK5 ?_
   obtain rfl:=oi H
   refine qI hK3 ?_
   exact R1 (M1+17)
  cases oj H
  refine zH (hO3 _ _ _ _ rfl ⟨rfl,?_⟩)
  refine kr ?_
  exact R1 (M1+4)
 intro x a J hx
 rcases e1 with⟨⟩|r0
 .obtain⟨rfl,b,U,hr,M2,fM2_0,rfl,rfl⟩:=hx
  (try dsimp only at H)
  show K2 _ _
  refine hK2 _ _ (zI hr ?_)
  refine Rc.mk ?_
  refine qA [4] ?_
  cases oj H;exact W4
 obtain⟨rfl,hx2⟩:=hx
 (try dsimp only at H)
 cases oj H;first|exact hx2|(simp only[List.set_set] at hx2 ⊢;exact hx2)

theorem c98 {p0:List Bool}{p1:List Bool}{r:Bool}(H:qR p0 p1=some r):APure Tryz.prog G 98 [.fsl (eL rB p0),.fsl (eL rB p1)] (.bool r):=by
 refine qK func98 ntmps98 results98 fun N0=>?_
 unfold qR at H
 refine qA [0,1] ?_
 refine Wsq [0,1] fun K1 hK1=>?_
 refine qA [0,1,10] ?_
 refine Ci H ?_ ?_<;>intro H
 .refine qA [4] ?_
  cases oj H;exact W4
 refine Js hK1 ?_
 refine Wsq [] fun K2 hK2=>?_
 refine qA [0,1,5] ?_
 refine Wb ?_
 obtain⟨e1,hse1,H⟩:=bE H
 refine zS [0,1,5] (fun s a J=>∃M1:Nat,N0<=M1/\a=[(0,.fsl (eL rB p0)),(1,.fsl (eL rB p1)),(5,.int .i64 s)]/\J=hp E0 [] M1) (fun e x a J=>match e with|.inl s=>x=.exit 0/\Rc G 26 N0 (fun a J=>∃M2:Nat,N0<=M2/\a=[]/\J=hp E0 [] M2) (AAct.keep a []) J|.inr s=>x=.ret/\∃vs,resA T J a [.tmp 4]=some vs/\∃d,thawA (fun _=>true) J d (tupA vs)=.bool s) hse1 ?_ ?_ ?_
 .refine kp [0,1,5] ?_
  exact R1 (N0+7)
 .clear H hse1
  rintro s1 fl a J H ⟨M1,fM1_0,rfl,rfl⟩ K3 O3 hK3 hO3
  unfold xR at H;dsimp only at H
  refine Wsq [0,1,5] fun K4 hK4=>?_
  refine qA [0,1,5,14] ?_
  refine Ci H ?_ ?_<;>intro H
  .refine Js hK4 ?_
   refine Wsq [0,1,5] fun K5 hK5=>?_
   refine Wb ?_
   obtain⟨v2,hv2,H⟩:=bE H
   obtain⟨v3,hv3,H⟩:=bE H
   refine Sd tok tokM [] [] [0,1,2,3,4,5,6,7,8] [0,1,5,25] (by
    intro K k
    simp only[pickL,zN,zO]
    refine m2 (ix38 hv2) (ix38 hv3) ?_
    exact k) ?_
   refine Ci H ?_ ?_<;>intro H
   .refine qA [4] ?_
    cases oj H
    refine Kp [4] ?_
    refine Wr (hO3 _ _ _ _ rfl ⟨rfl,?_⟩)
    exact⟨[.bool false],by simp,4,by simp[eN]⟩
   refine Js hK5 ?_
   obtain rfl:=oi H
   refine qI hK3 ?_
   exact R1 (M1+16)
  cases oj H
  refine zH (hO3 _ _ _ _ rfl ⟨rfl,?_⟩)
  refine kr ?_
  exact R1 (M1+4)
 intro x a J hx
 rcases e1 with⟨⟩|r0
 .obtain⟨rfl,b,U,hr,M2,fM2_0,rfl,rfl⟩:=hx
  (try dsimp only at H)
  show K2 _ _
  refine hK2 _ _ (zI hr ?_)
  refine Rc.mk ?_
  refine qA [4] ?_
  cases oj H;exact W4
 obtain⟨rfl,hx2⟩:=hx
 (try dsimp only at H)
 cases oj H;first|exact hx2|(simp only[List.set_set] at hx2 ⊢;exact hx2)

theorem c64 {p0:gOutcome}{p1:gOutcome}{r:Bool}(H:vL p0 p1=some r):APure Tryz.prog G 64 [.agg [.fsl (eL rI p0.Out),.fsl (eL rL_I p0.Items),.fsl (eL rB p0.Ended),.bool p0.Rest],.agg [.fsl (eL rI p1.Out),.fsl (eL rL_I p1.Items),.fsl (eL rB p1.Ended),.bool p1.Rest]] (.bool r):=by
 refine qK func64 ntmps64 results64 fun N0=>?_
 unfold vL at H
 refine S0 tok [0,1] [2,3] ?_
 obtain⟨r1,hr1,H⟩:=bE H
 obtain⟨g3,hg3,H⟩:=bE H
 obtain⟨g5,hg5,H⟩:=bE H
 obtain⟨g6,hg6,H⟩:=bE H
 refine qF tok [4] ([(4,.bool g6)]) (hp E0 [] (N0+30)) (by
  intro K k
  refine m0 ?_
  refine(c51 hr1).app (m0 ?_)
  cases hbg3:r1
  .cases oj (ifF hbg3 hg3)
   cases oj (ifF rfl hg5)
   cases oj (ifF rfl hg6)
   exact m1 hbg3 k
  replace hg3:=ifT hbg3 hg3
  obtain⟨r2,hr2,hg3⟩:=bE hg3
  obtain rfl:=oi hg3
  refine m1 hbg3 ?_
  refine(c97 hr2).app (m1 hbg3 ?_)
  cases hbg5:r2
  .cases oj (ifF hbg5 hg5)
   cases oj (ifF rfl hg6)
   exact m2 hbg3 hbg5 k
  replace hg5:=ifT hbg5 hg5
  obtain⟨r4,hr4,hg5⟩:=bE hg5
  obtain rfl:=oi hg5
  refine m2 hbg3 hbg5 ?_
  refine(c98 hr4).app (m2 hbg3 hbg5 ?_)
  cases hbg6:r4
  .cases oj (ifF hbg6 hg6)
   exact m1 (j hbg3 (j hbg5 hbg6)) k
  cases oj (ifT hbg6 hg6)
  refine m1 (j hbg3 (j hbg5 hbg6)) ?_
  exact k) ?_
 cases oj H;exact W4

theorem c28 {p0:List Int}{p1:(List (List gQuad))}{p2:(List (List gQuad))}{p3:Int}{r:Bool}(H:gV p0 p1 p2 p3=some r):APure Tryz.prog G 28 [.fsl (eL rI p0),.fsl (eL zA p1),.fsl (eL zA p2),.int .i64 p3] (.bool r):=by
 refine qK func28 ntmps28 results28 fun N0=>?_
 unfold gV at H
 refine qA [0,1,2,3] ?_
 obtain⟨r1,hr1,H⟩:=bE H
 obtain⟨r2,hr2,H⟩:=bE H
 refine Sx tok [] [0,1,2,3,9] (by intro K k;(repeat first|simp -dsimp -implicitDefEqProofs|refine(c18 hr1).app ?_|refine(c63 hr2).app ?_);exact k) ?_
 refine Wsq [0,2,3,9] fun K1 hK1=>?_
 refine qA [0,1,2,3,9,17] ?_
 refine Ci H ?_ ?_<;>intro H
 .refine qA [8] ?_
  cases oj H;exact W4
 refine Js hK1 ?_
 obtain⟨r3,hr3,H⟩:=bE H
 obtain⟨r4,hr4,H⟩:=bE H
 obtain⟨r5,hr5,H⟩:=bE H
 refine Sd tok tokM [] [5] [0,1,2,3,4,5,6,7] [8] (by
  intro K k
  simp only[pickL,zN,zO]
  repeat first|simp -dsimp -implicitDefEqProofs|refine Pc.mk (c18 hr3) ?_|refine Pc.mk (c63 hr4) ?_|refine Pc.mk (c64 hr5) ?_
  exact k) ?_
 cases oj H;exact W4

theorem c9 {p0:List Int}{r:Bool}(H:uP p0=some r):APure Tryz.prog G 9 [.fsl (eL rU8 p0)] (.bool r):=by
 refine qK func9 ntmps9 results9 fun N0=>?_
 unfold uP at H
 refine qA [0] ?_
 refine Wsq [0] fun K1 hK1=>?_
 refine qA [0,15] ?_
 refine Ci H ?_ ?_<;>intro H
 .refine qA [2] ?_
  cases oj H;exact W4
 refine Js hK1 ?_
 obtain⟨r1,hr1,H⟩:=bE H
 refine qD [3,4] (c13 hr1) ?_
 obtain⟨r2,hr2,H⟩:=bE H
 refine qD [3,4,5,6] (c14 hr2) ?_
 obtain⟨r3,hr3,H⟩:=bE H
 refine qD [3,4,5,6,7,8] (c15 hr3) ?_
 refine Wsq [3,4] fun K2 hK2=>?_
 obtain⟨g5,hg5,H⟩:=bE H
 obtain⟨g6,hg6,H⟩:=bE H
 refine qF tok [3,4,5,6,7,8,45] ([(3,.fsl (eL rI r1.1)),(4,.fsl (eL zA r1.2)),(5,.ptr (N0+17) 0 0),(6,.bool r2.2),(7,.ptr (N0+26) 0 0),(8,.bool r3.2),(45,.bool g6)]) (hp E0 [(N0+17,some ⟨30,6,[[.fsl (eL zA r2.1.Codes),.fsl (eL zF r2.1.Threads),.fsl (eL rBox r2.1.Boxes),.int .i64 r2.1.Turn,.int .i64 r2.1.Idle,.fsl (eL rI r2.1.Out)]]⟩),(N0+26,some ⟨30,6,[[.fsl (eL zA r3.1.Codes),.fsl (eL zF r3.1.Threads),.fsl (eL rBox r3.1.Boxes),.int .i64 r3.1.Turn,.int .i64 r3.1.Idle,.fsl (eL rI r3.1.Out)]]⟩)] (N0+42)) (by
  intro K k
  refine m0 ?_
  cases hbg5:bneb r2.2 r3.2
  .replace hg5:=ifF hbg5 hg5
   obtain⟨r4,hr4,hg5⟩:=bE hg5
   obtain rfl:=oi hg5
   refine m1 hbg5 ?_
   refine(c16 hr4).app (m1 hbg5 ?_)
   cases hbg6:(bnot r4)
   .cases oj (ifF hbg6 hg6)
    exact m2 hbg5 hbg6 k
   cases oj (ifT hbg6 hg6)
   exact m2 hbg5 hbg6 k
  cases oj (ifT hbg5 hg5)
  cases oj (ifT rfl hg6)
  refine m1 hbg5 ?_
  exact k) ?_
 refine Ci H ?_ ?_<;>intro H
 .obtain⟨g8,hg8,H⟩:=bE H
  refine qF tok [2] ([(2,.bool g8)]) (hp E0 [(N0+17,some ⟨30,6,[[.fsl (eL zA r2.1.Codes),.fsl (eL zF r2.1.Threads),.fsl (eL rBox r2.1.Boxes),.int .i64 r2.1.Turn,.int .i64 r2.1.Idle,.fsl (eL rI r2.1.Out)]]⟩),(N0+26,some ⟨30,6,[[.fsl (eL zA r3.1.Codes),.fsl (eL zF r3.1.Threads),.fsl (eL rBox r3.1.Boxes),.int .i64 r3.1.Turn,.int .i64 r3.1.Idle,.fsl (eL rI r3.1.Out)]]⟩)] (N0+51)) (by
   intro K k
   refine m0 ?_
   cases hbg8:beqb r2.2 r3.2
   .cases oj (ifF hbg8 hg8)
    exact m1 hbg8 k
   replace hg8:=ifT hbg8 hg8
   obtain⟨r7,hr7,hg8⟩:=bE hg8
   cases oj hg8
   refine m1 hbg8 ?_
   refine(c16 hr7).app (m1 hbg8 ?_)
   exact k) ?_
  cases oj H;exact W4
 refine Js hK2 ?_
 have q0:∀J i,bsA T 24 true i 0 [] J=some (.esl,J):=fun _ _=>rfl
 refine Sy tok [0] [3,4,9] q0 ?_
 refine Wsq [3,4,9] fun K3 hK3=>?_
 refine qA [3,4,9,10] ?_
 refine Wb ?_
 obtain⟨e1,hse1,H⟩:=bE H
 refine zS [3,4,9,10] (fun s a J=>∃M1 o1:Nat,N0<=M1/\N0<=o1/\o1<M1/\a=[(3,.fsl (eL rI r1.1)),(4,.fsl (eL zA r1.2)),(9,.sl o1 0 s.2.length),(10,.int .i64 s.1)]/\J=hp E0 [(o1,some ⟨34,1,eL zA s.2⟩)] M1) (fun e x a J=>match e with|.inl s=>x=.exit 0/\Rc G 79 N0 (fun a J=>∃M2 o2:Nat,N0<=M2/\N0<=o2/\o2<M2/\a=[(3,.fsl (eL rI r1.1)),(4,.fsl (eL zA r1.2)),(9,.sl o2 0 s.length)]/\J=hp E0 [(o2,some ⟨34,1,eL zA s⟩)] M2) (AAct.keep a [3,4,9]) J|.inr s=>x=.ret/\∃vs,resA T J a [.tmp 2]=some vs/\∃d,thawA (fun _=>true) J d (tupA vs)=.bool s) hse1 ?_ ?_ ?_
 .refine kp [3,4,9,10] ?_
  refine gNilS zI 9 34 1 [(N0+17,some ⟨30,6,[[.fsl (eL zA r2.1.Codes),.fsl (eL zF r2.1.Threads),.fsl (eL rBox r2.1.Boxes),.int .i64 r2.1.Turn,.int .i64 r2.1.Idle,.fsl (eL rI r2.1.Out)]]⟩),(N0+26,some ⟨30,6,[[.fsl (eL zA r3.1.Codes),.fsl (eL zF r3.1.Threads),.fsl (eL rBox r3.1.Boxes),.int .i64 r3.1.Turn,.int .i64 r3.1.Idle,.fsl (eL rI r3.1.Out)]]⟩),(N0+45,some ⟨34,1,eL zA ([]:List (List gQuad))⟩)] [(3,.fsl (eL rI r1.1)),(4,.fsl (eL zA r1.2)),(9,.sl (N0+45) 0 ([]:List (List gQuad)).length),(10,.int .i64 0)] (by simp(disch:=omega)) (by simp(disch:=omega) [eN]) [3,4,9,10] rfl ?_
  exact Rc.fin (AHeap.Sub.trans (AHeap.Sub.trans (zK (AHeap.Sub.refl _)) (zT rfl (by simp;try omega))) (zT rfl (by simp;try omega))) ⟨N0+46,(N0+45),(by omega),(by omega),(by omega),rfl,rfl⟩
 .clear H hse1
  rintro⟨s9,s10⟩ fl a J H ⟨M1,o1,fM1_0,fM1_1,fM1_2,rfl,rfl⟩ K4 O4 hK4 hO4
  unfold oB at H;dsimp only at H
  refine Wsq [3,4,9,10] fun K5 hK5=>?_
  refine qA [3,4,9,10,58] ?_
  refine Ci H ?_ ?_<;>intro H
  .refine Js hK5 ?_
   refine Wsq [3,4,9,10] fun K6 hK6=>?_
   refine Wb ?_
   obtain⟨v12,hv12,H⟩:=bE H
   obtain⟨r13,hr13,H⟩:=bE H
   refine qE [3,4,9,10,11,12] (ix24 hv12) (c27 hr13) ?_
   refine Wsq [3,4,9,10,11] fun K7 hK7=>?_
   refine qA [3,4,9,10,11,70] ?_
   refine Ci H ?_ ?_<;>intro H
   .refine qA [2] ?_
    cases oj H
    refine Kp [2] ?_
    refine Wr (hO4 _ _ _ _ rfl ⟨rfl,?_⟩)
    exact⟨[.bool false],by simp,4,by simp[eN]⟩
   refine Js hK7 ?_
   obtain⟨l14,hl14,H⟩:=bE H
   have q1:∀J i,bsA T 24 true i 1 [(0,.fsl (eL rQuad r13.1))] J=some (.fsl (eL zA ([r13.1]:List (List gQuad))),J):=fun _ _=>rfl
   have e0:=nQ o1 (M1+19)
   refine Rb tok [2] (j e0 (j q1 (app24 hl14))) hK6 ?_
   obtain rfl:=oi H
   refine qI hK4 ?_
   exact R2 (M1+24) (M1+19)
  obtain rfl:=oi H
  refine zH (hO4 _ _ _ _ rfl ⟨rfl,?_⟩)
  refine kr ?_
  exact R2 (M1+4) o1
 intro x a J hx
 rcases e1 with y11|r0
 .obtain⟨rfl,b,U,hr,M2,o2,fM2_0,fM2_1,fM2_2,rfl,rfl⟩:=hx
  (try dsimp only at H)
  show K3 _ _
  refine hK3 _ _ (zI hr ?_)
  refine Rc.mk ?_
  obtain⟨r15,hr15,H⟩:=bE H
  refine jJ tok [] [2] (fun a J=>a=[(2,.bool r15)]/\J=hp E0 [(o2,some ⟨34,1,eL zA y11⟩)] (M2+5)) (fun K hK=>?_) ?_
  .skip
   refine m0 ?_
   refine(borrow 8 (c28 hr15) (by simp) rfl).mono ?_;rintro _ _ ⟨rfl,rfl⟩;try simp -dsimp -implicitDefEqProofs
   exact hK _ _ ⟨rfl,rfl⟩
  rintro a J ⟨rfl,rfl⟩
  cases oj H;exact W4
 obtain⟨rfl,hx2⟩:=hx
 (try dsimp only at H)
 cases oj H;first|exact hx2|(simp only[List.set_set] at hx2 ⊢;exact hx2)
end Go.Proofs.YtnaikeccpnadgaaGreat
