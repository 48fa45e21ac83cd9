/- The contracts of functions of the program (CXCrewStepThread): each computes what its mirror computes. No conditions. -/
import Derived.Test.YtolmjhgondilhaaGreatNCT3
set_option linter.unusedSimpArgs false
set_option linter.unusedVariables false
set_option maxRecDepth 20000
set_option maxHeartbeats 4000000
namespace Go.Proofs.YtolmjhgondilhaaGreat
open Go Go.Abs Go.RowKit Tryz

theorem c11 {p0:List Int}{r:Bool}(H:jB p0=some r):APure Tryz.prog G 11 [.fsl (eL rU8 p0)] (.bool r):=by
 refine qK func11 ntmps11 results11 fun N0=>?_
 unfold jB at H
 refine qA [0] ?_
 refine Wsq [0] fun K1 hK1=>?_
 refine qA [0,18] ?_
 refine Ci H ?_ ?_<;>intro H
 .refine qA [2] ?_
  cases oj H;exact W4
 refine Js hK1 ?_
 obtain⟨r1,hr1,H⟩:=bE H
 refine qD [3] (c30 hr1) ?_
 obtain⟨r2,hr2,H⟩:=bE H
 refine qD [3,4,5] (c29 hr2) ?_
 obtain⟨r3,hr3,H⟩:=bE H
 refine qD [3,4,5,6,7] (c31 hr3) ?_
 refine Wsq [3,4] fun K2 hK2=>?_
 obtain⟨g5,hg5,H⟩:=bE H
 obtain⟨g6,hg6,H⟩:=bE H
 refine qF tok [3,4,5,6,7,43] ([(3,.ptr (N0+6) 0 0),(4,.ptr (N0+13) 0 0),(5,.bool r2.2),(6,.ptr (N0+21) 0 0),(7,.bool r3.2),(43,.bool g6)]) (hp E0 [(N0+6,some ⟨30,6,[[.fsl (eL zA r1.Codes),.fsl (eL zB r1.Threads),.fsl (eL rBox r1.Boxes),.int .i64 r1.Turn,.int .i64 r1.Idle,.fsl (eL rI r1.Out)]]⟩),(N0+13,some ⟨30,6,[[.fsl (eL zA r2.1.Codes),.fsl (eL zB r2.1.Threads),.fsl (eL rBox r2.1.Boxes),.int .i64 r2.1.Turn,.int .i64 r2.1.Idle,.fsl (eL rI r2.1.Out)]]⟩),(N0+21,some ⟨30,6,[[.fsl (eL zA r3.1.Codes),.fsl (eL zB r3.1.Threads),.fsl (eL rBox r3.1.Boxes),.int .i64 r3.1.Turn,.int .i64 r3.1.Idle,.fsl (eL rI r3.1.Out)]]⟩)] (N0+37)) (by
  intro K k
  refine m0 ?_
  cases hbg5:bneb r2.2 r3.2
  .replace hg5:=ifF hbg5 hg5
   obtain⟨r4,hr4,hg5⟩:=bE hg5
   obtain rfl:=oi hg5
   refine m1 hbg5 ?_
   refine(c15 hr4).app (m1 hbg5 ?_)
   cases hbg6:(bnot r4)
   .cases oj (ifF hbg6 hg6)
    exact m2 hbg5 hbg6 k
   cases oj (ifT hbg6 hg6)
   exact m2 hbg5 hbg6 k
  cases oj (ifT hbg5 hg5)
  cases oj (ifT rfl hg6)
  refine m1 hbg5 ?_
  exact k) ?_
 refine Ci H ?_ ?_<;>intro H
 .obtain⟨g8,hg8,H⟩:=bE H
  refine qF tok [2] ([(2,.bool g8)]) (hp E0 [(N0+6,some ⟨30,6,[[.fsl (eL zA r1.Codes),.fsl (eL zB r1.Threads),.fsl (eL rBox r1.Boxes),.int .i64 r1.Turn,.int .i64 r1.Idle,.fsl (eL rI r1.Out)]]⟩),(N0+13,some ⟨30,6,[[.fsl (eL zA r2.1.Codes),.fsl (eL zB r2.1.Threads),.fsl (eL rBox r2.1.Boxes),.int .i64 r2.1.Turn,.int .i64 r2.1.Idle,.fsl (eL rI r2.1.Out)]]⟩),(N0+21,some ⟨30,6,[[.fsl (eL zA r3.1.Codes),.fsl (eL zB r3.1.Threads),.fsl (eL rBox r3.1.Boxes),.int .i64 r3.1.Turn,.int .i64 r3.1.Idle,.fsl (eL rI r3.1.Out)]]⟩)] (N0+46)) (by
   intro K k
   refine m0 ?_
   cases hbg8:beqb r2.2 r3.2
   .cases oj (ifF hbg8 hg8)
    exact m1 hbg8 k
   replace hg8:=ifT hbg8 hg8
   obtain⟨r7,hr7,hg8⟩:=bE hg8
   cases oj hg8
   refine m1 hbg8 ?_
   refine(c15 hr7).app (m1 hbg8 ?_)
   exact k) ?_
  cases oj H;exact W4
 refine Js hK2 ?_
 refine Wsq [3,4] fun K3 hK3=>?_
 refine qA [3,4,57] ?_
 refine Ci H ?_ ?_<;>intro H
 .obtain⟨r9,hr9,H⟩:=bE H
  refine qD [2] (c15 hr9) ?_
  cases oj H;exact W4
 refine Js hK3 ?_
 obtain⟨v10,hv10,H⟩:=bE H
 obtain⟨v11,hv11,H⟩:=bE H
 obtain⟨r12,hr12,H⟩:=bE H
 refine Sd tok tokM [] [1,3,7,9,10,11,13,20,21] [0,2,6,8,12,1,3,4,5,7,9,10,11,13,14,15,16,17,18,19,20,21,22,23,24] [3,4,8,9,10,11] (by
  intro K k
  simp only[pickL,zJ,zL]
  repeat first|simp -dsimp -implicitDefEqProofs [ix24 hv10,ix27 hv11]|refine Pc.mk (c35 hr12) ?_
  exact k) ?_
 obtain⟨r13,hr13,H⟩:=bE H
 refine qD [3,4,8,9,10,12,13,14] (c36 hr13) ?_
 refine Wsq [3,4,8,9,10,12,13,14] fun K4 hK4=>?_
 refine qA [3,4,8,9,10,12,13,14,15] ?_
 refine Wb ?_
 obtain⟨e1,hse1,H⟩:=bE H
 refine zR [3,4,8,9,10,12,13,14,15] (fun s a J=>∃M1 o1 o2 o3:Nat,N0<=M1/\N0<=o1/\o1<M1/\N0<=o2/\o2<M1/\N0<=o3/\o3<M1/\¬o1=o2/\¬o1=o3/\¬o2=o3/\a=[(3,.ptr o1 0 0),(4,.ptr o2 0 0),(8,.ptr o3 0 0),(9,.fsl (eL rBox r12.2.1)),(10,.fsl (eL rI r12.2.2.1)),(12,.int .i64 r13.1),(13,.int .i64 r13.2.1),(14,.bool r13.2.2),(15,.int .i64 s.1)]/\J=hp E0 [(o1,some ⟨30,6,[[.fsl (eL zA s.2.1.Codes),.fsl (eL zB s.2.1.Threads),.fsl (eL rBox s.2.1.Boxes),.int .i64 s.2.1.Turn,.int .i64 s.2.1.Idle,.fsl (eL rI s.2.1.Out)]]⟩),(o2,some ⟨30,6,[[.fsl (eL zA s.2.2.1.Codes),.fsl (eL zB s.2.2.1.Threads),.fsl (eL rBox s.2.2.1.Boxes),.int .i64 s.2.2.1.Turn,.int .i64 s.2.2.1.Idle,.fsl (eL rI s.2.2.1.Out)]]⟩),(o3,some ⟨42,2,[[.fsl (eL rI s.2.2.2.Regs),.int .i64 s.2.2.2.Pc]]⟩)] M1) (fun e x a J=>match e with|.inl s=>x=.exit 0/\Rc G 159 N0 (fun a J=>∃M2 o4 o5 o6:Nat,N0<=M2/\N0<=o4/\o4<M2/\N0<=o5/\o5<M2/\N0<=o6/\o6<M2/\¬o4=o5/\¬o4=o6/\¬o5=o6/\a=[(3,.ptr o4 0 0),(4,.ptr o5 0 0),(8,.ptr o6 0 0),(9,.fsl (eL rBox r12.2.1)),(10,.fsl (eL rI r12.2.2.1)),(12,.int .i64 r13.1),(13,.int .i64 r13.2.1),(14,.bool r13.2.2)]/\J=hp E0 [(o4,some ⟨30,6,[[.fsl (eL zA s.1.Codes),.fsl (eL zB s.1.Threads),.fsl (eL rBox s.1.Boxes),.int .i64 s.1.Turn,.int .i64 s.1.Idle,.fsl (eL rI s.1.Out)]]⟩),(o5,some ⟨30,6,[[.fsl (eL zA s.2.1.Codes),.fsl (eL zB s.2.1.Threads),.fsl (eL rBox s.2.1.Boxes),.int .i64 s.2.1.Turn,.int .i64 s.2.1.Idle,.fsl (eL rI s.2.1.Out)]]⟩),(o6,some ⟨42,2,[[.fsl (eL rI s.2.2.Regs),.int .i64 s.2.2.Pc]]⟩)] M2) (AAct.keep a [3,4,8,9,10,12,13,14]) J|.inr s=>x=.ret/\∃vs,resA T J a [.tmp 2]=some vs/\∃d,thawA (fun _=>true) J d (tupA vs)=.bool s) hse1 ?_ ?_ ?_
 .refine kp [3,4,8,9,10,12,13,14,15] ?_
  exact Rc.fin (zM (zM (AHeap.Sub.trans (zM (AHeap.Sub.refl _)) (zU rfl (by simp;try omega))))) ⟨N0+85,(N0+6),(N0+13),(N0+63),(by omega),(by omega),(by omega),(by omega),(by omega),(by omega),(by omega),(by omega),(by omega),(by omega),rfl,rfl⟩
 .clear H hse1
  rintro⟨s14,s15,s16,s17⟩ fl a J H ⟨M1,o1,o2,o3,fM1_0,fM1_1,fM1_2,fM1_3,fM1_4,fM1_5,fM1_6,fM1_7,fM1_8,fM1_9,rfl,rfl⟩ K5 O5 hK5 hO5
  unfold kU at H;dsimp only at H
  refine Wsq [3,4,8,9,10,12,13,14,15] fun K6 hK6=>?_
  have e0:=nQ o1 o2
  have e1:=nQ o1 o3
  have e2:=nQ o2 o3
  refine qB [3,4,8,9,10,12,13,14,15,98] (j e0 (j e1 e2)) ?_
  refine Ci H ?_ ?_<;>intro H
  .refine Js hK6 ?_
   refine Wsq [3,4,8,9,10,12,13,14,15] fun K7 hK7=>?_
   refine Wb ?_
   obtain⟨g24,hg24,H⟩:=bE H
   refine gO tok tokM [] [2,6,11,13,14] [0,1,2,3,4,5,7,10,12,6,8,9,11,13,14,15,16,17] [3,4,8,9,10,12,13,14,15,118] (fun a J=>a=[(3,.ptr o1 0 0),(4,.ptr o2 0 0),(8,.ptr o3 0 0),(9,.fsl (eL rBox r12.2.1)),(10,.fsl (eL rI r12.2.2.1)),(12,.int .i64 r13.1),(13,.int .i64 r13.2.1),(14,.bool r13.2.2),(15,.int .i64 s14),(118,.bool g24)]/\J=hp E0 [(o1,some ⟨30,6,[[.fsl (eL zA s15.Codes),.fsl (eL zB s15.Threads),.fsl (eL rBox s15.Boxes),.int .i64 s15.Turn,.int .i64 s15.Idle,.fsl (eL rI s15.Out)]]⟩),(o2,some ⟨30,6,[[.fsl (eL zA s16.Codes),.fsl (eL zB s16.Threads),.fsl (eL rBox s16.Boxes),.int .i64 s16.Turn,.int .i64 s16.Idle,.fsl (eL rI s16.Out)]]⟩),(o3,some ⟨42,2,[[.fsl (eL rI s17.Regs),.int .i64 s17.Pc]]⟩)] (M1+23)) (by decide) (fun K hK=>?_) ?_
   .simp only[pickL,zJ,zL]
    have e0:=nQ o1 o2
    have e1:=nQ o1 o3
    have e2:=nQ o2 o3
    refine m1 (j e0 (j e1 e2)) ?_
    cases hbg24:ine s14 s15.Turn
    .cases oj (ifF hbg24 hg24)
     refine m1 (j e0 (j e1 (j e2 hbg24))) ?_
     exact hK _ _ ⟨rfl,rfl⟩
    replace hg24:=ifT hbg24 hg24
    obtain⟨v21,hv21,hg24⟩:=bE hg24
    obtain⟨v22,hv22,hg24⟩:=bE hg24
    obtain⟨r23,hr23,hg24⟩:=bE hg24
    cases oj hg24
    refine m1 (j e0 (j e1 (j e2 (j hbg24 (j (ix27 hv21) (ix27 hv22)))))) ?_
    refine Pc.mk (c37 hr23) (m1 (j e0 (j e1 (j e2 (j hbg24 (j (ix27 hv21) (ix27 hv22)))))) ?_)
    exact hK _ _ ⟨rfl,rfl⟩
   rintro a J ⟨rfl,rfl⟩
   refine Ci H ?_ ?_<;>intro H
   .have e0:=nQ o1 o2
    have e1:=nQ o1 o3
    have e2:=nQ o2 o3
    refine qB [2] (j e0 (j e1 e2)) ?_
    cases oj H
    refine Kp [2] ?_
    have z0:=nQ o1 o2
    have z1:=nQ o1 o3
    have z2:=nQ o2 o3
    refine Wr (hO5 _ _ _ _ rfl ⟨rfl,?_⟩)
    exact⟨[.bool false],by simp[z0,z1,z2],4,by simp[eN,z0,z1,z2]⟩
   refine Js hK7 ?_
   have e0:=nQ o1 o2
   have e1:=nQ o1 o3
   have e2:=nQ o2 o3
   obtain rfl:=oi H
   refine qJ (j e0 (j e1 e2)) hK5 ?_
   exact R4 (M1+26) o1 o2 o3
  obtain rfl:=oi H
  refine zK (hO5 _ _ _ _ rfl ⟨rfl,?_⟩)
  refine kr ?_
  exact R4 (M1+5) o1 o2 o3
 intro x a J hx
 rcases e1 with⟨y18,y19,y20⟩|r0
 .obtain⟨rfl,b,U,hr,M2,o4,o5,o6,fM2_0,fM2_1,fM2_2,fM2_3,fM2_4,fM2_5,fM2_6,fM2_7,fM2_8,fM2_9,rfl,rfl⟩:=hx
  (try dsimp only at H)
  show K4 _ _
  refine hK4 _ _ (zH hr ?_)
  refine Rc.mk ?_
  obtain⟨g27,hg27,H⟩:=bE H
  obtain⟨g29,hg29,H⟩:=bE H
  obtain⟨g33,hg33,H⟩:=bE H
  obtain⟨g34,hg34,H⟩:=bE H
  obtain⟨g35,hg35,H⟩:=bE H
  refine AWP_sy tok tokM [20] [3,5,8,13,19,22,23,25,26,30,36] [0,1,2,4,3,5,6,7,8,9,10,11,12,14,13,15,16,17,18,20,21,24,19,22,23,25,26,27,28,29,31,30,32,33,34,35,37,36,38,39,40] [(23,[19]),(25,[19])] [2] (fun a J=>a=[(2,.bool g35)]/\AHeap.Sub (hp E0 [(o4,some ⟨30,6,[[.fsl (eL zA y18.Codes),.fsl (eL zB y18.Threads),.fsl (eL rBox y18.Boxes),.int .i64 y18.Turn,.int .i64 y18.Idle,.fsl (eL rI y18.Out)]]⟩),(o5,some ⟨30,6,[[.fsl (eL zA y19.Codes),.fsl (eL zB y19.Threads),.fsl (eL rBox y19.Boxes),.int .i64 y19.Turn,.int .i64 y19.Idle,.fsl (eL rI y19.Out)]]⟩),(o6,some ⟨42,2,[[.fsl (eL rI y20.Regs),.int .i64 y20.Pc]]⟩)] (M2+41)) J) (by decide) (fun K hK=>?_) ?_
  .simp only[pickL,zJ,zL]
   have e0:=nQ o4 o5
   have e1:=nQ o4 o6
   have e2:=nQ o5 o6
   have e3:=nQ o4 (M2+20)
   have e4:=nQ o4 (M2+23)
   have e5:=nQ o4 (M2+25)
   have e6:=nQ o5 (M2+20)
   have e7:=nQ o5 (M2+23)
   have e8:=nQ o5 (M2+25)
   have e9:=nQ o6 (M2+20)
   have e10:=nQ o6 (M2+23)
   have e11:=nQ o6 (M2+25)
   refine m1 (j e0 (j e1 (j e2 (j e3 (j e4 (j e5 (j e6 (j e7 (j e8 (j e9 (j e10 e11))))))))))) ?_
   cases hbg27:r13.2.2
   .cases oj (ifF hbg27 hg27)
    cases oj (ifF rfl hg29)
    cases oj (ifF rfl hg33)
    cases oj (ifF rfl hg34)
    cases oj (ifF rfl hg35)
    refine m1 (j e0 (j e1 (j e2 (j e3 (j e4 (j e5 (j e6 (j e7 (j e8 (j e9 (j e10 (j e11 hbg27)))))))))))) ?_
    exact hK _ _ ⟨rfl,sW⟩
   replace hg27:=ifT hbg27 hg27
   obtain⟨v25,hv25,hg27⟩:=bE hg27
   obtain⟨r26,hr26,hg27⟩:=bE hg27
   obtain rfl:=oi hg27
   refine m1 (j e0 (j e1 (j e2 (j e3 (j e4 (j e5 (j e6 (j e7 (j e8 (j e9 (j e10 (j e11 (j hbg27 (ix27 hv25)))))))))))))) ?_
   refine Pc.mk (c37 hr26) (m1 (j e0 (j e1 (j e2 (j e3 (j e4 (j e5 (j e6 (j e7 (j e8 (j e9 (j e10 (j e11 (j hbg27 (ix27 hv25)))))))))))))) ?_)
   cases hbg29:r26
   .cases oj (ifF hbg29 hg29)
    cases oj (ifF rfl hg33)
    cases oj (ifF rfl hg34)
    cases oj (ifF rfl hg35)
    refine m1 (j e0 (j e1 (j e2 (j e3 (j e4 (j e5 (j e6 (j e7 (j e8 (j e9 (j e10 (j e11 (j hbg27 (j (ix27 hv25) hbg29)))))))))))))) ?_
    exact hK _ _ ⟨rfl,sW⟩
   replace hg29:=ifT hbg29 hg29
   obtain⟨r28,hr28,hg29⟩:=bE hg29
   obtain rfl:=oi hg29
   refine m1 (j e0 (j e1 (j e2 (j e3 (j e4 (j e5 (j e6 (j e7 (j e8 (j e9 (j e10 (j e11 (j hbg27 (j (ix27 hv25) hbg29)))))))))))))) ?_
   refine Pc.mk (c38 hr28) (m1 (j e0 (j e1 (j e2 (j e3 (j e4 (j e5 (j e6 (j e7 (j e8 (j e9 (j e10 (j e11 (j hbg27 (j (ix27 hv25) hbg29)))))))))))))) ?_)
   cases hbg33:r28
   .cases oj (ifF hbg33 hg33)
    cases oj (ifF rfl hg34)
    cases oj (ifF rfl hg35)
    refine m1 (j e0 (j e1 (j e2 (j e3 (j e4 (j e5 (j e6 (j e7 (j e8 (j e9 (j e10 (j e11 (j hbg27 (j (ix27 hv25) (j hbg29 hbg33))))))))))))))) ?_
    exact hK _ _ ⟨rfl,sW⟩
   replace hg33:=ifT hbg33 hg33
   obtain⟨l30,hl30,hg33⟩:=bE hg33
   obtain⟨l31,hl31,hg33⟩:=bE hg33
   obtain⟨r32,hr32,hg33⟩:=bE hg33
   have q0:∀J i,bsA T 23 true i 0 [] J=some (.esl,J):=fun _ _=>rfl
   obtain rfl:=oi hg33
   refine m1 (j e0 (j e1 (j e2 (j e3 (j e4 (j e5 (j e6 (j e7 (j e8 (j e9 (j e10 (j e11 (j hbg27 (j (ix27 hv25) (j hbg29 (j hbg33 (j q0 (j (sP hl30) (app23 hl31))))))))))))))))))) ?_
   refine(borrow 8 (c39 hr32) (by simp[e0,e1,e2,e3,e4,e5,e6,e7,e8,e9,e10,e11,hbg27,ix27 hv25,hbg29,hbg33,q0,sP hl30,app23 hl31]) rfl).mono ?_;rintro _ _ ⟨rfl,rfl⟩;try simp -dsimp -implicitDefEqProofs [e0,e1,e2,e3,e4,e5,e6,e7,e8,e9,e10,e11,hbg27,ix27 hv25,hbg29,hbg33,q0,sP hl30,app23 hl31]
   cases hbg34:r32
   .cases oj (ifF hbg34 hg34)
    cases oj (ifF rfl hg35)
    refine m1 (j e0 (j e1 (j e2 (j e3 (j e4 (j e5 (j e6 (j e7 (j e8 (j e9 (j e10 (j e11 (j hbg27 (j (ix27 hv25) (j hbg29 (j hbg33 (j q0 (j (sP hl30) (j (app23 hl31) hbg34))))))))))))))))))) ?_
    exact hK _ _ ⟨rfl,sW⟩
   obtain rfl:=oi (ifT hbg34 hg34)
   refine m1 (j e0 (j e1 (j e2 (j e3 (j e4 (j e5 (j e6 (j e7 (j e8 (j e9 (j e10 (j e11 (j hbg27 (j (ix27 hv25) (j hbg29 (j hbg33 (j q0 (j (sP hl30) (j (app23 hl31) hbg34))))))))))))))))))) ?_
   cases hbg35:(ieq y19.Turn r13.1)
   .cases oj (ifF hbg35 hg35)
    refine m1 (j e0 (j e1 (j e2 (j e3 (j e4 (j e5 (j e6 (j e7 (j e8 (j e9 (j e10 (j e11 (j hbg27 (j (ix27 hv25) (j hbg29 (j hbg33 (j q0 (j (sP hl30) (j (app23 hl31) (j hbg34 hbg35)))))))))))))))))))) ?_
    exact hK _ _ ⟨rfl,sW⟩
   cases oj (ifT hbg35 hg35)
   refine m1 (j e0 (j e1 (j e2 (j e3 (j e4 (j e5 (j e6 (j e7 (j e8 (j e9 (j e10 (j e11 (j hbg27 (j (ix27 hv25) (j hbg29 (j hbg33 (j q0 (j (sP hl30) (j (app23 hl31) (j hbg34 hbg35)))))))))))))))))))) ?_
   exact hK _ _ ⟨rfl,sW⟩
  rintro a J ⟨rfl,hsW⟩
  refine Wre (Ref.sub hsW) ?_
  have z3:=nQ o4 o5
  have z4:=nQ o4 o6
  have z5:=nQ o5 o6
  refine gFrz Wre 4 [] [(o4,some ⟨30,6,[[.fsl (eL zA y18.Codes),.fsl (eL zB y18.Threads),.fsl (eL rBox y18.Boxes),.int .i64 y18.Turn,.int .i64 y18.Idle,.fsl (eL rI y18.Out)]]⟩),(o5,some ⟨30,6,[[.fsl (eL zA y19.Codes),.fsl (eL zB y19.Threads),.fsl (eL rBox y19.Boxes),.int .i64 y19.Turn,.int .i64 y19.Idle,.fsl (eL rI y19.Out)]]⟩),(o6,some ⟨42,2,[[.fsl (eL rI y20.Regs),.int .i64 y20.Pc]]⟩)] [(2,.bool g35)] (by simp[z3,z4,z5]) (cutD (by simp[z3,z4,z5])) ?_
  obtain rfl:=oi H
  refine Kp [2] ?_
  have z6:=nQ o4 o5
  have z7:=nQ o4 o6
  have z8:=nQ o5 o6
  refine Wr ?_
  exact⟨[.bool g35],by simp[z6,z7,z8],4,by simp[eN,z6,z7,z8]⟩
 obtain⟨rfl,hx2⟩:=hx
 (try dsimp only at H)
 cases oj H;first|exact hx2|(simp only[List.set_set] at hx2 ⊢;exact hx2)
end Go.Proofs.YtolmjhgondilhaaGreat
