/- The contracts of functions of the program (CXCrewSame): each computes what its mirror computes. No conditions. -/
import Derived.Test.YtolmjhgondilhaaGreatNCNCrewSame
import Derived.Test.YtolmjhgondilhaaGreatNCT3
set_option linter.unusedSimpArgs false
set_option linter.unusedVariables false
set_option maxRecDepth 20000
set_option maxHeartbeats 4000000
namespace Go.Proofs.YtolmjhgondilhaaGreat
open Go Go.Abs Go.RowKit Tryz

theorem c20 {p0:gCrew}{p1:Int}{r:gCrew×Bool}(H:nN p0 p1=some r):APure Tryz.prog G 20 [.agg [.fsl (eL zA p0.Codes),.fsl (eL zJ p0.Threads),.fsl (eL rBox p0.Boxes),.int .i64 p0.Turn,.int .i64 p0.Idle,.fsl (eL rI p0.Out)],.int .i64 p1] (.tup [.agg [.fsl (eL zA r.1.Codes),.fsl (eL zJ r.1.Threads),.fsl (eL rBox r.1.Boxes),.int .i64 r.1.Turn,.int .i64 r.1.Idle,.fsl (eL rI r.1.Out)],.bool r.2]):=by
 refine qK func20 ntmps20 results20 fun N0=>?_
 unfold nN at H
 refine S0 tok [0] [1,2,4] ?_
 refine Wsq [1,2,4] fun K1 hK1=>?_
 refine gW Wre (N0+1) 0 0 ?_
 refine gW Wre (N0+1) 0 1 ?_
 refine gW Wre (N0+1) 0 2 ?_
 refine gW Wre (N0+1) 0 5 ?_
 obtain⟨r1,hr1,H⟩:=bE H
 obtain⟨g2,hg2,H⟩:=bE H
 obtain⟨g3,hg3,H⟩:=bE H
 refine qF tok [1,2,4,19] ([(1,.int .i64 p1),(2,.fptr [.fsl (eL zA p0.Codes),.fsl (eL zJ p0.Threads),.fsl (eL rBox p0.Boxes),.int .i64 p0.Turn,.int .i64 p0.Idle,.fsl (eL rI p0.Out)] 0),(4,.ptr (N0+1) 0 0),(19,.bool g3)]) (hp E0 [(N0+1,some ⟨30,6,[[.fsl [],.fsl [],.fsl [],.int .i64 0,.int .i64 0,.fsl []]]⟩)] (N0+14)) (by
  intro K k
  refine m0 ?_
  refine(c32 hr1).app (m0 ?_)
  cases hbg2:bnot r1
  .cases oj (ifF hbg2 hg2)
   refine m1 hbg2 ?_
   cases hbg3:(ilt p1 0)
   .cases oj (ifF hbg3 hg3)
    exact m2 hbg2 hbg3 k
   cases oj (ifT hbg3 hg3)
   exact m2 hbg2 hbg3 k
  cases oj (ifT hbg2 hg2)
  cases oj (ifT rfl hg3)
  refine m1 hbg2 ?_
  exact k) ?_
 refine Ci H ?_ ?_<;>intro H
 .refine qA [4,5] ?_
  cases oj H
  refine Kp [4,5] ?_
  exact V0
 refine Js hK1 ?_
 obtain⟨r4,hr4,H⟩:=bE H
 obtain⟨r5,hr5,H⟩:=bE H
 obtain⟨r6,hr6,H⟩:=bE H
 refine AWP_syC tok tokM [9] [5,8,10,11] [0,1,2,3,4,6,7,5,8,9,10,11] [] [1,2,4,6] (fun a J=>∃M1 o1:Nat,∃M2 o2:Nat,N0+26<=M1/\N0+26<=o1/\o1<M1/\M1<=M2/\M1<=o2/\o2<M2/\a=[(1,.int .i64 p1),(2,.fptr [.fsl (eL zA p0.Codes),.fsl (eL zJ p0.Threads),.fsl (eL rBox p0.Boxes),.int .i64 p0.Turn,.int .i64 p0.Idle,.fsl (eL rI p0.Out)] 0),(4,.ptr (N0+1) 0 0),(6,.ptr (N0+24) 0 0)]/\J=hp E0 [(N0+1,some ⟨30,6,[[.fsl [],.fsl [],.fsl [],.int .i64 0,.int .i64 0,.fsl []]]⟩),(o1,some ⟨103,2,eL zM r5⟩),(o2,some ⟨3,1,eL rI r6⟩),(N0+24,some ⟨30,6,[[.fsl (eL zA r4),.nilsl,.sl o1 0 r5.length,.int .i64 0,.int .i64 0,.sl o2 0 r6.length]]⟩)] M2) (by decide) (by kernel_rfl) (fun K hK=>?_) ?_
 .simp only[pickL,zO,zP]
  refine m0 ?_
  refine Pc.mk (c43 hr4) (m0 ?_)
  refine mo (c54_o2 (H:=hr5)) fun M1 o1 fM1_0 fM1_1 fM1_2=>?_
  have eM1_0:=nQ o1 (N0+1)
  have eM1_1:=nQ o1 (N0+24)
  refine m1 (j eM1_0 (j eM1_1 (j @hoS @hoN))) ?_
  refine mo (c55_o (H:=hr6)) fun M2 o2 fM2_0 fM2_1 fM2_2=>?_
  have eM2_0:=nQ o2 (N0+1)
  have eM2_1:=nQ o2 (N0+24)
  have eM2_2:=nQ o2 o1
  refine m1 (j eM1_0 (j eM1_1 (j @hoS (j @hoN (j eM2_0 (j eM2_1 eM2_2)))))) ?_
  exact hK _ _ ⟨M1,o1,M2,o2,(by omega),(by omega),(by omega),(by omega),(by omega),(by omega),rfl,rfl⟩
 rintro a J ⟨M1,o1,M2,o2,fM1_0,fM1_1,fM1_2,fM2_0,fM2_1,fM2_2,rfl,rfl⟩
 refine Wsq [1,2,4,6] fun K2 hK2=>?_
 have e0:=nQ (N0+1) o1
 have e1:=nQ (N0+1) o2
 have e2:=nQ o1 o2
 have e3:=nQ o1 (N0+24)
 have e4:=nQ o2 (N0+24)
 refine qB [1,2,4,6,32,33,34] (j e0 (j e1 (j e2 (j e3 e4)))) ?_
 refine Wb ?_
 obtain⟨e1,hse1,H⟩:=bE H
 refine zX [1,2,4,6,32,33,34] (fun s a J=>∃M3 o3 o4:Nat,N0<=M3/\N0<=o3/\o3<M3/\N0<=o4/\o4<M3/\¬o3=o4/\a=[(1,.int .i64 p1),(2,.fptr [.fsl (eL zA p0.Codes),.fsl (eL zJ p0.Threads),.fsl (eL rBox p0.Boxes),.int .i64 p0.Turn,.int .i64 p0.Idle,.fsl (eL rI p0.Out)] 0),(4,.ptr o3 0 0),(6,.ptr o4 0 0),(32,.fsl (eL zJ p0.Threads)),(33,.int .i64 (ilen p0.Threads)),(34,.int .i64 s.1)]/\J=hp E0 [(o3,some ⟨30,6,[[.fsl (eL zA s.2.1.Codes),.fsl (eL zJ s.2.1.Threads),.fsl (eL rBox s.2.1.Boxes),.int .i64 s.2.1.Turn,.int .i64 s.2.1.Idle,.fsl (eL rI s.2.1.Out)]]⟩),(o4,some ⟨30,6,[[.fsl (eL zA s.2.2.Codes),.osl 42 2 (eL zB s.2.2.Threads),.osl 103 2 (eL zM s.2.2.Boxes),.int .i64 s.2.2.Turn,.int .i64 s.2.2.Idle,.osl 3 1 (eL rI s.2.2.Out)]]⟩)] M3) (fun s x a J=>x=.exit 0/\Rc G 67 N0 (fun a J=>∃M4 o5 o6:Nat,N0<=M4/\N0<=o5/\o5<M4/\N0<=o6/\o6<M4/\¬o5=o6/\a=[(1,.int .i64 p1),(2,.fptr [.fsl (eL zA p0.Codes),.fsl (eL zJ p0.Threads),.fsl (eL rBox p0.Boxes),.int .i64 p0.Turn,.int .i64 p0.Idle,.fsl (eL rI p0.Out)] 0),(4,.ptr o5 0 0),(6,.ptr o6 0 0)]/\J=hp E0 [(o5,some ⟨30,6,[[.fsl (eL zA s.1.Codes),.fsl (eL zJ s.1.Threads),.fsl (eL rBox s.1.Boxes),.int .i64 s.1.Turn,.int .i64 s.1.Idle,.fsl (eL rI s.1.Out)]]⟩),(o6,some ⟨30,6,[[.fsl (eL zA s.2.Codes),.osl 42 2 (eL zB s.2.Threads),.osl 103 2 (eL zM s.2.Boxes),.int .i64 s.2.Turn,.int .i64 s.2.Idle,.osl 3 1 (eL rI s.2.Out)]]⟩)] M4) (AAct.keep a [1,2,4,6]) J) hse1 ?_ ?_ ?_
 .refine kp [1,2,4,6,32,33,34] ?_
  refine gP0 zI (N0+24) 0 1 42 2 (eL zB ([]:List gThread)) ?_
  refine gP zI (N0+24) 0 2 ?_
  refine gP zI (N0+24) 0 5 ?_
  exact R3 (M2+4) (N0+1) (N0+24)
 .clear H hse1
  rintro⟨s7,s8,s9⟩ fl a J H ⟨M3,o3,o4,fM3_0,fM3_1,fM3_2,fM3_3,fM3_4,fM3_5,rfl,rfl⟩ K3 O3 hK3 hO3
  unfold uV at H;dsimp only at H
  have e0:=nQ o3 o4
  refine qB [1,2,4,6,32,33,34,35] e0 ?_
  refine Wsq [1,2,4,6,32,33,34] fun K4 hK4=>?_
  refine Ci H ?_ ?_<;>intro H
  .refine Js hK4 ?_
   refine Wsq [1,2,4,6,32,33,34] fun K5 hK5=>?_
   refine Wb ?_
   obtain⟨v12,hv12,H⟩:=bE H
   have e0:=nQ o3 o4
   have e1:=nQ o3 (M3+3)
   have e2:=nQ o4 (M3+3)
   refine qB [1,2,4,6,8,32,33,34] (j e0 (j e1 (j e2 (ix27 hv12)))) ?_
   refine gU Wre o4 0 1 ?_
   obtain⟨r13,hr13,H⟩:=bE H
   obtain⟨l14,hl14,H⟩:=bE H
   have q0:∀(a0:Nat) (a1:Nat) (a2:Int) J i,bsA T 27 true i 1 [(0,.agg [.sl a0 0 a1,.int .i64 a2])] J=some (.fsl [[.sl a0 0 a1,.int .i64 a2]],J):=fun _ _ _ _ _=>rfl
   refine dX tok tokM [8] [1,3,4,6,7,8,9,11] [0,2,5,1,3,6,4,7,8,9,10,11] [(4,[1,6]),(8,[1])] [1,2,4,6,32,33,34] (fun a J=>∃M5 o7:Nat,M3+18<=M5/\M3+18<=o7/\o7<M5/\a=[(1,.int .i64 p1),(2,.fptr [.fsl (eL zA p0.Codes),.fsl (eL zJ p0.Threads),.fsl (eL rBox p0.Boxes),.int .i64 p0.Turn,.int .i64 p0.Idle,.fsl (eL rI p0.Out)] 0),(4,.ptr o3 0 0),(6,.ptr o4 0 0),(32,.fsl (eL zJ p0.Threads)),(33,.int .i64 (ilen p0.Threads)),(34,.int .i64 s7)]/\J=hp E0 [(o3,some ⟨30,6,[[.fsl (eL zA s8.Codes),.fsl (eL zJ s8.Threads),.fsl (eL rBox s8.Boxes),.int .i64 s8.Turn,.int .i64 s8.Idle,.fsl (eL rI s8.Out)]]⟩),(o4,some ⟨30,6,[[.fsl (eL zA s9.Codes),.sl (M3+15) 0 l14.length,.osl 103 2 (eL zM s9.Boxes),.int .i64 s9.Turn,.int .i64 s9.Idle,.osl 3 1 (eL rI s9.Out)]]⟩),(M3+3,some ⟨42,2,[[.fsl (eL rI v12.Regs),.int .i64 v12.Pc]]⟩),(o7,some ⟨3,1,eL rI r13⟩),(M3+15,some ⟨42,2,eL zB s9.Threads++[[.sl o7 0 r13.length,.int .i64 v12.Pc]]⟩)] M5) (by decide) (fun K hK=>?_) ?_
   .simp only[pickL,zO,zP]
    have e0:=nQ o3 o4
    have e1:=nQ o3 (M3+3)
    have e2:=nQ o3 (M3+5)
    have e3:=nQ o3 (M3+15)
    have e4:=nQ o4 (M3+3)
    have e5:=nQ o4 (M3+5)
    have e6:=nQ o4 (M3+15)
    refine m1 (j e0 (j e1 (j e2 (j e3 (j e4 (j e5 (j e6 (j q0 (apr27 zB hl14))))))))) ?_
    refine mo (c55_o (H:=hr13)) fun M5 o7 fM5_0 fM5_1 fM5_2=>?_
    have eM5_0:=nQ o7 o3
    have eM5_1:=nQ o7 o4
    have eM5_2:=nQ o7 (M3+3)
    have eM5_3:=nQ o7 (M3+5)
    have eM5_4:=nQ o7 (M3+15)
    refine m1 (j e0 (j e1 (j e2 (j e3 (j e4 (j e5 (j e6 (j q0 (j (apr27 zB hl14) (j eM5_0 (j eM5_1 (j eM5_2 (j eM5_3 (j eM5_4 (j @hoS @hoN))))))))))))))) ?_
    exact hK _ _ ⟨M5,o7,(by omega),(by omega),(by omega),rfl,rfl⟩
   rintro a J ⟨M5,o7,fM5_0,fM5_1,fM5_2,ha,rfl⟩
   refine hK5 _ _ ?_;rw[ha]
   refine Rc.mk ?_
   refine gP Wre (M3+15) s9.Threads.length 0 ?_ (hr:=by exact pG _ _ _)
   rw[show hp E0 [(o3,some ⟨30,6,[[.fsl (eL zA s8.Codes),.fsl (eL zJ s8.Threads),.fsl (eL rBox s8.Boxes),.int .i64 s8.Turn,.int .i64 s8.Idle,.fsl (eL rI s8.Out)]]⟩),(o4,some ⟨30,6,[[.fsl (eL zA s9.Codes),.sl (M3+15) 0 l14.length,.osl 103 2 (eL zM s9.Boxes),.int .i64 s9.Turn,.int .i64 s9.Idle,.osl 3 1 (eL rI s9.Out)]]⟩),(M3+3,some ⟨42,2,[[.fsl (eL rI v12.Regs),.int .i64 v12.Pc]]⟩),(M3+15,some ⟨42,2,eL zB s9.Threads++[[.osl 3 1 (eL rI r13),.int .i64 v12.Pc]]⟩)] M5=hp E0 [(o3,some ⟨30,6,[[.fsl (eL zA s8.Codes),.fsl (eL zJ s8.Threads),.fsl (eL rBox s8.Boxes),.int .i64 s8.Turn,.int .i64 s8.Idle,.fsl (eL rI s8.Out)]]⟩),(o4,some ⟨30,6,[[.fsl (eL zA s9.Codes),.sl (M3+15) 0 l14.length,.osl 103 2 (eL zM s9.Boxes),.int .i64 s9.Turn,.int .i64 s9.Idle,.osl 3 1 (eL rI s9.Out)]]⟩),(M3+3,some ⟨42,2,[[.fsl (eL rI v12.Regs),.int .i64 v12.Pc]]⟩),(M3+15,some ⟨42,2,eL zB l14⟩)] M5 from by rw[<- pH (f:=zB) (c:=[.osl 3 1 (eL rI r13),.int .i64 v12.Pc]) hl14 rfl]]
   have e0:=nQ o3 o4
   have e1:=nQ o3 (M3+3)
   have e2:=nQ o3 (M3+15)
   have e3:=nQ o4 (M3+3)
   have e4:=nQ o4 (M3+15)
   obtain rfl:=oi H
   refine qJ (j e0 (j e1 (j e2 (j e3 e4)))) hK3 ?_
   refine gP zI o4 0 1 ?_
   exact Rc.fin (zH (zH (AHeap.Sub.trans (AHeap.Sub.refl _) (zU rfl (by simp;try omega))))) ⟨M5+2,o3,o4,(by omega),(by omega),(by omega),(by omega),(by omega),(by omega),rfl,rfl⟩
  cases oj H
  refine zL (hO3 _ _ _ _ rfl ⟨rfl,?_⟩)
  refine kr ?_
  exact R3 (M3+1) o3 o4
 intro x a J hx
 obtain⟨y10,y11⟩:=e1
 obtain⟨rfl,b,U,hr,M4,o5,o6,fM4_0,fM4_1,fM4_2,fM4_3,fM4_4,fM4_5,rfl,rfl⟩:=hx
 (try dsimp only at H)
 show K2 _ _
 refine hK2 _ _ (zI hr ?_)
 refine Rc.mk ?_
 refine gU Wre o6 0 1 ?_
 obtain⟨r15,hr15,H⟩:=bE H
 refine Sm tok [] [4,6] (M4+19) (by
  intro K k
  have e0:=nQ o5 o6
  have e1:=nQ o5 M4
  have e2:=nQ o6 M4
  refine m1 (j e0 (j e1 e2)) ?_
  refine(c56_i_CrewRun_1_c4_0_1 (w4_0c1:=M4) (W4_0:=[[.fsl (eL zA y11.Codes),.sl M4 0 y11.Threads.length,.osl 103 2 (eL zM y11.Boxes),.int .i64 y11.Turn,.int .i64 y11.Idle,.osl 3 1 (eL rI y11.Out)]]) (r4_0_:=0) (H:=hr15) (by simp[e0,e1,e2]) (by simp[e0,e1,e2]) (by simp[e0,e1,e2]) (by simp[e0,e1,e2])).mono ?_;rintro _ _ ⟨M6,fM6_0,rfl,rfl⟩;simp only[hpN] at fM6_0
  refine m1 (j e0 (j e1 (j e2 (j @hoS @hoN)))) ?_
  exact k M6 (by omega)) fun M6 fM6_0=>?_
 refine gU Wre o6 0 1 ?_
 refine gU Wre o6 0 2 ?_
 refine gU Wre o6 0 5 ?_
 have e0:=nQ o5 o6
 have e1:=nQ o5 M6
 have e2:=nQ o5 (M6+1)
 have e3:=nQ o5 (M6+2)
 have e4:=nQ o6 M6
 have e5:=nQ o6 (M6+1)
 have e6:=nQ o6 (M6+2)
 refine qB [4,5] (j e0 (j e1 (j e2 (j e3 (j e4 (j e5 e6)))))) ?_
 obtain rfl:=oi H
 refine Kp [4,5] ?_
 have z0:=nQ o5 o6
 have z1:=nQ o5 M6
 have z2:=nQ o5 (M6+1)
 have z3:=nQ o5 (M6+2)
 have z4:=nQ o6 M6
 have z5:=nQ o6 (M6+1)
 have z6:=nQ o6 (M6+2)
 refine Wr ?_
 exact⟨[.agg [.fsl (eL zA r15.2.2.2.Codes),.sl M6 0 r15.2.2.2.Threads.length,.sl (M6+1) 0 r15.2.2.2.Boxes.length,.int .i64 r15.1,.int .i64 r15.2.1,.sl (M6+2) 0 r15.2.2.2.Out.length],.bool true],by simp[z0,z1,z2,z3,z4,z5,z6],4,by simp[eN,z0,z1,z2,z3,z4,z5,z6]⟩

theorem c17 {p0:List Int}{p1:(List (List gQuad))}{p2:Int}{r:gCrew}(H:qQ p0 p1 p2=some r):APure Tryz.prog G 17 [.fsl (eL rI p0),.fsl (eL zA p1),.int .i64 p2] (.agg [.fsl (eL zA r.Codes),.fsl (eL zJ r.Threads),.fsl (eL rBox r.Boxes),.int .i64 r.Turn,.int .i64 r.Idle,.fsl (eL rI r.Out)]):=by
 refine qK func17 ntmps17 results17 fun N0=>?_
 unfold qQ at H
 refine qA [0,1,2,6] ?_
 refine gW Wre N0 0 0 ?_
 refine gW Wre N0 0 1 ?_
 refine gW Wre N0 0 2 ?_
 refine gW Wre N0 0 5 ?_
 obtain⟨r1,hr1,H⟩:=bE H
 refine qD [2,6,7,8] (c13 hr1) ?_
 obtain⟨r2,hr2,H⟩:=bE H
 refine qD [6,8,9,10] (c20 hr2) ?_
 refine Wsq [6,9] fun K1 hK1=>?_
 obtain⟨g3,hg3,H⟩:=bE H
 refine qF tok [6,9,28] ([(6,.ptr N0 0 0),(9,.ptr (N0+16) 0 0),(28,.bool g3)]) (hp E0 [(N0,some ⟨30,6,[[.fsl [],.fsl [],.fsl [],.int .i64 0,.int .i64 0,.fsl []]]⟩),(N0+7,some ⟨30,6,[[.fsl (eL zA r1.1.Codes),.fsl (eL zJ r1.1.Threads),.fsl (eL rBox r1.1.Boxes),.int .i64 r1.1.Turn,.int .i64 r1.1.Idle,.fsl (eL rI r1.1.Out)]]⟩),(N0+16,some ⟨30,6,[[.fsl (eL zA r2.1.Codes),.fsl (eL zJ r2.1.Threads),.fsl (eL rBox r2.1.Boxes),.int .i64 r2.1.Turn,.int .i64 r2.1.Idle,.fsl (eL rI r2.1.Out)]]⟩)] (N0+25)) (by
  intro K k
  refine m0 ?_
  cases hbg3:bnot r1.2
  .cases oj (ifF hbg3 hg3)
   exact m1 hbg3 k
  cases oj (ifT hbg3 hg3)
  refine m1 hbg3 ?_
  exact k) ?_
 refine Ci H ?_ ?_<;>intro H
 .refine qA [6] ?_
  cases oj H
  refine Kp [6] ?_
  exact V0
 refine Js hK1 ?_
 refine qA [6] ?_
 obtain rfl:=oi H
 refine Kp [6] ?_
 exact V0

theorem c3 {p0:List Int}{p1:List Int}{r:Bool}(H:qR p0 p1=some r):APure Tryz.prog G 3 [.fsl (eL rU8 p0),.fsl (eL rU8 p1)] (.bool r):=by
 refine qK func3 ntmps3 results3 fun N0=>?_
 unfold qR at H
 refine qA [0,1] ?_
 refine Wsq [0,1] fun K1 hK1=>?_
 obtain⟨g1,hg1,H⟩:=bE H
 refine qF tok [0,1,22] ([(0,.fsl (eL rU8 p0)),(1,.fsl (eL rU8 p1)),(22,.bool g1)]) (hp E0 [] (N0+9)) (by
  intro K k
  refine m0 ?_
  cases hbg1:igt (ilen p0) 1048576
  .cases oj (ifF hbg1 hg1)
   exact m1 hbg1 k
  cases oj (ifT hbg1 hg1)
  refine m1 hbg1 ?_
  exact k) ?_
 refine Ci H ?_ ?_<;>intro H
 .refine qA [4] ?_
  cases oj H;exact W4
 refine Js hK1 ?_
 obtain⟨r2,hr2,H⟩:=bE H
 refine qD [1,5,6] (c12 hr2) ?_
 obtain⟨r3,hr3,H⟩:=bE H
 refine qD [1,5,6,7,8] (c13 hr3) ?_
 obtain⟨r4,hr4,H⟩:=bE H
 refine qD [1,5,6,7,8,9,10] (c14 hr4) ?_
 refine Wsq [1,5,6] fun K2 hK2=>?_
 obtain⟨g6,hg6,H⟩:=bE H
 obtain⟨g7,hg7,H⟩:=bE H
 refine qF tok [1,5,6,7,8,9,10,52] ([(1,.fsl (eL rU8 p1)),(5,.fsl (eL rI r2.1)),(6,.fsl (eL zA r2.2)),(7,.ptr (N0+22) 0 0),(8,.bool r3.2),(9,.ptr (N0+31) 0 0),(10,.bool r4.2),(52,.bool g7)]) (hp E0 [(N0+22,some ⟨30,6,[[.fsl (eL zA r3.1.Codes),.fsl (eL zJ r3.1.Threads),.fsl (eL rBox r3.1.Boxes),.int .i64 r3.1.Turn,.int .i64 r3.1.Idle,.fsl (eL rI r3.1.Out)]]⟩),(N0+31,some ⟨30,6,[[.fsl (eL zA r4.1.Codes),.fsl (eL zJ r4.1.Threads),.fsl (eL rBox r4.1.Boxes),.int .i64 r4.1.Turn,.int .i64 r4.1.Idle,.fsl (eL rI r4.1.Out)]]⟩)] (N0+47)) (by
  intro K k
  refine m0 ?_
  cases hbg6:bneb r3.2 r4.2
  .replace hg6:=ifF hbg6 hg6
   obtain⟨r5,hr5,hg6⟩:=bE hg6
   obtain rfl:=oi hg6
   refine m1 hbg6 ?_
   refine(c15 hr5).app (m1 hbg6 ?_)
   cases hbg7:(bnot r5)
   .cases oj (ifF hbg7 hg7)
    exact m2 hbg6 hbg7 k
   cases oj (ifT hbg7 hg7)
   exact m2 hbg6 hbg7 k
  cases oj (ifT hbg6 hg6)
  cases oj (ifT rfl hg7)
  refine m1 hbg6 ?_
  exact k) ?_
 refine Ci H ?_ ?_<;>intro H
 .obtain⟨g9,hg9,H⟩:=bE H
  refine qF tok [4] ([(4,.bool g9)]) (hp E0 [(N0+22,some ⟨30,6,[[.fsl (eL zA r3.1.Codes),.fsl (eL zJ r3.1.Threads),.fsl (eL rBox r3.1.Boxes),.int .i64 r3.1.Turn,.int .i64 r3.1.Idle,.fsl (eL rI r3.1.Out)]]⟩),(N0+31,some ⟨30,6,[[.fsl (eL zA r4.1.Codes),.fsl (eL zJ r4.1.Threads),.fsl (eL rBox r4.1.Boxes),.int .i64 r4.1.Turn,.int .i64 r4.1.Idle,.fsl (eL rI r4.1.Out)]]⟩)] (N0+56)) (by
   intro K k
   refine m0 ?_
   cases hbg9:beqb r3.2 r4.2
   .cases oj (ifF hbg9 hg9)
    exact m1 hbg9 k
   replace hg9:=ifT hbg9 hg9
   obtain⟨r8,hr8,hg9⟩:=bE hg9
   cases oj hg9
   refine m1 hbg9 ?_
   refine(c15 hr8).app (m1 hbg9 ?_)
   exact k) ?_
  cases oj H;exact W4
 refine Js hK2 ?_
 have q0:∀J i,bsA T 24 true i 0 [] J=some (.esl,J):=fun _ _=>rfl
 refine Sy tok [0] [1,5,6,11] q0 ?_
 refine Wsq [1,5,6,11] fun K3 hK3=>?_
 refine qA [1,5,6,11,12] ?_
 refine Wb ?_
 obtain⟨e2,hse2,H⟩:=bE H
 refine zX [1,5,6,11,12] (fun s a J=>∃M1 o1:Nat,N0<=M1/\N0<=o1/\o1<M1/\a=[(1,.fsl (eL rU8 p1)),(5,.fsl (eL rI r2.1)),(6,.fsl (eL zA r2.2)),(11,.sl o1 0 s.2.length),(12,.int .i64 s.1)]/\J=hp E0 [(o1,some ⟨34,1,eL zK s.2⟩)] M1) (fun s x a J=>x=.exit 0/\Rc G 108 N0 (fun a J=>∃M2 o2:Nat,N0<=M2/\N0<=o2/\o2<M2/\a=[(1,.fsl (eL rU8 p1)),(5,.fsl (eL rI r2.1)),(6,.fsl (eL zA r2.2)),(11,.sl o2 0 s.length)]/\J=hp E0 [(o2,some ⟨34,1,eL zK s⟩)] M2) (AAct.keep a [1,5,6,11]) J) hse2 ?_ ?_ ?_
 .refine kp [1,5,6,11,12] ?_
  refine gNilS zI 11 34 1 [(N0+22,some ⟨30,6,[[.fsl (eL zA r3.1.Codes),.fsl (eL zJ r3.1.Threads),.fsl (eL rBox r3.1.Boxes),.int .i64 r3.1.Turn,.int .i64 r3.1.Idle,.fsl (eL rI r3.1.Out)]]⟩),(N0+31,some ⟨30,6,[[.fsl (eL zA r4.1.Codes),.fsl (eL zJ r4.1.Threads),.fsl (eL rBox r4.1.Boxes),.int .i64 r4.1.Turn,.int .i64 r4.1.Idle,.fsl (eL rI r4.1.Out)]]⟩),(N0+50,some ⟨34,1,eL zK ([]:List (List gQuad))⟩)] [(1,.fsl (eL rU8 p1)),(5,.fsl (eL rI r2.1)),(6,.fsl (eL zA r2.2)),(11,.sl (N0+50) 0 ([]:List (List gQuad)).length),(12,.int .i64 0)] (by simp(disch:=omega)) (by simp(disch:=omega) [eN]) [1,5,6,11,12] rfl ?_
  exact Rc.fin (AHeap.Sub.trans (AHeap.Sub.trans (zH (AHeap.Sub.refl _)) (zU rfl (by simp;try omega))) (zU rfl (by simp;try omega))) ⟨N0+51,(N0+50),(by omega),(by omega),(by omega),rfl,rfl⟩
 .clear H hse2
  rintro⟨s10,s11⟩ fl a J H ⟨M1,o1,fM1_0,fM1_1,fM1_2,rfl,rfl⟩ K4 O4 hK4 hO4
  unfold yS at H;dsimp only at H
  refine Wsq [1,5,6,11,12] fun K5 hK5=>?_
  refine qA [1,5,6,11,12,65] ?_
  refine Ci H ?_ ?_<;>intro H
  .refine Js hK5 ?_
   refine Wsq [1,5,6,11,12] fun K6 hK6=>?_
   refine Wb ?_
   obtain⟨v13,hv13,H⟩:=bE H
   obtain⟨l14,hl14,H⟩:=bE H
   have q1:∀J i,bsA T 34 true i 0 [] J=some (.esl,J):=fun _ _=>rfl
   have e0:=nQ o1 (M1+9)
   refine Sy tok [0] [1,5,6,11,12,13] (j e0 (j q1 (j (ix24 hv13) (appe34 hl14)))) ?_
   obtain⟨j1,hj1,H⟩:=bE H
   refine kR (kO fun K7 hK7=>?_)
   have hJ1:∀a J,Rc G 108 N0 (fun a J=>∃M3 o3:Nat,N0<=M3/\N0<=o3/\o3<M3/\o1<M3/\¬o1=o3/\a=[(1,.fsl (eL rU8 p1)),(5,.fsl (eL rI r2.1)),(6,.fsl (eL zA r2.2)),(11,.sl o1 0 s11.length),(12,.int .i64 s10),(13,.sl o3 0 j1.length)]/\J=hp E0 [(o1,some ⟨34,1,eL zK s11⟩),(o3,some ⟨36,5,eL rQuad j1⟩)] M3) (a.keep [1,5,6,11,12,13]) J->K7 a J:=by
    rintro a J ⟨b,U,hr,M3,o3,fM3_0,fM3_1,fM3_2,fM3_3,fM3_4,rfl,rfl⟩
    refine hK7 _ _ (kH [1,5,6,11,12,13] (Wre hr ?_))
    obtain⟨l16,hl16,H⟩:=bE H
    have q2:∀(a0:Nat) (a1:Nat) J i,bsA T 24 true i 1 [(0,.sl a0 0 a1)] J=some (.fsl [[.sl a0 0 a1]],J):=fun _ _ _ _=>rfl
    have e0:=nQ o1 o3
    have e1:=nQ o1 (M3+3)
    have e2:=nQ o3 (M3+3)
    refine Rb tok [2] (j e0 (j e1 (j e2 (j q2 (apr24 zK hl16))))) hK6 ?_
    refine gP Wre (M3+3) s11.length 0 ?_ (hr:=by exact pG _ _ _)
    rw[show hp E0 [(M3+3,some ⟨34,1,eL zK s11++[[.osl 36 5 (eL rQuad j1)]]⟩)] (M3+5)=hp E0 [(M3+3,some ⟨34,1,eL zK l16⟩)] (M3+5) from by rw[<- pH (f:=zK) (c:=[.osl 36 5 (eL rQuad j1)]) hl16 rfl]]
    obtain rfl:=oi H
    refine qI hK4 ?_
    exact R2 (M3+8) (M3+3)
   replace H:=hj1
   have e0:=nQ o1 (M1+9)
   refine qB [1,5,6,11,12,13,76] e0 ?_
   refine Ci H ?_ ?_<;>intro H
   .obtain⟨l17,hl17,H⟩:=bE H
    have q3:∀J i,bsA T 34 true i 1 [(0,.agg [.int .i64 10,.int .i64 0,.int .i64 0,.int .i64 0,.int .i64 0])] J=some (.fsl (eL rQuad ([(⟨10,0,0,0,0⟩:gQuad)]:List gQuad)),J):=fun _ _=>rfl
    have e0:=nQ o1 (M1+9)
    have e1:=nQ o1 (M1+17)
    refine Rt tok [2] [1,5,6,11,12,13] (by intro K k;simp -dsimp -implicitDefEqProofs [e0,e1,q3,app34 hl17];exact k) fun a ha=>?_
    cases oj H
    refine hJ1 _ _ ?_;rw[ha]
    exact R2 (M1+19) (M1+17)
   refine Wsk ?_
   show K7 _ _
   refine kE [1,5,6,11,12,13] fun a' ha=>?_
   cases oj H
   refine hJ1 _ _ ?_;rw[ha]
   exact R2 (M1+14) (M1+9)
  obtain rfl:=oi H
  refine zL (hO4 _ _ _ _ rfl ⟨rfl,?_⟩)
  refine kr ?_
  exact R2 (M1+4) o1
 intro x a J hx
 obtain⟨y12,rfl⟩:∃x,x=e2:=⟨_,rfl⟩
 obtain⟨rfl,b,U,hr,M2,o2,fM2_0,fM2_1,fM2_2,rfl,rfl⟩:=hx
 (try dsimp only at H)
 show K3 _ _
 refine hK3 _ _ (zI hr ?_)
 refine Rc.mk ?_
 obtain⟨v18,hv18,H⟩:=bE H
 refine qB [5,6,11,14] hv18 ?_
 refine gFrz Wre 4 [o2] [] [(5,.fsl (eL rI r2.1)),(6,.fsl (eL zA r2.2)),(11,.fsl (eL zA y12)),(14,.int .i64 v18)] (by simp) (cutD (by simp)) ?_
 obtain⟨r19,hr19,H⟩:=bE H
 obtain⟨r20,hr20,H⟩:=bE H
 obtain⟨r21,hr21,H⟩:=bE H
 obtain⟨g22,hg22,H⟩:=bE H
 refine qF tok [4] ([(4,.bool g22)]) (hp E0 [] (M2+25)) (by
  intro K k
  refine m0 ?_
  refine(c17 hr19).app (m0 ?_)
  refine(c17 hr20).app (m0 ?_)
  refine(c16 hr21).app (m0 ?_)
  cases hbg22:r21
  .cases oj (ifF hbg22 hg22)
   exact m1 hbg22 k
  cases oj (ifT hbg22 hg22)
  refine m1 hbg22 ?_
  refine(c17 hr20).app (m1 hbg22 ?_)
  exact k) ?_
 cases oj H;exact W4
end Go.Proofs.YtolmjhgondilhaaGreat
