/- The contracts of functions of the program (CT3): each computes what its mirror computes. No conditions. -/
import Derived.Test.YtolmjhgondilhaaGreatNCT2
set_option linter.unusedSimpArgs false
set_option linter.unusedVariables false
set_option maxRecDepth 20000
set_option maxHeartbeats 4000000
namespace Go.Proofs.YtolmjhgondilhaaGreat
open Go Go.Abs Go.RowKit Tryz

theorem c56_i_CrewRun_1_c4_0_1 {p0:Int}{p1:Int}{p2:Int}{p3:Int}{p4_0:gCrew}{r:Int×Int×Bool×gCrew}(H:kR p0 p1 p2 p3 p4_0=some r){J:AHeap}{w4_0:Nat}{W4_0:List (List AV)}{r4_0_:Nat}{w4_0c1:Nat}(q4_0:J.objs w4_0=some ⟨30,6,W4_0⟩)(g4_0:W4_0[r4_0_]? =some [.fsl (eL zA p4_0.Codes),.sl w4_0c1 0 p4_0.Threads.length,.osl 103 2 (eL kK p4_0.Boxes),.int .i64 p4_0.Turn,.int .i64 p4_0.Idle,.osl 3 1 (eL rI p4_0.Out)])(q4_0c1:J.objs w4_0c1=some ⟨42,2,eL kB p4_0.Threads⟩)(d0_1:¬w4_0=w4_0c1):ACalls Tryz.prog G 56 [.int .i64 p0,.int .i64 p1,.int .i64 p2,.int .i64 p3,.clo 57 [] [.ptr w4_0 r4_0_ 0]] J (fun v J'=>∃M:Nat,J.next<=M/\v=.tup [.int .i64 r.1,.int .i64 r.2.1,.bool r.2.2.1]/\J'=hp J.objs [(w4_0,some ⟨30,6,W4_0.set r4_0_ [.fsl (eL zA r.2.2.2.Codes),.osl 42 2 (eL kB r.2.2.2.Threads),.osl 103 2 (eL kK r.2.2.2.Boxes),.int .i64 r.2.2.2.Turn,.int .i64 r.2.2.2.Idle,.osl 3 1 (eL rI r.2.2.2.Out)]⟩),(w4_0c1,none)] M):=by
 refine fr1 ([(w4_0,some ⟨30,6,W4_0⟩),(w4_0c1,some ⟨42,2,eL kB p4_0.Threads⟩)]) (by simp[q4_0,q4_0c1]) (fun hlt=>?_) ⟨_,func56,rfl,rfl⟩
 generalize J.next=N0 at hlt ⊢
 have lw4_0:w4_0<N0:=hlt _ (.head _) rfl
 have lw4_0c1:w4_0c1<N0:=hlt _ (.tail _ (.head _)) rfl
 have gs_W4_0:∀x,(W4_0.set r4_0_ x)[r4_0_]? =some x:=gsetW g4_0
 rw[<- zY g4_0]
 refine fnK tok func56 ntmps56 results56 ?_
 simp only[argsA,Nat.reduceAdd,hpN]
 unfold kR at H
 have e0:=nQ w4_0 w4_0c1
 refine qC [0,1,2,3,4] e0 gs_W4_0 ?_
 refine Wsq [2,3] fun K1 hK1=>?_
 refine Wb ?_
 obtain⟨e1,hse1,H⟩:=bE H
 refine zP [0,1,2,3,4] (fun s a J=>∃M1:Nat,N0<=M1/\a=[(0,.int .i64 s.1),(1,.int .i64 p1),(2,.int .i64 s.2.1),(3,.int .i64 s.2.2.1),(4,.clo 57 [] [.ptr w4_0 r4_0_ 0])]/\J=hp E0 [(w4_0,some ⟨30,6,W4_0.set r4_0_ [.fsl (eL zA s.2.2.2.Codes),.osl 42 2 (eL kB s.2.2.2.Threads),.osl 103 2 (eL kK s.2.2.2.Boxes),.int .i64 s.2.2.2.Turn,.int .i64 s.2.2.2.Idle,.osl 3 1 (eL rI s.2.2.2.Out)]⟩)] M1) (fun e x a J=>match e with|.inl s=>x=.exit 0/\Rc G 42 N0 (fun a J=>∃M2:Nat,N0<=M2/\a=[(2,.int .i64 s.1),(3,.int .i64 s.2.1)]/\J=hp E0 [(w4_0,some ⟨30,6,W4_0.set r4_0_ [.fsl (eL zA s.2.2.Codes),.osl 42 2 (eL kB s.2.2.Threads),.osl 103 2 (eL kK s.2.2.Boxes),.int .i64 s.2.2.Turn,.int .i64 s.2.2.Idle,.osl 3 1 (eL rI s.2.2.Out)]⟩)] M2) (AAct.keep a [2,3]) J|.inr s=>x=.ret/\∃vs,resA T J a [.tmp 10,.tmp 11,.tmp 12]=some vs/\∃M:Nat,N0<=M/\(tupA vs)=.tup [.int .i64 s.1,.int .i64 s.2.1,.bool s.2.2.1]/\J=hp E0 [(w4_0,some ⟨30,6,W4_0.set r4_0_ [.fsl (eL zA s.2.2.2.Codes),.osl 42 2 (eL kB s.2.2.2.Threads),.osl 103 2 (eL kK s.2.2.2.Boxes),.int .i64 s.2.2.2.Turn,.int .i64 s.2.2.2.Idle,.osl 3 1 (eL rI s.2.2.2.Out)]⟩),(w4_0c1,none)] M) hse1 ?_ ?_ ?_
 .refine kp [0,1,2,3,4] ?_
  refine gP zD w4_0 r4_0_ 1 ?_ (hr:=by exact gs_W4_0 _)
  exact R1 (N0+3)
 .clear H hse1
  rintro⟨s1,s2,s3,s4⟩ fl a J H ⟨M1,fM1_0,rfl,rfl⟩ K2 O2 hK2 hO2
  unfold zW at H;dsimp only at H
  refine Wsq [0,1,2,3,4] fun K3 hK3=>?_
  obtain⟨g8,hg8,H⟩:=bE H
  refine qF tok [0,1,2,3,4,22] ([(0,.int .i64 s1),(1,.int .i64 p1),(2,.int .i64 s2),(3,.int .i64 s3),(4,.clo 57 [] [.ptr w4_0 r4_0_ 0]),(22,.bool g8)]) (hp E0 [(w4_0,some ⟨30,6,W4_0.set r4_0_ [.fsl (eL zA s4.Codes),.osl 42 2 (eL kB s4.Threads),.osl 103 2 (eL kK s4.Boxes),.int .i64 s4.Turn,.int .i64 s4.Idle,.osl 3 1 (eL rI s4.Out)]⟩)] (M1+7)) (by
   intro K k
   refine m1 gs_W4_0 ?_
   cases hbg8:igt s1 0
   .cases oj (ifF hbg8 hg8)
    exact m2 gs_W4_0 hbg8 k
   cases oj (ifT hbg8 hg8)
   refine m2 gs_W4_0 hbg8 ?_
   exact k) ?_
  refine Ci H ?_ ?_<;>intro H
  .refine Js hK3 ?_
   refine Wsq [0,1,2,3,4] fun K4 hK4=>?_
   refine Wb ?_
   obtain⟨r9,hr9,H⟩:=bE H
   obtain⟨r10,hr10,H⟩:=bE H
   refine Sm tok [] [0,1,4,13,14,15] (M1+21) (by
    intro K k
    refine m1 gs_W4_0 ?_
    refine(c57 (Wf0:=W4_0.set r4_0_ [.fsl (eL zA s4.Codes),.osl 42 2 (eL kB s4.Threads),.osl 103 2 (eL kK s4.Boxes),.int .i64 s4.Turn,.int .i64 s4.Idle,.osl 3 1 (eL rI s4.Out)]) (rf0_:=r4_0_) (H:=hr9) (by simp[gs_W4_0]) (by simp[gs_W4_0])).mono ?_;rintro _ _ ⟨M3,fM3_0,rfl,rfl⟩;simp only[hpN] at fM3_0
    refine m1 (j gs_W4_0 (j @hoS @hoN)) ?_
    refine(c36 hr10).app (m1 (j gs_W4_0 (j @hoS @hoN)) ?_)
    exact k M3 (by omega)) fun M3 fM3_0=>?_
   refine Wsq [0,1,4,13,14] fun K5 hK5=>?_
   refine qB [0,1,4,13,14,37] gs_W4_0 ?_
   refine Ci H ?_ ?_<;>intro H
   .refine qB [10,11,12] gs_W4_0 ?_
    obtain rfl:=oi H
    refine Kp [10,11,12] ?_
    refine Wr (hO2 _ _ _ _ rfl ⟨rfl,?_⟩)
    refine⟨[.int .i64 0,.int .i64 0,.bool false],by simp[gs_W4_0],M3+5,by omega,?_,?_⟩
    .simp[eN]
    symm;first|exact hp_tail (L:=[(w4_0,some ⟨30,6,W4_0.set r4_0_ [.fsl (eL zA r9.2.Codes),.osl 42 2 (eL kB r9.2.Threads),.osl 103 2 (eL kK r9.2.Boxes),.int .i64 r9.2.Turn,.int .i64 r9.2.Idle,.osl 3 1 (eL rI r9.2.Out)]⟩)])|(simp only[List.set_set];exact hp_tail (L:=[(w4_0,some ⟨30,6,W4_0.set r4_0_ [.fsl (eL zA r9.2.Codes),.osl 42 2 (eL kB r9.2.Threads),.osl 103 2 (eL kK r9.2.Boxes),.int .i64 r9.2.Turn,.int .i64 r9.2.Idle,.osl 3 1 (eL rI r9.2.Out)]⟩)]))
   refine Js hK5 ?_
   refine qH gs_W4_0 hK4 ?_
   obtain rfl:=oi H
   refine qJ gs_W4_0 hK2 ?_
   exact R1 (M3+9)
  cases oj H
  refine zJ (hO2 _ _ _ _ rfl ⟨rfl,?_⟩)
  refine kr ?_
  exact R1 (M1+7)
 intro x a J hx
 rcases e1 with⟨y5,y6,y7⟩|r0
 .obtain⟨rfl,b,U,hr,M2,fM2_0,rfl,rfl⟩:=hx
  (try dsimp only at H)
  show K1 _ _
  refine hK1 _ _ (zD hr ?_)
  refine Rc.mk ?_
  refine qB [10,11,12] gs_W4_0 ?_
  obtain rfl:=oi H
  refine Kp [10,11,12] ?_
  refine Wr ?_
  refine⟨[.int .i64 y5,.int .i64 y6,.bool true],by simp[gs_W4_0],M2+5,by omega,?_,?_⟩
  .simp[eN]
  symm;first|exact hp_tail (L:=[(w4_0,some ⟨30,6,W4_0.set r4_0_ [.fsl (eL zA y7.Codes),.osl 42 2 (eL kB y7.Threads),.osl 103 2 (eL kK y7.Boxes),.int .i64 y7.Turn,.int .i64 y7.Idle,.osl 3 1 (eL rI y7.Out)]⟩)])|(simp only[List.set_set];exact hp_tail (L:=[(w4_0,some ⟨30,6,W4_0.set r4_0_ [.fsl (eL zA y7.Codes),.osl 42 2 (eL kB y7.Threads),.osl 103 2 (eL kK y7.Boxes),.int .i64 y7.Turn,.int .i64 y7.Idle,.osl 3 1 (eL rI y7.Out)]⟩)]))
 obtain⟨rfl,hx2⟩:=hx
 (try dsimp only at H)
 cases oj H;first|exact hx2|(simp only[List.set_set] at hx2 ⊢;exact hx2)

theorem c20 {p0:gCrew}{p1:Int}{r:gCrew×Bool}(H:yQ p0 p1=some r):APure Tryz.prog G 20 [.agg [.fsl (eL zA p0.Codes),.fsl (eL zB p0.Threads),.fsl (eL rBox p0.Boxes),.int .i64 p0.Turn,.int .i64 p0.Idle,.fsl (eL rI p0.Out)],.int .i64 p1] (.tup [.agg [.fsl (eL zA r.1.Codes),.fsl (eL zB r.1.Threads),.fsl (eL rBox r.1.Boxes),.int .i64 r.1.Turn,.int .i64 r.1.Idle,.fsl (eL rI r.1.Out)],.bool r.2]):=by
 refine qK func20 ntmps20 results20 fun N0=>?_
 unfold yQ at H
 refine S0 tok [0] [1,2,4] ?_
 refine Wsq [1,2,4] fun K1 hK1=>?_
 refine gW Wre (N0+1) 0 0 ?_
 refine gW Wre (N0+1) 0 1 ?_
 refine gW Wre (N0+1) 0 2 ?_
 refine gW Wre (N0+1) 0 5 ?_
 obtain⟨r1,hr1,H⟩:=bE H
 obtain⟨g2,hg2,H⟩:=bE H
 obtain⟨g3,hg3,H⟩:=bE H
 refine qF tok [1,2,4,19] ([(1,.int .i64 p1),(2,.fptr [.fsl (eL zA p0.Codes),.fsl (eL zB p0.Threads),.fsl (eL rBox p0.Boxes),.int .i64 p0.Turn,.int .i64 p0.Idle,.fsl (eL rI p0.Out)] 0),(4,.ptr (N0+1) 0 0),(19,.bool g3)]) (hp E0 [(N0+1,some ⟨30,6,[[.fsl [],.fsl [],.fsl [],.int .i64 0,.int .i64 0,.fsl []]]⟩)] (N0+14)) (by
  intro K k
  refine m0 ?_
  refine(c32 hr1).app (m0 ?_)
  cases hbg2:bnot r1
  .cases oj (ifF hbg2 hg2)
   refine m1 hbg2 ?_
   cases hbg3:(ilt p1 0)
   .cases oj (ifF hbg3 hg3)
    exact m2 hbg2 hbg3 k
   cases oj (ifT hbg3 hg3)
   exact m2 hbg2 hbg3 k
  cases oj (ifT hbg2 hg2)
  cases oj (ifT rfl hg3)
  refine m1 hbg2 ?_
  exact k) ?_
 refine Ci H ?_ ?_<;>intro H
 .refine qA [4,5] ?_
  cases oj H
  refine Kp [4,5] ?_
  exact V0
 refine Js hK1 ?_
 obtain⟨r4,hr4,H⟩:=bE H
 obtain⟨r5,hr5,H⟩:=bE H
 obtain⟨r6,hr6,H⟩:=bE H
 refine AWP_syC tok tokM [9] [5,8,10,11] [0,1,2,3,4,6,7,5,8,9,10,11] [] [1,2,4,6] (fun a J=>∃M1 o1:Nat,∃M2 o2:Nat,N0+26<=M1/\N0+26<=o1/\o1<M1/\M1<=M2/\M1<=o2/\o2<M2/\a=[(1,.int .i64 p1),(2,.fptr [.fsl (eL zA p0.Codes),.fsl (eL zB p0.Threads),.fsl (eL rBox p0.Boxes),.int .i64 p0.Turn,.int .i64 p0.Idle,.fsl (eL rI p0.Out)] 0),(4,.ptr (N0+1) 0 0),(6,.ptr (N0+24) 0 0)]/\J=hp E0 [(N0+1,some ⟨30,6,[[.fsl [],.fsl [],.fsl [],.int .i64 0,.int .i64 0,.fsl []]]⟩),(o1,some ⟨103,2,eL kK r5⟩),(o2,some ⟨3,1,eL rI r6⟩),(N0+24,some ⟨30,6,[[.fsl (eL zA r4),.nilsl,.sl o1 0 r5.length,.int .i64 0,.int .i64 0,.sl o2 0 r6.length]]⟩)] M2) (by decide) (by kernel_rfl) (fun K hK=>?_) ?_
 .simp only[pickL,zF,zG]
  refine m0 ?_
  refine Pc.mk (c43 hr4) (m0 ?_)
  refine mo (c54_o2 (H:=hr5)) fun M1 o1 fM1_0 fM1_1 fM1_2=>?_
  have eM1_0:=nQ o1 (N0+1)
  have eM1_1:=nQ o1 (N0+24)
  refine m1 (j eM1_0 (j eM1_1 (j @hoS @hoN))) ?_
  refine mo (c55_o (H:=hr6)) fun M2 o2 fM2_0 fM2_1 fM2_2=>?_
  have eM2_0:=nQ o2 (N0+1)
  have eM2_1:=nQ o2 (N0+24)
  have eM2_2:=nQ o2 o1
  refine m1 (j eM1_0 (j eM1_1 (j @hoS (j @hoN (j eM2_0 (j eM2_1 eM2_2)))))) ?_
  exact hK _ _ ⟨M1,o1,M2,o2,(by omega),(by omega),(by omega),(by omega),(by omega),(by omega),rfl,rfl⟩
 rintro a J ⟨M1,o1,M2,o2,fM1_0,fM1_1,fM1_2,fM2_0,fM2_1,fM2_2,rfl,rfl⟩
 refine Wsq [1,2,4,6] fun K2 hK2=>?_
 have e0:=nQ (N0+1) o1
 have e1:=nQ (N0+1) o2
 have e2:=nQ o1 o2
 have e3:=nQ o1 (N0+24)
 have e4:=nQ o2 (N0+24)
 refine qB [1,2,4,6,32,33,34] (j e0 (j e1 (j e2 (j e3 e4)))) ?_
 refine Wb ?_
 obtain⟨e1,hse1,H⟩:=bE H
 refine zP [1,2,4,6,32,33,34] (fun s a J=>∃M3 o3 o4:Nat,N0<=M3/\N0<=o3/\o3<M3/\N0<=o4/\o4<M3/\¬o3=o4/\a=[(1,.int .i64 p1),(2,.fptr [.fsl (eL zA p0.Codes),.fsl (eL zB p0.Threads),.fsl (eL rBox p0.Boxes),.int .i64 p0.Turn,.int .i64 p0.Idle,.fsl (eL rI p0.Out)] 0),(4,.ptr o3 0 0),(6,.ptr o4 0 0),(32,.fsl (eL zB p0.Threads)),(33,.int .i64 (ilen p0.Threads)),(34,.int .i64 s.1)]/\J=hp E0 [(o3,some ⟨30,6,[[.fsl (eL zA s.2.1.Codes),.fsl (eL zB s.2.1.Threads),.fsl (eL rBox s.2.1.Boxes),.int .i64 s.2.1.Turn,.int .i64 s.2.1.Idle,.fsl (eL rI s.2.1.Out)]]⟩),(o4,some ⟨30,6,[[.fsl (eL zA s.2.2.Codes),.osl 42 2 (eL kB s.2.2.Threads),.osl 103 2 (eL kK s.2.2.Boxes),.int .i64 s.2.2.Turn,.int .i64 s.2.2.Idle,.osl 3 1 (eL rI s.2.2.Out)]]⟩)] M3) (fun s x a J=>x=.exit 0/\Rc G 67 N0 (fun a J=>∃M4 o5 o6:Nat,N0<=M4/\N0<=o5/\o5<M4/\N0<=o6/\o6<M4/\¬o5=o6/\a=[(1,.int .i64 p1),(2,.fptr [.fsl (eL zA p0.Codes),.fsl (eL zB p0.Threads),.fsl (eL rBox p0.Boxes),.int .i64 p0.Turn,.int .i64 p0.Idle,.fsl (eL rI p0.Out)] 0),(4,.ptr o5 0 0),(6,.ptr o6 0 0)]/\J=hp E0 [(o5,some ⟨30,6,[[.fsl (eL zA s.1.Codes),.fsl (eL zB s.1.Threads),.fsl (eL rBox s.1.Boxes),.int .i64 s.1.Turn,.int .i64 s.1.Idle,.fsl (eL rI s.1.Out)]]⟩),(o6,some ⟨30,6,[[.fsl (eL zA s.2.Codes),.osl 42 2 (eL kB s.2.Threads),.osl 103 2 (eL kK s.2.Boxes),.int .i64 s.2.Turn,.int .i64 s.2.Idle,.osl 3 1 (eL rI s.2.Out)]]⟩)] M4) (AAct.keep a [1,2,4,6]) J) hse1 ?_ ?_ ?_
 .refine kp [1,2,4,6,32,33,34] ?_
  refine gP0 zD (N0+24) 0 1 42 2 (eL kB ([]:List gThread)) ?_
  refine gP zD (N0+24) 0 2 ?_
  refine gP zD (N0+24) 0 5 ?_
  exact R3 (M2+4) (N0+1) (N0+24)
 .clear H hse1
  rintro⟨s7,s8,s9⟩ fl a J H ⟨M3,o3,o4,fM3_0,fM3_1,fM3_2,fM3_3,fM3_4,fM3_5,rfl,rfl⟩ K3 O3 hK3 hO3
  unfold sJ at H;dsimp only at H
  have e0:=nQ o3 o4
  refine qB [1,2,4,6,32,33,34,35] e0 ?_
  refine Wsq [1,2,4,6,32,33,34] fun K4 hK4=>?_
  refine Ci H ?_ ?_<;>intro H
  .refine Js hK4 ?_
   refine Wsq [1,2,4,6,32,33,34] fun K5 hK5=>?_
   refine Wb ?_
   obtain⟨v12,hv12,H⟩:=bE H
   have e0:=nQ o3 o4
   have e1:=nQ o3 (M3+3)
   have e2:=nQ o4 (M3+3)
   refine qB [1,2,4,6,8,32,33,34] (j e0 (j e1 (j e2 (ix27 hv12)))) ?_
   refine gU Wre o4 0 1 ?_
   obtain⟨r13,hr13,H⟩:=bE H
   obtain⟨l14,hl14,H⟩:=bE H
   have q0:∀(a0:Nat) (a1:Nat) (a2:Int) J i,bsA T 27 true i 1 [(0,.agg [.sl a0 0 a1,.int .i64 a2])] J=some (.fsl [[.sl a0 0 a1,.int .i64 a2]],J):=fun _ _ _ _ _=>rfl
   refine AWP_ry tok tokM [8] [1,3,4,6,7,8,9,11] [0,2,5,1,3,6,4,7,8,9,10,11] [(4,[1,6]),(8,[1])] [1,2,4,6,32,33,34] (fun a J=>∃M5 o7:Nat,M3+18<=M5/\M3+18<=o7/\o7<M5/\a=[(1,.int .i64 p1),(2,.fptr [.fsl (eL zA p0.Codes),.fsl (eL zB p0.Threads),.fsl (eL rBox p0.Boxes),.int .i64 p0.Turn,.int .i64 p0.Idle,.fsl (eL rI p0.Out)] 0),(4,.ptr o3 0 0),(6,.ptr o4 0 0),(32,.fsl (eL zB p0.Threads)),(33,.int .i64 (ilen p0.Threads)),(34,.int .i64 s7)]/\J=hp E0 [(o3,some ⟨30,6,[[.fsl (eL zA s8.Codes),.fsl (eL zB s8.Threads),.fsl (eL rBox s8.Boxes),.int .i64 s8.Turn,.int .i64 s8.Idle,.fsl (eL rI s8.Out)]]⟩),(o4,some ⟨30,6,[[.fsl (eL zA s9.Codes),.sl (M3+15) 0 l14.length,.osl 103 2 (eL kK s9.Boxes),.int .i64 s9.Turn,.int .i64 s9.Idle,.osl 3 1 (eL rI s9.Out)]]⟩),(M3+3,some ⟨42,2,[[.fsl (eL rI v12.Regs),.int .i64 v12.Pc]]⟩),(o7,some ⟨3,1,eL rI r13⟩),(M3+15,some ⟨42,2,eL kB s9.Threads++[[.sl o7 0 r13.length,.int .i64 v12.Pc]]⟩)] M5) (by decide) (fun K hK=>?_) ?_
   .simp only[pickL,zF,zG]
    have e0:=nQ o3 o4
    have e1:=nQ o3 (M3+3)
    have e2:=nQ o3 (M3+5)
    have e3:=nQ o3 (M3+15)
    have e4:=nQ o4 (M3+3)
    have e5:=nQ o4 (M3+5)
    have e6:=nQ o4 (M3+15)
    refine m1 (j e0 (j e1 (j e2 (j e3 (j e4 (j e5 (j e6 (j q0 (apr27 kB hl14))))))))) ?_
    refine mo (c55_o (H:=hr13)) fun M5 o7 fM5_0 fM5_1 fM5_2=>?_
    have eM5_0:=nQ o7 o3
    have eM5_1:=nQ o7 o4
    have eM5_2:=nQ o7 (M3+3)
    have eM5_3:=nQ o7 (M3+5)
    have eM5_4:=nQ o7 (M3+15)
    refine m1 (j e0 (j e1 (j e2 (j e3 (j e4 (j e5 (j e6 (j q0 (j (apr27 kB hl14) (j eM5_0 (j eM5_1 (j eM5_2 (j eM5_3 (j eM5_4 (j @hoS @hoN))))))))))))))) ?_
    exact hK _ _ ⟨M5,o7,(by omega),(by omega),(by omega),rfl,rfl⟩
   rintro a J ⟨M5,o7,fM5_0,fM5_1,fM5_2,ha,rfl⟩
   refine hK5 _ _ ?_;rw[ha]
   refine Rc.mk ?_
   refine gP Wre (M3+15) s9.Threads.length 0 ?_ (hr:=by exact app_get _ _ _)
   rw[show hp E0 [(o3,some ⟨30,6,[[.fsl (eL zA s8.Codes),.fsl (eL zB s8.Threads),.fsl (eL rBox s8.Boxes),.int .i64 s8.Turn,.int .i64 s8.Idle,.fsl (eL rI s8.Out)]]⟩),(o4,some ⟨30,6,[[.fsl (eL zA s9.Codes),.sl (M3+15) 0 l14.length,.osl 103 2 (eL kK s9.Boxes),.int .i64 s9.Turn,.int .i64 s9.Idle,.osl 3 1 (eL rI s9.Out)]]⟩),(M3+3,some ⟨42,2,[[.fsl (eL rI v12.Regs),.int .i64 v12.Pc]]⟩),(M3+15,some ⟨42,2,eL kB s9.Threads++[[.osl 3 1 (eL rI r13),.int .i64 v12.Pc]]⟩)] M5=hp E0 [(o3,some ⟨30,6,[[.fsl (eL zA s8.Codes),.fsl (eL zB s8.Threads),.fsl (eL rBox s8.Boxes),.int .i64 s8.Turn,.int .i64 s8.Idle,.fsl (eL rI s8.Out)]]⟩),(o4,some ⟨30,6,[[.fsl (eL zA s9.Codes),.sl (M3+15) 0 l14.length,.osl 103 2 (eL kK s9.Boxes),.int .i64 s9.Turn,.int .i64 s9.Idle,.osl 3 1 (eL rI s9.Out)]]⟩),(M3+3,some ⟨42,2,[[.fsl (eL rI v12.Regs),.int .i64 v12.Pc]]⟩),(M3+15,some ⟨42,2,eL kB l14⟩)] M5 from by rw[<- app_enc (f:=kB) (c:=[.osl 3 1 (eL rI r13),.int .i64 v12.Pc]) hl14 rfl]]
   have e0:=nQ o3 o4
   have e1:=nQ o3 (M3+3)
   have e2:=nQ o3 (M3+15)
   have e3:=nQ o4 (M3+3)
   have e4:=nQ o4 (M3+15)
   obtain rfl:=oi H
   refine qJ (j e0 (j e1 (j e2 (j e3 e4)))) hK3 ?_
   refine gP zD o4 0 1 ?_
   exact Rc.fin (zI (zI (AHeap.Sub.trans (AHeap.Sub.refl _) (zR rfl (by simp;try omega))))) ⟨M5+2,o3,o4,(by omega),(by omega),(by omega),(by omega),(by omega),(by omega),rfl,rfl⟩
  cases oj H
  refine zJ (hO3 _ _ _ _ rfl ⟨rfl,?_⟩)
  refine kr ?_
  exact R3 (M3+1) o3 o4
 intro x a J hx
 obtain⟨y10,y11⟩:=e1
 obtain⟨rfl,b,U,hr,M4,o5,o6,fM4_0,fM4_1,fM4_2,fM4_3,fM4_4,fM4_5,rfl,rfl⟩:=hx
 (try dsimp only at H)
 show K2 _ _
 refine hK2 _ _ (zD hr ?_)
 refine Rc.mk ?_
 refine gU Wre o6 0 1 ?_
 obtain⟨r15,hr15,H⟩:=bE H
 refine Sm tok [] [4,6] (M4+19) (by
  intro K k
  have e0:=nQ o5 o6
  have e1:=nQ o5 M4
  have e2:=nQ o6 M4
  refine m1 (j e0 (j e1 e2)) ?_
  refine(c56_i_CrewRun_1_c4_0_1 (w4_0c1:=M4) (W4_0:=[[.fsl (eL zA y11.Codes),.sl M4 0 y11.Threads.length,.osl 103 2 (eL kK y11.Boxes),.int .i64 y11.Turn,.int .i64 y11.Idle,.osl 3 1 (eL rI y11.Out)]]) (r4_0_:=0) (H:=hr15) (by simp[e0,e1,e2]) (by simp[e0,e1,e2]) (by simp[e0,e1,e2]) (by simp[e0,e1,e2])).mono ?_;rintro _ _ ⟨M6,fM6_0,rfl,rfl⟩;simp only[hpN] at fM6_0
  refine m1 (j e0 (j e1 (j e2 (j @hoS @hoN)))) ?_
  exact k M6 (by omega)) fun M6 fM6_0=>?_
 refine gU Wre o6 0 1 ?_
 refine gU Wre o6 0 2 ?_
 refine gU Wre o6 0 5 ?_
 have e0:=nQ o5 o6
 have e1:=nQ o5 M6
 have e2:=nQ o5 (M6+1)
 have e3:=nQ o5 (M6+2)
 have e4:=nQ o6 M6
 have e5:=nQ o6 (M6+1)
 have e6:=nQ o6 (M6+2)
 refine qB [4,5] (j e0 (j e1 (j e2 (j e3 (j e4 (j e5 e6)))))) ?_
 obtain rfl:=oi H
 refine Kp [4,5] ?_
 have z0:=nQ o5 o6
 have z1:=nQ o5 M6
 have z2:=nQ o5 (M6+1)
 have z3:=nQ o5 (M6+2)
 have z4:=nQ o6 M6
 have z5:=nQ o6 (M6+1)
 have z6:=nQ o6 (M6+2)
 refine Wr ?_
 exact⟨[.agg [.fsl (eL zA r15.2.2.2.Codes),.sl M6 0 r15.2.2.2.Threads.length,.sl (M6+1) 0 r15.2.2.2.Boxes.length,.int .i64 r15.1,.int .i64 r15.2.1,.sl (M6+2) 0 r15.2.2.2.Out.length],.bool true],by simp[z0,z1,z2,z3,z4,z5,z6],4,by simp[eN,z0,z1,z2,z3,z4,z5,z6]⟩
end Go.Proofs.YtolmjhgondilhaaGreat
