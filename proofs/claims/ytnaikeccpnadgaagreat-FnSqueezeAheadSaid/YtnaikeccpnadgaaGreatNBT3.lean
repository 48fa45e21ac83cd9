/- The contracts of functions of the program (BT3): each computes what its mirror computes. No conditions. -/
import Derived.Test.YtnaikeccpnadgaaGreatNBT2
set_option linter.unusedSimpArgs false
set_option linter.unusedVariables false
set_option maxRecDepth 20000
set_option maxHeartbeats 4000000
namespace Go.Proofs.YtnaikeccpnadgaaGreat
open Go Go.Abs Go.RowKit Tryz

theorem c84 {p0:Int}{pf0:gCrew}{r:Int×gCrew}(H:pB p0 pf0=some r){J:AHeap}{wf0:Nat}{Wf0:List (List AV)}{rf0_:Nat}(qf0:J.objs wf0=some ⟨30,6,Wf0⟩)(gf0:Wf0[rf0_]? =some [.fsl (eL zA pf0.Codes),.osl 42 2 (eL zY pf0.Threads),.osl 99 2 (eL kF pf0.Boxes),.int .i64 pf0.Turn,.int .i64 pf0.Idle,.osl 3 1 (eL rI pf0.Out)]):ACalls Tryz.prog G 84 [.int .i64 p0,.ptr wf0 rf0_ 0] J (fun v J'=>∃M:Nat,J.next<=M/\v=.int .i64 r.1/\J'=hp J.objs [(wf0,some ⟨30,6,Wf0.set rf0_ [.fsl (eL zA r.2.Codes),.osl 42 2 (eL zY r.2.Threads),.osl 99 2 (eL kF r.2.Boxes),.int .i64 r.2.Turn,.int .i64 r.2.Idle,.osl 3 1 (eL rI r.2.Out)]⟩)] M):=by
 refine fr1 ([(wf0,some ⟨30,6,Wf0⟩)]) (by simp[qf0]) (fun hlt=>?_) ⟨_,func84,rfl,rfl⟩
 generalize J.next=N0 at hlt ⊢
 have lwf0:wf0<N0:=hlt _ (.head _) rfl
 have gs_Wf0:∀x,(Wf0.set rf0_ x)[rf0_]? =some x:=gsetW gf0
 rw[<- kK gf0]
 refine fnK tok func84 ntmps84 results84 ?_
 simp only[argsA,Nat.reduceAdd,hpN]
 unfold pB at H
 refine qB [0,1] gs_Wf0 ?_
 refine gU Wre wf0 rf0_ 1 ?_ (hr:=by exact gs_Wf0 _)
 refine gU Wre wf0 rf0_ 2 ?_ (hr:=by exact gs_Wf0 _)
 obtain⟨v3,hv3,H⟩:=bE H
 obtain⟨v4,hv4,H⟩:=bE H
 obtain⟨r5,hr5,H⟩:=bE H
 obtain⟨l6,hl6,H⟩:=bE H
 refine fH tok tokM [] [1,3,5,7,8,10,12] [0,2,4,6,9,11,1,3,5,7,8,10,12,13] [3] (fun a J=>∃M1:Nat,N0+17<=M1/\r5.2.2.1.length=pf0.Boxes.length/\a=[(3,.int .i64 r5.1)]/\J=hp E0 [(wf0,some ⟨30,6,Wf0.set rf0_ [.fsl (eL zA pf0.Codes),.sl (N0+1) 0 pf0.Threads.length,.sl (N0+2) 0 pf0.Boxes.length,.int .i64 pf0.Turn,.int .i64 pf0.Idle,.osl 3 1 (eL rI r5.2.2.2)]⟩),(N0+1,some ⟨42,2,eL zY l6⟩),(N0+2,some ⟨99,2,eL kF r5.2.2.1⟩)] M1) (by decide) (fun K hK=>?_) ?_
 .simp only[pickL,zN,zO]
  have e0:=nQ wf0 (N0+1)
  have e1:=nQ wf0 (N0+2)
  refine m1 (j e0 (j e1 (j gs_Wf0 (j (ixo27 hv3) (j ((zG hv3).2.2) (j (ix24 hv4) (j ((setx_iff.1 hl6).2.symm) @kU))))))) ?_
  refine(c85 (W0:=eL zY pf0.Threads) (r0_:=p0.toNat) (W3:=Wf0.set rf0_ [.fsl (eL zA pf0.Codes),.sl (N0+1) 0 pf0.Threads.length,.sl (N0+2) 0 pf0.Boxes.length,.int .i64 pf0.Turn,.int .i64 pf0.Idle,.osl 3 1 (eL rI pf0.Out)]) (r3_:=rf0_) (x3_:=[.fsl (eL zA pf0.Codes),.sl (N0+1) 0 pf0.Threads.length,.sl (N0+2) 0 pf0.Boxes.length,.int .i64 pf0.Turn,.int .i64 pf0.Idle,.osl 3 1 (eL rI pf0.Out)]) (i3_:=5) (t3_:=30) (s3_:=6) (H:=hr5) (by simp[e0,e1,gs_Wf0,ixo27 hv3,(zG hv3).2.2,ix24 hv4,(setx_iff.1 hl6).2.symm,kU]) (by simp[e0,e1,gs_Wf0,ixo27 hv3,(zG hv3).2.2,ix24 hv4,(setx_iff.1 hl6).2.symm,kU]) (by simp[e0,e1,gs_Wf0,ixo27 hv3,(zG hv3).2.2,ix24 hv4,(setx_iff.1 hl6).2.symm,kU]) (by simp[e0,e1,gs_Wf0,ixo27 hv3,(zG hv3).2.2,ix24 hv4,(setx_iff.1 hl6).2.symm,kU]) (by simp[e0,e1,gs_Wf0,ixo27 hv3,(zG hv3).2.2,ix24 hv4,(setx_iff.1 hl6).2.symm,kU]) (by simp[e0,e1,gs_Wf0,ixo27 hv3,(zG hv3).2.2,ix24 hv4,(setx_iff.1 hl6).2.symm,kU]) (by simp[e0,e1,gs_Wf0,ixo27 hv3,(zG hv3).2.2,ix24 hv4,(setx_iff.1 hl6).2.symm,kU]) (by simp[e0,e1,gs_Wf0,ixo27 hv3,(zG hv3).2.2,ix24 hv4,(setx_iff.1 hl6).2.symm,kU]) (by simp[e0,e1,gs_Wf0,ixo27 hv3,(zG hv3).2.2,ix24 hv4,(setx_iff.1 hl6).2.symm,kU])).mono ?_;rintro _ _ ⟨M1,fM1_0,fM1_1,rfl,rfl⟩;simp only[hpN] at fM1_0
  refine m1 (j e0 (j e1 (j gs_Wf0 (j (ixo27 hv3) (j ((zG hv3).2.2) (j (ix24 hv4) (j ((setx_iff.1 hl6).2.symm) (j @kU (j @hoS @hoN))))))))) ?_
  exact hK _ _ ⟨M1,(by omega),fM1_1,rfl,rfl⟩
 rintro a J ⟨M1,fM1_0,fM1_1,rfl,rfl⟩
 try rw[<- zE hl6]
 try rw[<- fM1_1]
 obtain rfl:=oi H
 refine Kp [3] ?_
 refine gP Wre wf0 rf0_ 1 ?_ (hr:=by exact gs_Wf0 _)
 refine gP Wre wf0 rf0_ 2 ?_ (hr:=by exact gs_Wf0 _)
 exact V1 gs_Wf0 M1

theorem c115 {p0:Int}{p1:Int}{p2:Int}{p3:Int}{r:Int×Int×Bool}(H:sL p0 p1 p2 p3=some r):APure Tryz.prog G 115 [.int .i64 p0,.int .i64 p1,.int .i64 p2,.int .i64 p3] (.tup [.int .i64 r.1,.int .i64 r.2.1,.bool r.2.2]):=by
 refine qK func115 ntmps115 results115 fun N0=>?_
 unfold sL at H
 refine qA [0,1,2,3] ?_
 refine Wsq [0,1,2,3] fun K1 hK1=>?_
 obtain⟨g1,hg1,H⟩:=bE H
 obtain⟨g2,hg2,H⟩:=bE H
 obtain⟨g3,hg3,H⟩:=bE H
 obtain⟨g4,hg4,H⟩:=bE H
 obtain⟨g5,hg5,H⟩:=bE H
 refine qF tok [0,1,2,3,34] ([(0,.int .i64 p0),(1,.int .i64 p1),(2,.int .i64 p2),(3,.int .i64 p3),(34,.bool g5)]) (hp E0 [] (N0+27)) (by
  intro K k
  refine m0 ?_
  cases hbg1:ilt p0 1
  .cases oj (ifF hbg1 hg1)
   refine m1 hbg1 ?_
   cases hbg2:(igt p0 3)
   .cases oj (ifF hbg2 hg2)
    refine m2 hbg1 hbg2 ?_
    cases hbg3:(ilt p1 0)
    .cases oj (ifF hbg3 hg3)
     refine m1 (j hbg1 (j hbg2 hbg3)) ?_
     cases hbg4:(ige p1 p0)
     .cases oj (ifF hbg4 hg4)
      refine m1 (j hbg1 (j hbg2 (j hbg3 hbg4))) ?_
      cases hbg5:(ilt p2 0)
      .cases oj (ifF hbg5 hg5)
       exact m1 (j hbg1 (j hbg2 (j hbg3 (j hbg4 hbg5)))) k
      cases oj (ifT hbg5 hg5)
      exact m1 (j hbg1 (j hbg2 (j hbg3 (j hbg4 hbg5)))) k
     cases oj (ifT hbg4 hg4)
     cases oj (ifT rfl hg5)
     exact m1 (j hbg1 (j hbg2 (j hbg3 hbg4))) k
    cases oj (ifT hbg3 hg3)
    cases oj (ifT rfl hg4)
    cases oj (ifT rfl hg5)
    exact m1 (j hbg1 (j hbg2 hbg3)) k
   cases oj (ifT hbg2 hg2)
   cases oj (ifT rfl hg3)
   cases oj (ifT rfl hg4)
   cases oj (ifT rfl hg5)
   exact m2 hbg1 hbg2 k
  cases oj (ifT hbg1 hg1)
  cases oj (ifT rfl hg2)
  cases oj (ifT rfl hg3)
  cases oj (ifT rfl hg4)
  cases oj (ifT rfl hg5)
  refine m1 hbg1 ?_
  exact k) ?_
 refine Ci H ?_ ?_<;>intro H
 .refine qA [8,9,10] ?_
  cases oj H;exact W4
 refine Js hK1 ?_
 refine Wsq [] fun K2 hK2=>?_
 refine qA [0,1,2,35] ?_
 refine Wb ?_
 refine qA [0,1,2,35,36] ?_
 refine Ci H ?_ ?_<;>intro H
 .refine qA [8,9,10] ?_
  cases oj H;exact W4
 refine qA [0,1,2,35,39] ?_
 refine Ci H ?_ ?_<;>intro H
 .obtain⟨v6,hv6,H⟩:=bE H
  refine qB [8,9,10] hv6 ?_
  cases oj H;exact W4
 obtain⟨j1,hj1,H⟩:=bE H
 refine kS (kM fun K3 hK3=>?_)
 have hJ1:∀a J,Rc G 54 N0 (fun a J=>∃M1:Nat,N0<=M1/\a=[(0,.int .i64 p0),(1,.int .i64 p1),(2,.int .i64 p2),(45,.bool j1)]/\J=hp E0 [] M1) (a.keep [0,1,2,45]) J->K3 a J:=by
  rintro a J ⟨b,U,hr,M1,fM1_0,rfl,rfl⟩
  refine hK3 _ _ (kG [0,1,2,45] (Wre hr ?_))
  refine Ci H ?_ ?_<;>intro H
  .obtain⟨v8,hv8,H⟩:=bE H
   refine qB [8,9,10] hv8 ?_
   cases oj H;exact W4
  refine Js hK2 ?_
  refine qA [8,9,10] ?_
  cases oj H;exact W4
 replace H:=hj1
 refine qA [0,1,2,35,45] ?_
 refine Ci H ?_ ?_<;>intro H
 .refine Wsk ?_
  show K3 _ _
  refine kE [0,1,2,45] fun a' ha=>?_
  cases oj H
  refine hJ1 _ _ ?_;rw[ha]
  exact R1 (N0+34)
 refine Rt0 tok [] [0,1,2,45] fun a ha=>?_
 cases oj H
 refine hJ1 _ _ ?_;rw[ha]
 exact R1 (N0+36)

theorem c57_o {p0:List Int}{r:List Int}(H:kO p0=some r){J:AHeap}:ACalls Tryz.prog G 57 [.fsl (eL rI p0)] J (fun v J'=>∃M n0:Nat,J.next<=M/\J.next<=n0/\n0<M/\v=.sl n0 0 r.length/\J'=hp J.objs [(n0,some ⟨3,1,eL rI r⟩)] M):=by
 refine fr2 [] (by simp) (fun hlt=>?_) ⟨_,func57,rfl,rfl⟩
 generalize J.next=N0 at hlt ⊢
 refine fnK tok func57 ntmps57 results57 ?_
 simp only[argsA,Nat.reduceAdd,hpN]
 unfold kO at H
 refine qA [0] ?_
 refine Wsq [0] fun K1 hK1=>?_
 refine AWP_isnil tok [4,0] ([(0,.fsl (eL rI p0))]) rfl rfl (by decide) (by decide) (by decide) (fun _=>rfl) (fun n0=>?_) ?_
 .replace n0:p0=[]:=fW n0
  replace H:(if true=true then   some ([]:List Int) else   (appx 8 ([]:List Int) p0).bind fun l2=>   some l2:Option ((List Int)))=some r:=by simpa [n0,appx] using H
  refine Ci H ?_ ?_<;>intro H
  .refine qA [2] ?_
   cases oj H
   refine Kp [2] ?_
   refine gNilS Wre 2 3 1 [(N0+2,some ⟨3,1,eL rI ([]:List Int)⟩)] [(2,.sl (N0+2) 0 ([]:List Int).length)] (by simp(disch:=omega)) (by simp(disch:=omega) [eN]) [2] rfl ?_
   exact V2 j0 (N0+3) (N0+2)
  refine Js hK1 ?_
  obtain⟨l2,hl2,H⟩:=bE H
  have q2:∀J i,bsA T 23 true i 0 [] J=some (.esl,J):=fun _ _=>rfl
  refine Sz tok [0] [2] q2 (appe23 hl2) ?_
  obtain rfl:=oi H
  refine Kp [2] ?_
  exact V2 j0 (N0+5) (N0+3)
 .
  refine Ci H ?_ ?_<;>intro H
  .refine qA [2] ?_
   cases oj H
   refine Kp [2] ?_
   refine gNilS Wre 2 3 1 [(N0+2,some ⟨3,1,eL rI ([]:List Int)⟩)] [(2,.sl (N0+2) 0 ([]:List Int).length)] (by simp(disch:=omega)) (by simp(disch:=omega) [eN]) [2] rfl ?_
   exact V2 j0 (N0+3) (N0+2)
  refine Js hK1 ?_
  obtain⟨l1,hl1,H⟩:=bE H
  have q1:∀J i,bsA T 23 true i 0 [] J=some (.esl,J):=fun _ _=>rfl
  refine Sz tok [0] [2] q1 (appe23 hl1) ?_
  obtain rfl:=oi H
  refine Kp [2] ?_
  exact V2 j0 (N0+5) (N0+3)

theorem c82_o2 {p0:List gBox}{r:List gBox}(H:uQ p0=some r){J:AHeap}:ACalls Tryz.prog G 82 [.fsl (eL rBox p0)] J (fun v J'=>∃M n0:Nat,J.next<=M/\J.next<=n0/\n0<M/\v=.sl n0 0 r.length/\J'=hp J.objs [(n0,some ⟨99,2,eL kF r⟩)] M):=by
 refine fr2 [] (by simp) (fun hlt=>?_) ⟨_,func82,rfl,rfl⟩
 generalize J.next=N0 at hlt ⊢
 refine fnK tok func82 ntmps82 results82 ?_
 simp only[argsA,Nat.reduceAdd,hpN]
 unfold uQ at H
 refine qA [0] ?_
 refine qA [0,3] ?_
 refine Wsq [3] fun K1 hK1=>?_
 refine qA [3,6,7,8] ?_
 refine Wb ?_
 obtain⟨e1,hse1,H⟩:=bE H
 refine zS [3,6,7,8] (fun s a J=>∃M1 o1:Nat,N0<=M1/\N0<=o1/\o1<M1/\a=[(3,.sl o1 0 s.2.length),(6,.fsl (eL rBox p0)),(7,.int .i64 (ilen p0)),(8,.int .i64 s.1)]/\J=hp E0 [(o1,some ⟨99,2,eL kF s.2⟩)] M1) (fun s x a J=>x=.exit 0/\Rc G 23 N0 (fun a J=>∃M2 o2:Nat,N0<=M2/\N0<=o2/\o2<M2/\a=[(3,.sl o2 0 s.length)]/\J=hp E0 [(o2,some ⟨99,2,eL kF s⟩)] M2) (AAct.keep a [3]) J) hse1 ?_ ?_ ?_
 .refine kp [3,6,7,8] ?_
  refine gNilS zI 3 99 2 [(N0+5,some ⟨99,2,eL kF ([]:List gBox)⟩)] [(3,.sl (N0+5) 0 ([]:List gBox).length),(6,.fsl (eL rBox p0)),(7,.int .i64 (ilen p0)),(8,.int .i64 0)] (by simp(disch:=omega)) (by simp(disch:=omega) [eN]) [3,6,7,8] rfl ?_
  exact R2 (N0+6) (N0+5)
 .clear H hse1
  rintro⟨s1,s2⟩ fl a J H ⟨M1,o1,fM1_0,fM1_1,fM1_2,rfl,rfl⟩ K2 O2 hK2 hO2
  unfold oE at H;dsimp only at H
  refine qA [3,6,7,8,9] ?_
  refine Wsq [3,6,7,8] fun K3 hK3=>?_
  refine Ci H ?_ ?_<;>intro H
  .refine Js hK3 ?_
   refine Wsq [3,6,7,8] fun K4 hK4=>?_
   refine Wb ?_
   obtain⟨v4,hv4,H⟩:=bE H
   have e0:=nQ o1 (M1+3)
   refine qC [3,5,6,7,8] e0 (ix28 hv4) ?_
   obtain⟨r5,hr5,H⟩:=bE H
   obtain⟨l6,hl6,H⟩:=bE H
   have q0:∀(a0:Int) (a1:Nat) (a2:Nat) J i,bsA T 28 true i 1 [(0,.agg [.int .i64 a0,.sl a1 0 a2])] J=some (.fsl [[.int .i64 a0,.sl a1 0 a2]],J):=fun _ _ _ _ _=>rfl
   refine AWP_ry tok tokM [7] [2,4,5,8] [0,1,3,2,4,5,6,7,8,9] [(5,[2])] [3,6,7,8] (fun a J=>∃M3 o3:Nat,M1+15<=M3/\M1+15<=o3/\o3<M3/\a=[(3,.sl (M1+13) 0 l6.length),(6,.fsl (eL rBox p0)),(7,.int .i64 (ilen p0)),(8,.int .i64 s1)]/\J=hp E0 [(M1+3,some ⟨99,2,[[.int .i64 v4.Room,.fsl (eL rI v4.Items)]]⟩),(o3,some ⟨3,1,eL rI r5⟩),(M1+13,some ⟨99,2,eL kF s2++[[.int .i64 v4.Room,.sl o3 0 r5.length]]⟩)] M3) (by decide) (fun K hK=>?_) ?_
   .simp only[pickL,zN,zO]
    have e0:=nQ o1 (M1+3)
    have e1:=nQ o1 (M1+13)
    refine m1 (j e0 (j e1 (j q0 (apr28 kF hl6)))) ?_
    refine mo (c57_o (H:=hr5)) fun M3 o3 fM3_0 fM3_1 fM3_2=>?_
    have eM3_0:=nQ o3 o1
    have eM3_1:=nQ o3 (M1+3)
    have eM3_2:=nQ o3 (M1+13)
    refine m1 (j e0 (j e1 (j q0 (j (apr28 kF hl6) (j eM3_0 (j eM3_1 (j eM3_2 (j @hoS @hoN)))))))) ?_
    exact hK _ _ ⟨M3,o3,(by omega),(by omega),(by omega),rfl,rfl⟩
   rintro a J ⟨M3,o3,fM3_0,fM3_1,fM3_2,ha,rfl⟩
   refine hK4 _ _ ?_;rw[ha]
   refine Rc.mk ?_
   refine gP Wre (M1+13) s2.length 1 ?_ (hr:=by exact app_get _ _ _)
   rw[show hp E0 [(M1+3,some ⟨99,2,[[.int .i64 v4.Room,.fsl (eL rI v4.Items)]]⟩),(M1+13,some ⟨99,2,eL kF s2++[[.int .i64 v4.Room,.osl 3 1 (eL rI r5)]]⟩)] M3=hp E0 [(M1+3,some ⟨99,2,[[.int .i64 v4.Room,.fsl (eL rI v4.Items)]]⟩),(M1+13,some ⟨99,2,eL kF l6⟩)] M3 from by rw[<- app_enc (f:=kF) (c:=[.int .i64 v4.Room,.osl 3 1 (eL rI r5)]) hl6 rfl]]
   obtain rfl:=oi H
   refine qI hK2 ?_
   exact Rc.fin (AHeap.Sub.trans (zK (AHeap.Sub.refl _)) (zT rfl (by simp;try omega))) ⟨M3+2,(M1+13),(by omega),(by omega),(by omega),rfl,rfl⟩
  cases oj H
  refine zH (hO2 _ _ _ _ rfl ⟨rfl,?_⟩)
  refine kr ?_
  exact R2 (M1+1) o1
 intro x a J hx
 obtain⟨y3,rfl⟩:∃x,x=e1:=⟨_,rfl⟩
 obtain⟨rfl,b,U,hr,M2,o2,fM2_0,fM2_1,fM2_2,rfl,rfl⟩:=hx
 (try dsimp only at H)
 show K1 _ _
 refine hK1 _ _ (zI hr ?_)
 refine Rc.mk ?_
 refine qA [2] ?_
 obtain rfl:=oi H
 refine Kp [2] ?_
 exact V2 j0 (M2+2) o2

theorem c83_i_CrewRun_1_c4_0_1 {p0:Int}{p1:Int}{p2:Int}{p3:Int}{p4_0:gCrew}{r:Int×Int×Bool×gCrew}(H:kN p0 p1 p2 p3 p4_0=some r){J:AHeap}{w4_0:Nat}{W4_0:List (List AV)}{r4_0_:Nat}{w4_0c1:Nat}(q4_0:J.objs w4_0=some ⟨30,6,W4_0⟩)(g4_0:W4_0[r4_0_]? =some [.fsl (eL zA p4_0.Codes),.sl w4_0c1 0 p4_0.Threads.length,.osl 99 2 (eL kF p4_0.Boxes),.int .i64 p4_0.Turn,.int .i64 p4_0.Idle,.osl 3 1 (eL rI p4_0.Out)])(q4_0c1:J.objs w4_0c1=some ⟨42,2,eL zY p4_0.Threads⟩)(d0_1:¬w4_0=w4_0c1):ACalls Tryz.prog G 83 [.int .i64 p0,.int .i64 p1,.int .i64 p2,.int .i64 p3,.clo 84 [] [.ptr w4_0 r4_0_ 0]] J (fun v J'=>∃M:Nat,J.next<=M/\v=.tup [.int .i64 r.1,.int .i64 r.2.1,.bool r.2.2.1]/\J'=hp J.objs [(w4_0,some ⟨30,6,W4_0.set r4_0_ [.fsl (eL zA r.2.2.2.Codes),.osl 42 2 (eL zY r.2.2.2.Threads),.osl 99 2 (eL kF r.2.2.2.Boxes),.int .i64 r.2.2.2.Turn,.int .i64 r.2.2.2.Idle,.osl 3 1 (eL rI r.2.2.2.Out)]⟩),(w4_0c1,none)] M):=by
 refine fr1 ([(w4_0,some ⟨30,6,W4_0⟩),(w4_0c1,some ⟨42,2,eL zY p4_0.Threads⟩)]) (by simp[q4_0,q4_0c1]) (fun hlt=>?_) ⟨_,func83,rfl,rfl⟩
 generalize J.next=N0 at hlt ⊢
 have lw4_0:w4_0<N0:=hlt _ (.head _) rfl
 have lw4_0c1:w4_0c1<N0:=hlt _ (.tail _ (.head _)) rfl
 have gs_W4_0:∀x,(W4_0.set r4_0_ x)[r4_0_]? =some x:=gsetW g4_0
 rw[<- kK g4_0]
 refine fnK tok func83 ntmps83 results83 ?_
 simp only[argsA,Nat.reduceAdd,hpN]
 unfold kN at H
 have e0:=nQ w4_0 w4_0c1
 refine qC [0,1,2,3,4] e0 gs_W4_0 ?_
 refine Wsq [2,3] fun K1 hK1=>?_
 refine Wb ?_
 obtain⟨e1,hse1,H⟩:=bE H
 refine zS [0,1,2,3,4] (fun s a J=>∃M1:Nat,N0<=M1/\a=[(0,.int .i64 s.1),(1,.int .i64 p1),(2,.int .i64 s.2.1),(3,.int .i64 s.2.2.1),(4,.clo 84 [] [.ptr w4_0 r4_0_ 0])]/\J=hp E0 [(w4_0,some ⟨30,6,W4_0.set r4_0_ [.fsl (eL zA s.2.2.2.Codes),.osl 42 2 (eL zY s.2.2.2.Threads),.osl 99 2 (eL kF s.2.2.2.Boxes),.int .i64 s.2.2.2.Turn,.int .i64 s.2.2.2.Idle,.osl 3 1 (eL rI s.2.2.2.Out)]⟩)] M1) (fun e x a J=>match e with|.inl s=>x=.exit 0/\Rc G 42 N0 (fun a J=>∃M2:Nat,N0<=M2/\a=[(2,.int .i64 s.1),(3,.int .i64 s.2.1)]/\J=hp E0 [(w4_0,some ⟨30,6,W4_0.set r4_0_ [.fsl (eL zA s.2.2.Codes),.osl 42 2 (eL zY s.2.2.Threads),.osl 99 2 (eL kF s.2.2.Boxes),.int .i64 s.2.2.Turn,.int .i64 s.2.2.Idle,.osl 3 1 (eL rI s.2.2.Out)]⟩)] M2) (AAct.keep a [2,3]) J|.inr s=>x=.ret/\∃vs,resA T J a [.tmp 10,.tmp 11,.tmp 12]=some vs/\∃M:Nat,N0<=M/\(tupA vs)=.tup [.int .i64 s.1,.int .i64 s.2.1,.bool s.2.2.1]/\J=hp E0 [(w4_0,some ⟨30,6,W4_0.set r4_0_ [.fsl (eL zA s.2.2.2.Codes),.osl 42 2 (eL zY s.2.2.2.Threads),.osl 99 2 (eL kF s.2.2.2.Boxes),.int .i64 s.2.2.2.Turn,.int .i64 s.2.2.2.Idle,.osl 3 1 (eL rI s.2.2.2.Out)]⟩),(w4_0c1,none)] M) hse1 ?_ ?_ ?_
 .refine kp [0,1,2,3,4] ?_
  refine gP zI w4_0 r4_0_ 1 ?_ (hr:=by exact gs_W4_0 _)
  exact R1 (N0+3)
 .clear H hse1
  rintro⟨s1,s2,s3,s4⟩ fl a J H ⟨M1,fM1_0,rfl,rfl⟩ K2 O2 hK2 hO2
  unfold zW at H;dsimp only at H
  refine Wsq [0,1,2,3,4] fun K3 hK3=>?_
  obtain⟨g8,hg8,H⟩:=bE H
  refine qF tok [0,1,2,3,4,22] ([(0,.int .i64 s1),(1,.int .i64 p1),(2,.int .i64 s2),(3,.int .i64 s3),(4,.clo 84 [] [.ptr w4_0 r4_0_ 0]),(22,.bool g8)]) (hp E0 [(w4_0,some ⟨30,6,W4_0.set r4_0_ [.fsl (eL zA s4.Codes),.osl 42 2 (eL zY s4.Threads),.osl 99 2 (eL kF s4.Boxes),.int .i64 s4.Turn,.int .i64 s4.Idle,.osl 3 1 (eL rI s4.Out)]⟩)] (M1+7)) (by
   intro K k
   refine m1 gs_W4_0 ?_
   cases hbg8:igt s1 0
   .cases oj (ifF hbg8 hg8)
    exact m2 gs_W4_0 hbg8 k
   cases oj (ifT hbg8 hg8)
   refine m2 gs_W4_0 hbg8 ?_
   exact k) ?_
  refine Ci H ?_ ?_<;>intro H
  .refine Js hK3 ?_
   refine Wsq [0,1,2,3,4] fun K4 hK4=>?_
   refine Wb ?_
   obtain⟨r9,hr9,H⟩:=bE H
   obtain⟨r10,hr10,H⟩:=bE H
   refine Sm tok [] [0,1,4,13,14,15] (M1+21) (by
    intro K k
    refine m1 gs_W4_0 ?_
    refine(c84 (Wf0:=W4_0.set r4_0_ [.fsl (eL zA s4.Codes),.osl 42 2 (eL zY s4.Threads),.osl 99 2 (eL kF s4.Boxes),.int .i64 s4.Turn,.int .i64 s4.Idle,.osl 3 1 (eL rI s4.Out)]) (rf0_:=r4_0_) (H:=hr9) (by simp[gs_W4_0]) (by simp[gs_W4_0])).mono ?_;rintro _ _ ⟨M3,fM3_0,rfl,rfl⟩;simp only[hpN] at fM3_0
    refine m1 (j gs_W4_0 (j @hoS @hoN)) ?_
    refine(c115 hr10).app (m1 (j gs_W4_0 (j @hoS @hoN)) ?_)
    exact k M3 (by omega)) fun M3 fM3_0=>?_
   refine Wsq [0,1,4,13,14] fun K5 hK5=>?_
   refine qB [0,1,4,13,14,37] gs_W4_0 ?_
   refine Ci H ?_ ?_<;>intro H
   .refine qB [10,11,12] gs_W4_0 ?_
    obtain rfl:=oi H
    refine Kp [10,11,12] ?_
    refine Wr (hO2 _ _ _ _ rfl ⟨rfl,?_⟩)
    refine⟨[.int .i64 0,.int .i64 0,.bool false],by simp[gs_W4_0],M3+5,by omega,?_,?_⟩
    .simp[eN]
    symm;first|exact hp_tail (L:=[(w4_0,some ⟨30,6,W4_0.set r4_0_ [.fsl (eL zA r9.2.Codes),.osl 42 2 (eL zY r9.2.Threads),.osl 99 2 (eL kF r9.2.Boxes),.int .i64 r9.2.Turn,.int .i64 r9.2.Idle,.osl 3 1 (eL rI r9.2.Out)]⟩)])|(simp only[List.set_set];exact hp_tail (L:=[(w4_0,some ⟨30,6,W4_0.set r4_0_ [.fsl (eL zA r9.2.Codes),.osl 42 2 (eL zY r9.2.Threads),.osl 99 2 (eL kF r9.2.Boxes),.int .i64 r9.2.Turn,.int .i64 r9.2.Idle,.osl 3 1 (eL rI r9.2.Out)]⟩)]))
   refine Js hK5 ?_
   refine qH gs_W4_0 hK4 ?_
   obtain rfl:=oi H
   refine qJ gs_W4_0 hK2 ?_
   exact R1 (M3+9)
  cases oj H
  refine zH (hO2 _ _ _ _ rfl ⟨rfl,?_⟩)
  refine kr ?_
  exact R1 (M1+7)
 intro x a J hx
 rcases e1 with⟨y5,y6,y7⟩|r0
 .obtain⟨rfl,b,U,hr,M2,fM2_0,rfl,rfl⟩:=hx
  (try dsimp only at H)
  show K1 _ _
  refine hK1 _ _ (zI hr ?_)
  refine Rc.mk ?_
  refine qB [10,11,12] gs_W4_0 ?_
  obtain rfl:=oi H
  refine Kp [10,11,12] ?_
  refine Wr ?_
  refine⟨[.int .i64 y5,.int .i64 y6,.bool true],by simp[gs_W4_0],M2+5,by omega,?_,?_⟩
  .simp[eN]
  symm;first|exact hp_tail (L:=[(w4_0,some ⟨30,6,W4_0.set r4_0_ [.fsl (eL zA y7.Codes),.osl 42 2 (eL zY y7.Threads),.osl 99 2 (eL kF y7.Boxes),.int .i64 y7.Turn,.int .i64 y7.Idle,.osl 3 1 (eL rI y7.Out)]⟩)])|(simp only[List.set_set];exact hp_tail (L:=[(w4_0,some ⟨30,6,W4_0.set r4_0_ [.fsl (eL zA y7.Codes),.osl 42 2 (eL zY y7.Threads),.osl 99 2 (eL kF y7.Boxes),.int .i64 y7.Turn,.int .i64 y7.Idle,.osl 3 1 (eL rI y7.Out)]⟩)]))
 obtain⟨rfl,hx2⟩:=hx
 (try dsimp only at H)
 cases oj H;first|exact hx2|(simp only[List.set_set] at hx2 ⊢;exact hx2)

theorem c49 {p0:gCrew}{p1:Int}{r:gCrew×Bool}(H:oG p0 p1=some r):APure Tryz.prog G 49 [.agg [.fsl (eL zA p0.Codes),.fsl (eL zF p0.Threads),.fsl (eL rBox p0.Boxes),.int .i64 p0.Turn,.int .i64 p0.Idle,.fsl (eL rI p0.Out)],.int .i64 p1] (.tup [.agg [.fsl (eL zA r.1.Codes),.fsl (eL zF r.1.Threads),.fsl (eL rBox r.1.Boxes),.int .i64 r.1.Turn,.int .i64 r.1.Idle,.fsl (eL rI r.1.Out)],.bool r.2]):=by
 refine qK func49 ntmps49 results49 fun N0=>?_
 unfold oG at H
 refine S0 tok [0] [1,2,4] ?_
 refine Wsq [1,2,4] fun K1 hK1=>?_
 refine gW Wre (N0+1) 0 0 ?_
 refine gW Wre (N0+1) 0 1 ?_
 refine gW Wre (N0+1) 0 2 ?_
 refine gW Wre (N0+1) 0 5 ?_
 obtain⟨r1,hr1,H⟩:=bE H
 obtain⟨g2,hg2,H⟩:=bE H
 obtain⟨g3,hg3,H⟩:=bE H
 refine qF tok [1,2,4,19] ([(1,.int .i64 p1),(2,.fptr [.fsl (eL zA p0.Codes),.fsl (eL zF p0.Threads),.fsl (eL rBox p0.Boxes),.int .i64 p0.Turn,.int .i64 p0.Idle,.fsl (eL rI p0.Out)] 0),(4,.ptr (N0+1) 0 0),(19,.bool g3)]) (hp E0 [(N0+1,some ⟨30,6,[[.fsl [],.fsl [],.fsl [],.int .i64 0,.int .i64 0,.fsl []]]⟩)] (N0+14)) (by
  intro K k
  refine m0 ?_
  refine(c39 hr1).app (m0 ?_)
  cases hbg2:bnot r1
  .cases oj (ifF hbg2 hg2)
   refine m1 hbg2 ?_
   cases hbg3:(ilt p1 0)
   .cases oj (ifF hbg3 hg3)
    exact m2 hbg2 hbg3 k
   cases oj (ifT hbg3 hg3)
   exact m2 hbg2 hbg3 k
  cases oj (ifT hbg2 hg2)
  cases oj (ifT rfl hg3)
  refine m1 hbg2 ?_
  exact k) ?_
 refine Ci H ?_ ?_<;>intro H
 .refine qA [4,5] ?_
  cases oj H
  refine Kp [4,5] ?_
  exact V0
 refine Js hK1 ?_
 obtain⟨r4,hr4,H⟩:=bE H
 obtain⟨r5,hr5,H⟩:=bE H
 obtain⟨r6,hr6,H⟩:=bE H
 refine AWP_syC tok tokM [9] [5,8,10,11] [0,1,2,3,4,6,7,5,8,9,10,11] [] [1,2,4,6] (fun a J=>∃M1 o1:Nat,∃M2 o2:Nat,N0+26<=M1/\N0+26<=o1/\o1<M1/\M1<=M2/\M1<=o2/\o2<M2/\a=[(1,.int .i64 p1),(2,.fptr [.fsl (eL zA p0.Codes),.fsl (eL zF p0.Threads),.fsl (eL rBox p0.Boxes),.int .i64 p0.Turn,.int .i64 p0.Idle,.fsl (eL rI p0.Out)] 0),(4,.ptr (N0+1) 0 0),(6,.ptr (N0+24) 0 0)]/\J=hp E0 [(N0+1,some ⟨30,6,[[.fsl [],.fsl [],.fsl [],.int .i64 0,.int .i64 0,.fsl []]]⟩),(o1,some ⟨99,2,eL kF r5⟩),(o2,some ⟨3,1,eL rI r6⟩),(N0+24,some ⟨30,6,[[.fsl (eL zA r4),.nilsl,.sl o1 0 r5.length,.int .i64 0,.int .i64 0,.sl o2 0 r6.length]]⟩)] M2) (by decide) (by kernel_rfl) (fun K hK=>?_) ?_
 .simp only[pickL,zN,zO]
  refine m0 ?_
  refine Pc.mk (c36 hr4) (m0 ?_)
  refine mo (c82_o2 (H:=hr5)) fun M1 o1 fM1_0 fM1_1 fM1_2=>?_
  have eM1_0:=nQ o1 (N0+1)
  have eM1_1:=nQ o1 (N0+24)
  refine m1 (j eM1_0 (j eM1_1 (j @hoS @hoN))) ?_
  refine mo (c57_o (H:=hr6)) fun M2 o2 fM2_0 fM2_1 fM2_2=>?_
  have eM2_0:=nQ o2 (N0+1)
  have eM2_1:=nQ o2 (N0+24)
  have eM2_2:=nQ o2 o1
  refine m1 (j eM1_0 (j eM1_1 (j @hoS (j @hoN (j eM2_0 (j eM2_1 eM2_2)))))) ?_
  exact hK _ _ ⟨M1,o1,M2,o2,(by omega),(by omega),(by omega),(by omega),(by omega),(by omega),rfl,rfl⟩
 rintro a J ⟨M1,o1,M2,o2,fM1_0,fM1_1,fM1_2,fM2_0,fM2_1,fM2_2,rfl,rfl⟩
 refine Wsq [1,2,4,6] fun K2 hK2=>?_
 have e0:=nQ (N0+1) o1
 have e1:=nQ (N0+1) o2
 have e2:=nQ o1 o2
 have e3:=nQ o1 (N0+24)
 have e4:=nQ o2 (N0+24)
 refine qB [1,2,4,6,32,33,34] (j e0 (j e1 (j e2 (j e3 e4)))) ?_
 refine Wb ?_
 obtain⟨e1,hse1,H⟩:=bE H
 refine zS [1,2,4,6,32,33,34] (fun s a J=>∃M3 o3 o4:Nat,N0<=M3/\N0<=o3/\o3<M3/\N0<=o4/\o4<M3/\¬o3=o4/\a=[(1,.int .i64 p1),(2,.fptr [.fsl (eL zA p0.Codes),.fsl (eL zF p0.Threads),.fsl (eL rBox p0.Boxes),.int .i64 p0.Turn,.int .i64 p0.Idle,.fsl (eL rI p0.Out)] 0),(4,.ptr o3 0 0),(6,.ptr o4 0 0),(32,.fsl (eL zF p0.Threads)),(33,.int .i64 (ilen p0.Threads)),(34,.int .i64 s.1)]/\J=hp E0 [(o3,some ⟨30,6,[[.fsl (eL zA s.2.1.Codes),.fsl (eL zF s.2.1.Threads),.fsl (eL rBox s.2.1.Boxes),.int .i64 s.2.1.Turn,.int .i64 s.2.1.Idle,.fsl (eL rI s.2.1.Out)]]⟩),(o4,some ⟨30,6,[[.fsl (eL zA s.2.2.Codes),.osl 42 2 (eL zY s.2.2.Threads),.osl 99 2 (eL kF s.2.2.Boxes),.int .i64 s.2.2.Turn,.int .i64 s.2.2.Idle,.osl 3 1 (eL rI s.2.2.Out)]]⟩)] M3) (fun s x a J=>x=.exit 0/\Rc G 67 N0 (fun a J=>∃M4 o5 o6:Nat,N0<=M4/\N0<=o5/\o5<M4/\N0<=o6/\o6<M4/\¬o5=o6/\a=[(1,.int .i64 p1),(2,.fptr [.fsl (eL zA p0.Codes),.fsl (eL zF p0.Threads),.fsl (eL rBox p0.Boxes),.int .i64 p0.Turn,.int .i64 p0.Idle,.fsl (eL rI p0.Out)] 0),(4,.ptr o5 0 0),(6,.ptr o6 0 0)]/\J=hp E0 [(o5,some ⟨30,6,[[.fsl (eL zA s.1.Codes),.fsl (eL zF s.1.Threads),.fsl (eL rBox s.1.Boxes),.int .i64 s.1.Turn,.int .i64 s.1.Idle,.fsl (eL rI s.1.Out)]]⟩),(o6,some ⟨30,6,[[.fsl (eL zA s.2.Codes),.osl 42 2 (eL zY s.2.Threads),.osl 99 2 (eL kF s.2.Boxes),.int .i64 s.2.Turn,.int .i64 s.2.Idle,.osl 3 1 (eL rI s.2.Out)]]⟩)] M4) (AAct.keep a [1,2,4,6]) J) hse1 ?_ ?_ ?_
 .refine kp [1,2,4,6,32,33,34] ?_
  refine gP0 zI (N0+24) 0 1 42 2 (eL zY ([]:List gThread)) ?_
  refine gP zI (N0+24) 0 2 ?_
  refine gP zI (N0+24) 0 5 ?_
  exact R3 (M2+4) (N0+1) (N0+24)
 .clear H hse1
  rintro⟨s7,s8,s9⟩ fl a J H ⟨M3,o3,o4,fM3_0,fM3_1,fM3_2,fM3_3,fM3_4,fM3_5,rfl,rfl⟩ K3 O3 hK3 hO3
  unfold tN at H;dsimp only at H
  have e0:=nQ o3 o4
  refine qB [1,2,4,6,32,33,34,35] e0 ?_
  refine Wsq [1,2,4,6,32,33,34] fun K4 hK4=>?_
  refine Ci H ?_ ?_<;>intro H
  .refine Js hK4 ?_
   refine Wsq [1,2,4,6,32,33,34] fun K5 hK5=>?_
   refine Wb ?_
   obtain⟨v12,hv12,H⟩:=bE H
   have e0:=nQ o3 o4
   have e1:=nQ o3 (M3+3)
   have e2:=nQ o4 (M3+3)
   refine qB [1,2,4,6,8,32,33,34] (j e0 (j e1 (j e2 (ix27 hv12)))) ?_
   refine gU Wre o4 0 1 ?_
   obtain⟨r13,hr13,H⟩:=bE H
   obtain⟨l14,hl14,H⟩:=bE H
   have q0:∀(a0:Nat) (a1:Nat) (a2:Int) J i,bsA T 27 true i 1 [(0,.agg [.sl a0 0 a1,.int .i64 a2])] J=some (.fsl [[.sl a0 0 a1,.int .i64 a2]],J):=fun _ _ _ _ _=>rfl
   refine AWP_ry tok tokM [8] [1,3,4,6,7,8,9,11] [0,2,5,1,3,6,4,7,8,9,10,11] [(4,[1,6]),(8,[1])] [1,2,4,6,32,33,34] (fun a J=>∃M5 o7:Nat,M3+18<=M5/\M3+18<=o7/\o7<M5/\a=[(1,.int .i64 p1),(2,.fptr [.fsl (eL zA p0.Codes),.fsl (eL zF p0.Threads),.fsl (eL rBox p0.Boxes),.int .i64 p0.Turn,.int .i64 p0.Idle,.fsl (eL rI p0.Out)] 0),(4,.ptr o3 0 0),(6,.ptr o4 0 0),(32,.fsl (eL zF p0.Threads)),(33,.int .i64 (ilen p0.Threads)),(34,.int .i64 s7)]/\J=hp E0 [(o3,some ⟨30,6,[[.fsl (eL zA s8.Codes),.fsl (eL zF s8.Threads),.fsl (eL rBox s8.Boxes),.int .i64 s8.Turn,.int .i64 s8.Idle,.fsl (eL rI s8.Out)]]⟩),(o4,some ⟨30,6,[[.fsl (eL zA s9.Codes),.sl (M3+15) 0 l14.length,.osl 99 2 (eL kF s9.Boxes),.int .i64 s9.Turn,.int .i64 s9.Idle,.osl 3 1 (eL rI s9.Out)]]⟩),(M3+3,some ⟨42,2,[[.fsl (eL rI v12.Regs),.int .i64 v12.Pc]]⟩),(o7,some ⟨3,1,eL rI r13⟩),(M3+15,some ⟨42,2,eL zY s9.Threads++[[.sl o7 0 r13.length,.int .i64 v12.Pc]]⟩)] M5) (by decide) (fun K hK=>?_) ?_
   .simp only[pickL,zN,zO]
    have e0:=nQ o3 o4
    have e1:=nQ o3 (M3+3)
    have e2:=nQ o3 (M3+5)
    have e3:=nQ o3 (M3+15)
    have e4:=nQ o4 (M3+3)
    have e5:=nQ o4 (M3+5)
    have e6:=nQ o4 (M3+15)
    refine m1 (j e0 (j e1 (j e2 (j e3 (j e4 (j e5 (j e6 (j q0 (apr27 zY hl14))))))))) ?_
    refine mo (c57_o (H:=hr13)) fun M5 o7 fM5_0 fM5_1 fM5_2=>?_
    have eM5_0:=nQ o7 o3
    have eM5_1:=nQ o7 o4
    have eM5_2:=nQ o7 (M3+3)
    have eM5_3:=nQ o7 (M3+5)
    have eM5_4:=nQ o7 (M3+15)
    refine m1 (j e0 (j e1 (j e2 (j e3 (j e4 (j e5 (j e6 (j q0 (j (apr27 zY hl14) (j eM5_0 (j eM5_1 (j eM5_2 (j eM5_3 (j eM5_4 (j @hoS @hoN))))))))))))))) ?_
    exact hK _ _ ⟨M5,o7,(by omega),(by omega),(by omega),rfl,rfl⟩
   rintro a J ⟨M5,o7,fM5_0,fM5_1,fM5_2,ha,rfl⟩
   refine hK5 _ _ ?_;rw[ha]
   refine Rc.mk ?_
   refine gP Wre (M3+15) s9.Threads.length 0 ?_ (hr:=by exact app_get _ _ _)
   rw[show hp E0 [(o3,some ⟨30,6,[[.fsl (eL zA s8.Codes),.fsl (eL zF s8.Threads),.fsl (eL rBox s8.Boxes),.int .i64 s8.Turn,.int .i64 s8.Idle,.fsl (eL rI s8.Out)]]⟩),(o4,some ⟨30,6,[[.fsl (eL zA s9.Codes),.sl (M3+15) 0 l14.length,.osl 99 2 (eL kF s9.Boxes),.int .i64 s9.Turn,.int .i64 s9.Idle,.osl 3 1 (eL rI s9.Out)]]⟩),(M3+3,some ⟨42,2,[[.fsl (eL rI v12.Regs),.int .i64 v12.Pc]]⟩),(M3+15,some ⟨42,2,eL zY s9.Threads++[[.osl 3 1 (eL rI r13),.int .i64 v12.Pc]]⟩)] M5=hp E0 [(o3,some ⟨30,6,[[.fsl (eL zA s8.Codes),.fsl (eL zF s8.Threads),.fsl (eL rBox s8.Boxes),.int .i64 s8.Turn,.int .i64 s8.Idle,.fsl (eL rI s8.Out)]]⟩),(o4,some ⟨30,6,[[.fsl (eL zA s9.Codes),.sl (M3+15) 0 l14.length,.osl 99 2 (eL kF s9.Boxes),.int .i64 s9.Turn,.int .i64 s9.Idle,.osl 3 1 (eL rI s9.Out)]]⟩),(M3+3,some ⟨42,2,[[.fsl (eL rI v12.Regs),.int .i64 v12.Pc]]⟩),(M3+15,some ⟨42,2,eL zY l14⟩)] M5 from by rw[<- app_enc (f:=zY) (c:=[.osl 3 1 (eL rI r13),.int .i64 v12.Pc]) hl14 rfl]]
   have e0:=nQ o3 o4
   have e1:=nQ o3 (M3+3)
   have e2:=nQ o3 (M3+15)
   have e3:=nQ o4 (M3+3)
   have e4:=nQ o4 (M3+15)
   obtain rfl:=oi H
   refine qJ (j e0 (j e1 (j e2 (j e3 e4)))) hK3 ?_
   refine gP zI o4 0 1 ?_
   exact Rc.fin (zK (zK (AHeap.Sub.trans (AHeap.Sub.refl _) (zT rfl (by simp;try omega))))) ⟨M5+2,o3,o4,(by omega),(by omega),(by omega),(by omega),(by omega),(by omega),rfl,rfl⟩
  cases oj H
  refine zH (hO3 _ _ _ _ rfl ⟨rfl,?_⟩)
  refine kr ?_
  exact R3 (M3+1) o3 o4
 intro x a J hx
 obtain⟨y10,y11⟩:=e1
 obtain⟨rfl,b,U,hr,M4,o5,o6,fM4_0,fM4_1,fM4_2,fM4_3,fM4_4,fM4_5,rfl,rfl⟩:=hx
 (try dsimp only at H)
 show K2 _ _
 refine hK2 _ _ (zI hr ?_)
 refine Rc.mk ?_
 refine gU Wre o6 0 1 ?_
 obtain⟨r15,hr15,H⟩:=bE H
 refine Sm tok [] [4,6] (M4+19) (by
  intro K k
  have e0:=nQ o5 o6
  have e1:=nQ o5 M4
  have e2:=nQ o6 M4
  refine m1 (j e0 (j e1 e2)) ?_
  refine(c83_i_CrewRun_1_c4_0_1 (w4_0c1:=M4) (W4_0:=[[.fsl (eL zA y11.Codes),.sl M4 0 y11.Threads.length,.osl 99 2 (eL kF y11.Boxes),.int .i64 y11.Turn,.int .i64 y11.Idle,.osl 3 1 (eL rI y11.Out)]]) (r4_0_:=0) (H:=hr15) (by simp[e0,e1,e2]) (by simp[e0,e1,e2]) (by simp[e0,e1,e2]) (by simp[e0,e1,e2])).mono ?_;rintro _ _ ⟨M6,fM6_0,rfl,rfl⟩;simp only[hpN] at fM6_0
  refine m1 (j e0 (j e1 (j e2 (j @hoS @hoN)))) ?_
  exact k M6 (by omega)) fun M6 fM6_0=>?_
 refine gU Wre o6 0 1 ?_
 refine gU Wre o6 0 2 ?_
 refine gU Wre o6 0 5 ?_
 have e0:=nQ o5 o6
 have e1:=nQ o5 M6
 have e2:=nQ o5 (M6+1)
 have e3:=nQ o5 (M6+2)
 have e4:=nQ o6 M6
 have e5:=nQ o6 (M6+1)
 have e6:=nQ o6 (M6+2)
 refine qB [4,5] (j e0 (j e1 (j e2 (j e3 (j e4 (j e5 e6)))))) ?_
 obtain rfl:=oi H
 refine Kp [4,5] ?_
 have z0:=nQ o5 o6
 have z1:=nQ o5 M6
 have z2:=nQ o5 (M6+1)
 have z3:=nQ o5 (M6+2)
 have z4:=nQ o6 M6
 have z5:=nQ o6 (M6+1)
 have z6:=nQ o6 (M6+2)
 refine Wr ?_
 exact⟨[.agg [.fsl (eL zA r15.2.2.2.Codes),.sl M6 0 r15.2.2.2.Threads.length,.sl (M6+1) 0 r15.2.2.2.Boxes.length,.int .i64 r15.1,.int .i64 r15.2.1,.sl (M6+2) 0 r15.2.2.2.Out.length],.bool true],by simp[z0,z1,z2,z3,z4,z5,z6],4,by simp[eN,z0,z1,z2,z3,z4,z5,z6]⟩

theorem c18 {p0:List Int}{p1:(List (List gQuad))}{p2:Int}{r:gCrew}(H:vO p0 p1 p2=some r):APure Tryz.prog G 18 [.fsl (eL rI p0),.fsl (eL zA p1),.int .i64 p2] (.agg [.fsl (eL zA r.Codes),.fsl (eL zF r.Threads),.fsl (eL rBox r.Boxes),.int .i64 r.Turn,.int .i64 r.Idle,.fsl (eL rI r.Out)]):=by
 refine qK func18 ntmps18 results18 fun N0=>?_
 unfold vO at H
 refine qA [0,1,2,6] ?_
 refine gW Wre N0 0 0 ?_
 refine gW Wre N0 0 1 ?_
 refine gW Wre N0 0 2 ?_
 refine gW Wre N0 0 5 ?_
 obtain⟨r1,hr1,H⟩:=bE H
 refine qD [2,6,7,8] (c14 hr1) ?_
 obtain⟨r2,hr2,H⟩:=bE H
 refine qD [6,8,9,10] (c49 hr2) ?_
 refine Wsq [6,9] fun K1 hK1=>?_
 obtain⟨g3,hg3,H⟩:=bE H
 refine qF tok [6,9,28] ([(6,.ptr N0 0 0),(9,.ptr (N0+16) 0 0),(28,.bool g3)]) (hp E0 [(N0,some ⟨30,6,[[.fsl [],.fsl [],.fsl [],.int .i64 0,.int .i64 0,.fsl []]]⟩),(N0+7,some ⟨30,6,[[.fsl (eL zA r1.1.Codes),.fsl (eL zF r1.1.Threads),.fsl (eL rBox r1.1.Boxes),.int .i64 r1.1.Turn,.int .i64 r1.1.Idle,.fsl (eL rI r1.1.Out)]]⟩),(N0+16,some ⟨30,6,[[.fsl (eL zA r2.1.Codes),.fsl (eL zF r2.1.Threads),.fsl (eL rBox r2.1.Boxes),.int .i64 r2.1.Turn,.int .i64 r2.1.Idle,.fsl (eL rI r2.1.Out)]]⟩)] (N0+25)) (by
  intro K k
  refine m0 ?_
  cases hbg3:bnot r1.2
  .cases oj (ifF hbg3 hg3)
   exact m1 hbg3 k
  cases oj (ifT hbg3 hg3)
  refine m1 hbg3 ?_
  exact k) ?_
 refine Ci H ?_ ?_<;>intro H
 .refine qA [6] ?_
  cases oj H
  refine Kp [6] ?_
  exact V0
 refine Js hK1 ?_
 refine qA [6] ?_
 obtain rfl:=oi H
 refine Kp [6] ?_
 exact V0
end Go.Proofs.YtnaikeccpnadgaaGreat
