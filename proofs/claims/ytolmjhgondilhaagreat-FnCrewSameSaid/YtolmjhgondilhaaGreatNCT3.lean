/- The contracts of functions of the program (CT3): each computes what its mirror computes. No conditions. -/
import Derived.Test.YtolmjhgondilhaaGreatNCT2
set_option linter.unusedSimpArgs false
set_option linter.unusedVariables false
set_option maxRecDepth 20000
set_option maxHeartbeats 4000000
namespace Go.Proofs.YtolmjhgondilhaaGreat
open Go Go.Abs Go.RowKit Tryz

theorem c57 {p0:Int}{pf0:gCrew}{r:Int×gCrew}(H:sT p0 pf0=some r){J:AHeap}{wf0:Nat}{Wf0:List (List AV)}{rf0_:Nat}(qf0:J.objs wf0=some ⟨30,6,Wf0⟩)(gf0:Wf0[rf0_]? =some [.fsl (eL zA pf0.Codes),.osl 42 2 (eL zB pf0.Threads),.osl 103 2 (eL zM pf0.Boxes),.int .i64 pf0.Turn,.int .i64 pf0.Idle,.osl 3 1 (eL rI pf0.Out)]):ACalls Tryz.prog G 57 [.int .i64 p0,.ptr wf0 rf0_ 0] J (fun v J'=>∃M:Nat,J.next<=M/\v=.int .i64 r.1/\J'=hp J.objs [(wf0,some ⟨30,6,Wf0.set rf0_ [.fsl (eL zA r.2.Codes),.osl 42 2 (eL zB r.2.Threads),.osl 103 2 (eL zM r.2.Boxes),.int .i64 r.2.Turn,.int .i64 r.2.Idle,.osl 3 1 (eL rI r.2.Out)]⟩)] M):=by
 refine fr1 ([(wf0,some ⟨30,6,Wf0⟩)]) (by simp[qf0]) (fun hlt=>?_) ⟨_,func57,rfl,rfl⟩
 generalize J.next=N0 at hlt ⊢
 have lwf0:wf0<N0:=hlt _ (.head _) rfl
 have gs_Wf0:∀x,(Wf0.set rf0_ x)[rf0_]? =some x:=gsetW gf0
 rw[<- kD gf0]
 refine fnK tok func57 ntmps57 results57 ?_
 simp only[argsA,Nat.reduceAdd,hpN]
 unfold sT at H
 refine qB [0,1] gs_Wf0 ?_
 refine gU Wre wf0 rf0_ 1 ?_ (hr:=by exact gs_Wf0 _)
 refine gU Wre wf0 rf0_ 2 ?_ (hr:=by exact gs_Wf0 _)
 obtain⟨v3,hv3,H⟩:=bE H
 obtain⟨v4,hv4,H⟩:=bE H
 obtain⟨r5,hr5,H⟩:=bE H
 obtain⟨l6,hl6,H⟩:=bE H
 refine gM tok tokM [] [1,3,5,7,8,10,12] [0,2,4,6,9,11,1,3,5,7,8,10,12,13] [3] (fun a J=>∃M1:Nat,N0+17<=M1/\r5.2.2.1.length=pf0.Boxes.length/\a=[(3,.int .i64 r5.1)]/\J=hp E0 [(wf0,some ⟨30,6,Wf0.set rf0_ [.fsl (eL zA pf0.Codes),.sl (N0+1) 0 pf0.Threads.length,.sl (N0+2) 0 pf0.Boxes.length,.int .i64 pf0.Turn,.int .i64 pf0.Idle,.osl 3 1 (eL rI r5.2.2.2)]⟩),(N0+1,some ⟨42,2,eL zB l6⟩),(N0+2,some ⟨103,2,eL zM r5.2.2.1⟩)] M1) (by decide) (fun K hK=>?_) ?_
 .simp only[pickL,zO,zP]
  have e0:=nQ wf0 (N0+1)
  have e1:=nQ wf0 (N0+2)
  refine m1 (j e0 (j e1 (j gs_Wf0 (j (ixo27 hv3) (j ((zC hv3).2.2) (j (ix24 hv4) (j ((setx_iff.1 hl6).2.symm) @zW))))))) ?_
  refine(c58 (W0:=eL zB pf0.Threads) (r0_:=p0.toNat) (W3:=Wf0.set rf0_ [.fsl (eL zA pf0.Codes),.sl (N0+1) 0 pf0.Threads.length,.sl (N0+2) 0 pf0.Boxes.length,.int .i64 pf0.Turn,.int .i64 pf0.Idle,.osl 3 1 (eL rI pf0.Out)]) (r3_:=rf0_) (x3_:=[.fsl (eL zA pf0.Codes),.sl (N0+1) 0 pf0.Threads.length,.sl (N0+2) 0 pf0.Boxes.length,.int .i64 pf0.Turn,.int .i64 pf0.Idle,.osl 3 1 (eL rI pf0.Out)]) (i3_:=5) (t3_:=30) (s3_:=6) (H:=hr5) (by simp[e0,e1,gs_Wf0,ixo27 hv3,(zC hv3).2.2,ix24 hv4,(setx_iff.1 hl6).2.symm,zW]) (by simp[e0,e1,gs_Wf0,ixo27 hv3,(zC hv3).2.2,ix24 hv4,(setx_iff.1 hl6).2.symm,zW]) (by simp[e0,e1,gs_Wf0,ixo27 hv3,(zC hv3).2.2,ix24 hv4,(setx_iff.1 hl6).2.symm,zW]) (by simp[e0,e1,gs_Wf0,ixo27 hv3,(zC hv3).2.2,ix24 hv4,(setx_iff.1 hl6).2.symm,zW]) (by simp[e0,e1,gs_Wf0,ixo27 hv3,(zC hv3).2.2,ix24 hv4,(setx_iff.1 hl6).2.symm,zW]) (by simp[e0,e1,gs_Wf0,ixo27 hv3,(zC hv3).2.2,ix24 hv4,(setx_iff.1 hl6).2.symm,zW]) (by simp[e0,e1,gs_Wf0,ixo27 hv3,(zC hv3).2.2,ix24 hv4,(setx_iff.1 hl6).2.symm,zW]) (by simp[e0,e1,gs_Wf0,ixo27 hv3,(zC hv3).2.2,ix24 hv4,(setx_iff.1 hl6).2.symm,zW]) (by simp[e0,e1,gs_Wf0,ixo27 hv3,(zC hv3).2.2,ix24 hv4,(setx_iff.1 hl6).2.symm,zW])).mono ?_;rintro _ _ ⟨M1,fM1_0,fM1_1,rfl,rfl⟩;simp only[hpN] at fM1_0
  refine m1 (j e0 (j e1 (j gs_Wf0 (j (ixo27 hv3) (j ((zC hv3).2.2) (j (ix24 hv4) (j ((setx_iff.1 hl6).2.symm) (j @zW (j @hoS @hoN))))))))) ?_
  exact hK _ _ ⟨M1,(by omega),fM1_1,rfl,rfl⟩
 rintro a J ⟨M1,fM1_0,fM1_1,rfl,rfl⟩
 try rw[<- zE hl6]
 try rw[<- fM1_1]
 obtain rfl:=oi H
 refine Kp [3] ?_
 refine gP Wre wf0 rf0_ 1 ?_ (hr:=by exact gs_Wf0 _)
 refine gP Wre wf0 rf0_ 2 ?_ (hr:=by exact gs_Wf0 _)
 exact V1 gs_Wf0 M1

theorem c36 {p0:Int}{p1:Int}{p2:Int}{p3:Int}{r:Int×Int×Bool}(H:xX p0 p1 p2 p3=some r):APure Tryz.prog G 36 [.int .i64 p0,.int .i64 p1,.int .i64 p2,.int .i64 p3] (.tup [.int .i64 r.1,.int .i64 r.2.1,.bool r.2.2]):=by
 refine qK func36 ntmps36 results36 fun N0=>?_
 unfold xX at H
 refine qA [0,1,2,3] ?_
 refine Wsq [0,1,2,3] fun K1 hK1=>?_
 obtain⟨g1,hg1,H⟩:=bE H
 obtain⟨g2,hg2,H⟩:=bE H
 obtain⟨g3,hg3,H⟩:=bE H
 obtain⟨g4,hg4,H⟩:=bE H
 obtain⟨g5,hg5,H⟩:=bE H
 refine qF tok [0,1,2,3,34] ([(0,.int .i64 p0),(1,.int .i64 p1),(2,.int .i64 p2),(3,.int .i64 p3),(34,.bool g5)]) (hp E0 [] (N0+27)) (by
  intro K k
  refine m0 ?_
  cases hbg1:ilt p0 1
  .cases oj (ifF hbg1 hg1)
   refine m1 hbg1 ?_
   cases hbg2:(igt p0 3)
   .cases oj (ifF hbg2 hg2)
    refine m2 hbg1 hbg2 ?_
    cases hbg3:(ilt p1 0)
    .cases oj (ifF hbg3 hg3)
     refine m1 (j hbg1 (j hbg2 hbg3)) ?_
     cases hbg4:(ige p1 p0)
     .cases oj (ifF hbg4 hg4)
      refine m1 (j hbg1 (j hbg2 (j hbg3 hbg4))) ?_
      cases hbg5:(ilt p2 0)
      .cases oj (ifF hbg5 hg5)
       exact m1 (j hbg1 (j hbg2 (j hbg3 (j hbg4 hbg5)))) k
      cases oj (ifT hbg5 hg5)
      exact m1 (j hbg1 (j hbg2 (j hbg3 (j hbg4 hbg5)))) k
     cases oj (ifT hbg4 hg4)
     cases oj (ifT rfl hg5)
     exact m1 (j hbg1 (j hbg2 (j hbg3 hbg4))) k
    cases oj (ifT hbg3 hg3)
    cases oj (ifT rfl hg4)
    cases oj (ifT rfl hg5)
    exact m1 (j hbg1 (j hbg2 hbg3)) k
   cases oj (ifT hbg2 hg2)
   cases oj (ifT rfl hg3)
   cases oj (ifT rfl hg4)
   cases oj (ifT rfl hg5)
   exact m2 hbg1 hbg2 k
  cases oj (ifT hbg1 hg1)
  cases oj (ifT rfl hg2)
  cases oj (ifT rfl hg3)
  cases oj (ifT rfl hg4)
  cases oj (ifT rfl hg5)
  refine m1 hbg1 ?_
  exact k) ?_
 refine Ci H ?_ ?_<;>intro H
 .refine qA [8,9,10] ?_
  cases oj H;exact W4
 refine Js hK1 ?_
 refine Wsq [] fun K2 hK2=>?_
 refine qA [0,1,2,35] ?_
 refine Wb ?_
 refine qA [0,1,2,35,36] ?_
 refine Ci H ?_ ?_<;>intro H
 .refine qA [8,9,10] ?_
  cases oj H;exact W4
 refine qA [0,1,2,35,39] ?_
 refine Ci H ?_ ?_<;>intro H
 .obtain⟨v6,hv6,H⟩:=bE H
  refine qB [8,9,10] hv6 ?_
  cases oj H;exact W4
 obtain⟨j1,hj1,H⟩:=bE H
 refine kR (kO fun K3 hK3=>?_)
 have hJ1:∀a J,Rc G 54 N0 (fun a J=>∃M1:Nat,N0<=M1/\a=[(0,.int .i64 p0),(1,.int .i64 p1),(2,.int .i64 p2),(45,.bool j1)]/\J=hp E0 [] M1) (a.keep [0,1,2,45]) J->K3 a J:=by
  rintro a J ⟨b,U,hr,M1,fM1_0,rfl,rfl⟩
  refine hK3 _ _ (kH [0,1,2,45] (Wre hr ?_))
  refine Ci H ?_ ?_<;>intro H
  .obtain⟨v8,hv8,H⟩:=bE H
   refine qB [8,9,10] hv8 ?_
   cases oj H;exact W4
  refine Js hK2 ?_
  refine qA [8,9,10] ?_
  cases oj H;exact W4
 replace H:=hj1
 refine qA [0,1,2,35,45] ?_
 refine Ci H ?_ ?_<;>intro H
 .refine Wsk ?_
  show K3 _ _
  refine kE [0,1,2,45] fun a' ha=>?_
  cases oj H
  refine hJ1 _ _ ?_;rw[ha]
  exact R1 (N0+34)
 refine Rt0 tok [] [0,1,2,45] fun a ha=>?_
 cases oj H
 refine hJ1 _ _ ?_;rw[ha]
 exact R1 (N0+36)

theorem c55_o {p0:List Int}{r:List Int}(H:kB p0=some r){J:AHeap}:ACalls Tryz.prog G 55 [.fsl (eL rI p0)] J (fun v J'=>∃M n0:Nat,J.next<=M/\J.next<=n0/\n0<M/\v=.sl n0 0 r.length/\J'=hp J.objs [(n0,some ⟨3,1,eL rI r⟩)] M):=by
 refine fr2 [] (by simp) (fun hlt=>?_) ⟨_,func55,rfl,rfl⟩
 generalize J.next=N0 at hlt ⊢
 refine fnK tok func55 ntmps55 results55 ?_
 simp only[argsA,Nat.reduceAdd,hpN]
 unfold kB at H
 refine qA [0] ?_
 refine Wsq [0] fun K1 hK1=>?_
 refine AWP_isnil tok [4,0] ([(0,.fsl (eL rI p0))]) rfl rfl (by decide) (by decide) (by decide) (fun _=>rfl) (fun n0=>?_) ?_
 .replace n0:p0=[]:=encL_isnil n0
  replace H:(if true=true then   some ([]:List Int) else   (appx 8 ([]:List Int) p0).bind fun l2=>   some l2:Option ((List Int)))=some r:=by simpa [n0,appx] using H
  refine Ci H ?_ ?_<;>intro H
  .refine qA [2] ?_
   cases oj H
   refine Kp [2] ?_
   refine gNilS Wre 2 3 1 [(N0+2,some ⟨3,1,eL rI ([]:List Int)⟩)] [(2,.sl (N0+2) 0 ([]:List Int).length)] (by simp(disch:=omega)) (by simp(disch:=omega) [eN]) [2] rfl ?_
   exact V2 j0 (N0+3) (N0+2)
  refine Js hK1 ?_
  obtain⟨l2,hl2,H⟩:=bE H
  have q2:∀J i,bsA T 23 true i 0 [] J=some (.esl,J):=fun _ _=>rfl
  refine Sz tok [0] [2] q2 (appe23 hl2) ?_
  obtain rfl:=oi H
  refine Kp [2] ?_
  exact V2 j0 (N0+5) (N0+3)
 .
  refine Ci H ?_ ?_<;>intro H
  .refine qA [2] ?_
   cases oj H
   refine Kp [2] ?_
   refine gNilS Wre 2 3 1 [(N0+2,some ⟨3,1,eL rI ([]:List Int)⟩)] [(2,.sl (N0+2) 0 ([]:List Int).length)] (by simp(disch:=omega)) (by simp(disch:=omega) [eN]) [2] rfl ?_
   exact V2 j0 (N0+3) (N0+2)
  refine Js hK1 ?_
  obtain⟨l1,hl1,H⟩:=bE H
  have q1:∀J i,bsA T 23 true i 0 [] J=some (.esl,J):=fun _ _=>rfl
  refine Sz tok [0] [2] q1 (appe23 hl1) ?_
  obtain rfl:=oi H
  refine Kp [2] ?_
  exact V2 j0 (N0+5) (N0+3)

theorem c54_o2 {p0:List gBox}{r:List gBox}(H:jI p0=some r){J:AHeap}:ACalls Tryz.prog G 54 [.fsl (eL rBox p0)] J (fun v J'=>∃M n0:Nat,J.next<=M/\J.next<=n0/\n0<M/\v=.sl n0 0 r.length/\J'=hp J.objs [(n0,some ⟨103,2,eL zM r⟩)] M):=by
 refine fr2 [] (by simp) (fun hlt=>?_) ⟨_,func54,rfl,rfl⟩
 generalize J.next=N0 at hlt ⊢
 refine fnK tok func54 ntmps54 results54 ?_
 simp only[argsA,Nat.reduceAdd,hpN]
 unfold jI at H
 refine qA [0] ?_
 refine qA [0,3] ?_
 refine Wsq [3] fun K1 hK1=>?_
 refine qA [3,6,7,8] ?_
 refine Wb ?_
 obtain⟨e1,hse1,H⟩:=bE H
 refine zX [3,6,7,8] (fun s a J=>∃M1 o1:Nat,N0<=M1/\N0<=o1/\o1<M1/\a=[(3,.sl o1 0 s.2.length),(6,.fsl (eL rBox p0)),(7,.int .i64 (ilen p0)),(8,.int .i64 s.1)]/\J=hp E0 [(o1,some ⟨103,2,eL zM s.2⟩)] M1) (fun s x a J=>x=.exit 0/\Rc G 23 N0 (fun a J=>∃M2 o2:Nat,N0<=M2/\N0<=o2/\o2<M2/\a=[(3,.sl o2 0 s.length)]/\J=hp E0 [(o2,some ⟨103,2,eL zM s⟩)] M2) (AAct.keep a [3]) J) hse1 ?_ ?_ ?_
 .refine kp [3,6,7,8] ?_
  refine gNilS zI 3 103 2 [(N0+5,some ⟨103,2,eL zM ([]:List gBox)⟩)] [(3,.sl (N0+5) 0 ([]:List gBox).length),(6,.fsl (eL rBox p0)),(7,.int .i64 (ilen p0)),(8,.int .i64 0)] (by simp(disch:=omega)) (by simp(disch:=omega) [eN]) [3,6,7,8] rfl ?_
  exact R2 (N0+6) (N0+5)
 .clear H hse1
  rintro⟨s1,s2⟩ fl a J H ⟨M1,o1,fM1_0,fM1_1,fM1_2,rfl,rfl⟩ K2 O2 hK2 hO2
  unfold nL at H;dsimp only at H
  refine qA [3,6,7,8,9] ?_
  refine Wsq [3,6,7,8] fun K3 hK3=>?_
  refine Ci H ?_ ?_<;>intro H
  .refine Js hK3 ?_
   refine Wsq [3,6,7,8] fun K4 hK4=>?_
   refine Wb ?_
   obtain⟨v4,hv4,H⟩:=bE H
   have e0:=nQ o1 (M1+3)
   refine qC [3,5,6,7,8] e0 (ix28 hv4) ?_
   obtain⟨r5,hr5,H⟩:=bE H
   obtain⟨l6,hl6,H⟩:=bE H
   have q0:∀(a0:Int) (a1:Nat) (a2:Nat) J i,bsA T 28 true i 1 [(0,.agg [.int .i64 a0,.sl a1 0 a2])] J=some (.fsl [[.int .i64 a0,.sl a1 0 a2]],J):=fun _ _ _ _ _=>rfl
   refine dX tok tokM [7] [2,4,5,8] [0,1,3,2,4,5,6,7,8,9] [(5,[2])] [3,6,7,8] (fun a J=>∃M3 o3:Nat,M1+15<=M3/\M1+15<=o3/\o3<M3/\a=[(3,.sl (M1+13) 0 l6.length),(6,.fsl (eL rBox p0)),(7,.int .i64 (ilen p0)),(8,.int .i64 s1)]/\J=hp E0 [(M1+3,some ⟨103,2,[[.int .i64 v4.Room,.fsl (eL rI v4.Items)]]⟩),(o3,some ⟨3,1,eL rI r5⟩),(M1+13,some ⟨103,2,eL zM s2++[[.int .i64 v4.Room,.sl o3 0 r5.length]]⟩)] M3) (by decide) (fun K hK=>?_) ?_
   .simp only[pickL,zO,zP]
    have e0:=nQ o1 (M1+3)
    have e1:=nQ o1 (M1+13)
    refine m1 (j e0 (j e1 (j q0 (apr28 zM hl6)))) ?_
    refine mo (c55_o (H:=hr5)) fun M3 o3 fM3_0 fM3_1 fM3_2=>?_
    have eM3_0:=nQ o3 o1
    have eM3_1:=nQ o3 (M1+3)
    have eM3_2:=nQ o3 (M1+13)
    refine m1 (j e0 (j e1 (j q0 (j (apr28 zM hl6) (j eM3_0 (j eM3_1 (j eM3_2 (j @hoS @hoN)))))))) ?_
    exact hK _ _ ⟨M3,o3,(by omega),(by omega),(by omega),rfl,rfl⟩
   rintro a J ⟨M3,o3,fM3_0,fM3_1,fM3_2,ha,rfl⟩
   refine hK4 _ _ ?_;rw[ha]
   refine Rc.mk ?_
   refine gP Wre (M1+13) s2.length 1 ?_ (hr:=by exact pG _ _ _)
   rw[show hp E0 [(M1+3,some ⟨103,2,[[.int .i64 v4.Room,.fsl (eL rI v4.Items)]]⟩),(M1+13,some ⟨103,2,eL zM s2++[[.int .i64 v4.Room,.osl 3 1 (eL rI r5)]]⟩)] M3=hp E0 [(M1+3,some ⟨103,2,[[.int .i64 v4.Room,.fsl (eL rI v4.Items)]]⟩),(M1+13,some ⟨103,2,eL zM l6⟩)] M3 from by rw[<- pH (f:=zM) (c:=[.int .i64 v4.Room,.osl 3 1 (eL rI r5)]) hl6 rfl]]
   obtain rfl:=oi H
   refine qI hK2 ?_
   exact Rc.fin (AHeap.Sub.trans (zH (AHeap.Sub.refl _)) (zU rfl (by simp;try omega))) ⟨M3+2,(M1+13),(by omega),(by omega),(by omega),rfl,rfl⟩
  cases oj H
  refine zL (hO2 _ _ _ _ rfl ⟨rfl,?_⟩)
  refine kr ?_
  exact R2 (M1+1) o1
 intro x a J hx
 obtain⟨y3,rfl⟩:∃x,x=e1:=⟨_,rfl⟩
 obtain⟨rfl,b,U,hr,M2,o2,fM2_0,fM2_1,fM2_2,rfl,rfl⟩:=hx
 (try dsimp only at H)
 show K1 _ _
 refine hK1 _ _ (zI hr ?_)
 refine Rc.mk ?_
 refine qA [2] ?_
 obtain rfl:=oi H
 refine Kp [2] ?_
 exact V2 j0 (M2+2) o2

theorem c56_i_CrewRun_1_c4_0_1 {p0:Int}{p1:Int}{p2:Int}{p3:Int}{p4_0:gCrew}{r:Int×Int×Bool×gCrew}(H:kL p0 p1 p2 p3 p4_0=some r){J:AHeap}{w4_0:Nat}{W4_0:List (List AV)}{r4_0_:Nat}{w4_0c1:Nat}(q4_0:J.objs w4_0=some ⟨30,6,W4_0⟩)(g4_0:W4_0[r4_0_]? =some [.fsl (eL zA p4_0.Codes),.sl w4_0c1 0 p4_0.Threads.length,.osl 103 2 (eL zM p4_0.Boxes),.int .i64 p4_0.Turn,.int .i64 p4_0.Idle,.osl 3 1 (eL rI p4_0.Out)])(q4_0c1:J.objs w4_0c1=some ⟨42,2,eL zB p4_0.Threads⟩)(d0_1:¬w4_0=w4_0c1):ACalls Tryz.prog G 56 [.int .i64 p0,.int .i64 p1,.int .i64 p2,.int .i64 p3,.clo 57 [] [.ptr w4_0 r4_0_ 0]] J (fun v J'=>∃M:Nat,J.next<=M/\v=.tup [.int .i64 r.1,.int .i64 r.2.1,.bool r.2.2.1]/\J'=hp J.objs [(w4_0,some ⟨30,6,W4_0.set r4_0_ [.fsl (eL zA r.2.2.2.Codes),.osl 42 2 (eL zB r.2.2.2.Threads),.osl 103 2 (eL zM r.2.2.2.Boxes),.int .i64 r.2.2.2.Turn,.int .i64 r.2.2.2.Idle,.osl 3 1 (eL rI r.2.2.2.Out)]⟩),(w4_0c1,none)] M):=by
 refine fr1 ([(w4_0,some ⟨30,6,W4_0⟩),(w4_0c1,some ⟨42,2,eL zB p4_0.Threads⟩)]) (by simp[q4_0,q4_0c1]) (fun hlt=>?_) ⟨_,func56,rfl,rfl⟩
 generalize J.next=N0 at hlt ⊢
 have lw4_0:w4_0<N0:=hlt _ (.head _) rfl
 have lw4_0c1:w4_0c1<N0:=hlt _ (.tail _ (.head _)) rfl
 have gs_W4_0:∀x,(W4_0.set r4_0_ x)[r4_0_]? =some x:=gsetW g4_0
 rw[<- kD g4_0]
 refine fnK tok func56 ntmps56 results56 ?_
 simp only[argsA,Nat.reduceAdd,hpN]
 unfold kL at H
 have e0:=nQ w4_0 w4_0c1
 refine qC [0,1,2,3,4] e0 gs_W4_0 ?_
 refine Wsq [2,3] fun K1 hK1=>?_
 refine Wb ?_
 obtain⟨e1,hse1,H⟩:=bE H
 refine zX [0,1,2,3,4] (fun s a J=>∃M1:Nat,N0<=M1/\a=[(0,.int .i64 s.1),(1,.int .i64 p1),(2,.int .i64 s.2.1),(3,.int .i64 s.2.2.1),(4,.clo 57 [] [.ptr w4_0 r4_0_ 0])]/\J=hp E0 [(w4_0,some ⟨30,6,W4_0.set r4_0_ [.fsl (eL zA s.2.2.2.Codes),.osl 42 2 (eL zB s.2.2.2.Threads),.osl 103 2 (eL zM s.2.2.2.Boxes),.int .i64 s.2.2.2.Turn,.int .i64 s.2.2.2.Idle,.osl 3 1 (eL rI s.2.2.2.Out)]⟩)] M1) (fun e x a J=>match e with|.inl s=>x=.exit 0/\Rc G 42 N0 (fun a J=>∃M2:Nat,N0<=M2/\a=[(2,.int .i64 s.1),(3,.int .i64 s.2.1)]/\J=hp E0 [(w4_0,some ⟨30,6,W4_0.set r4_0_ [.fsl (eL zA s.2.2.Codes),.osl 42 2 (eL zB s.2.2.Threads),.osl 103 2 (eL zM s.2.2.Boxes),.int .i64 s.2.2.Turn,.int .i64 s.2.2.Idle,.osl 3 1 (eL rI s.2.2.Out)]⟩)] M2) (AAct.keep a [2,3]) J|.inr s=>x=.ret/\∃vs,resA T J a [.tmp 10,.tmp 11,.tmp 12]=some vs/\∃M:Nat,N0<=M/\(tupA vs)=.tup [.int .i64 s.1,.int .i64 s.2.1,.bool s.2.2.1]/\J=hp E0 [(w4_0,some ⟨30,6,W4_0.set r4_0_ [.fsl (eL zA s.2.2.2.Codes),.osl 42 2 (eL zB s.2.2.2.Threads),.osl 103 2 (eL zM s.2.2.2.Boxes),.int .i64 s.2.2.2.Turn,.int .i64 s.2.2.2.Idle,.osl 3 1 (eL rI s.2.2.2.Out)]⟩),(w4_0c1,none)] M) hse1 ?_ ?_ ?_
 .refine kp [0,1,2,3,4] ?_
  refine gP zI w4_0 r4_0_ 1 ?_ (hr:=by exact gs_W4_0 _)
  exact R1 (N0+3)
 .clear H hse1
  rintro⟨s1,s2,s3,s4⟩ fl a J H ⟨M1,fM1_0,rfl,rfl⟩ K2 O2 hK2 hO2
  unfold kA at H;dsimp only at H
  refine Wsq [0,1,2,3,4] fun K3 hK3=>?_
  obtain⟨g8,hg8,H⟩:=bE H
  refine qF tok [0,1,2,3,4,22] ([(0,.int .i64 s1),(1,.int .i64 p1),(2,.int .i64 s2),(3,.int .i64 s3),(4,.clo 57 [] [.ptr w4_0 r4_0_ 0]),(22,.bool g8)]) (hp E0 [(w4_0,some ⟨30,6,W4_0.set r4_0_ [.fsl (eL zA s4.Codes),.osl 42 2 (eL zB s4.Threads),.osl 103 2 (eL zM s4.Boxes),.int .i64 s4.Turn,.int .i64 s4.Idle,.osl 3 1 (eL rI s4.Out)]⟩)] (M1+7)) (by
   intro K k
   refine m1 gs_W4_0 ?_
   cases hbg8:igt s1 0
   .cases oj (ifF hbg8 hg8)
    exact m2 gs_W4_0 hbg8 k
   cases oj (ifT hbg8 hg8)
   refine m2 gs_W4_0 hbg8 ?_
   exact k) ?_
  refine Ci H ?_ ?_<;>intro H
  .refine Js hK3 ?_
   refine Wsq [0,1,2,3,4] fun K4 hK4=>?_
   refine Wb ?_
   obtain⟨r9,hr9,H⟩:=bE H
   obtain⟨r10,hr10,H⟩:=bE H
   refine Sm tok [] [0,1,4,13,14,15] (M1+21) (by
    intro K k
    refine m1 gs_W4_0 ?_
    refine(c57 (Wf0:=W4_0.set r4_0_ [.fsl (eL zA s4.Codes),.osl 42 2 (eL zB s4.Threads),.osl 103 2 (eL zM s4.Boxes),.int .i64 s4.Turn,.int .i64 s4.Idle,.osl 3 1 (eL rI s4.Out)]) (rf0_:=r4_0_) (H:=hr9) (by simp[gs_W4_0]) (by simp[gs_W4_0])).mono ?_;rintro _ _ ⟨M3,fM3_0,rfl,rfl⟩;simp only[hpN] at fM3_0
    refine m1 (j gs_W4_0 (j @hoS @hoN)) ?_
    refine(c36 hr10).app (m1 (j gs_W4_0 (j @hoS @hoN)) ?_)
    exact k M3 (by omega)) fun M3 fM3_0=>?_
   refine Wsq [0,1,4,13,14] fun K5 hK5=>?_
   refine qB [0,1,4,13,14,37] gs_W4_0 ?_
   refine Ci H ?_ ?_<;>intro H
   .refine qB [10,11,12] gs_W4_0 ?_
    obtain rfl:=oi H
    refine Kp [10,11,12] ?_
    refine Wr (hO2 _ _ _ _ rfl ⟨rfl,?_⟩)
    refine⟨[.int .i64 0,.int .i64 0,.bool false],by simp[gs_W4_0],M3+5,by omega,?_,?_⟩
    .simp[eN]
    symm;first|exact gG (L:=[(w4_0,some ⟨30,6,W4_0.set r4_0_ [.fsl (eL zA r9.2.Codes),.osl 42 2 (eL zB r9.2.Threads),.osl 103 2 (eL zM r9.2.Boxes),.int .i64 r9.2.Turn,.int .i64 r9.2.Idle,.osl 3 1 (eL rI r9.2.Out)]⟩)])|(simp only[List.set_set];exact gG (L:=[(w4_0,some ⟨30,6,W4_0.set r4_0_ [.fsl (eL zA r9.2.Codes),.osl 42 2 (eL zB r9.2.Threads),.osl 103 2 (eL zM r9.2.Boxes),.int .i64 r9.2.Turn,.int .i64 r9.2.Idle,.osl 3 1 (eL rI r9.2.Out)]⟩)]))
   refine Js hK5 ?_
   refine qH gs_W4_0 hK4 ?_
   obtain rfl:=oi H
   refine qJ gs_W4_0 hK2 ?_
   exact R1 (M3+9)
  cases oj H
  refine zL (hO2 _ _ _ _ rfl ⟨rfl,?_⟩)
  refine kr ?_
  exact R1 (M1+7)
 intro x a J hx
 rcases e1 with⟨y5,y6,y7⟩|r0
 .obtain⟨rfl,b,U,hr,M2,fM2_0,rfl,rfl⟩:=hx
  (try dsimp only at H)
  show K1 _ _
  refine hK1 _ _ (zI hr ?_)
  refine Rc.mk ?_
  refine qB [10,11,12] gs_W4_0 ?_
  obtain rfl:=oi H
  refine Kp [10,11,12] ?_
  refine Wr ?_
  refine⟨[.int .i64 y5,.int .i64 y6,.bool true],by simp[gs_W4_0],M2+5,by omega,?_,?_⟩
  .simp[eN]
  symm;first|exact gG (L:=[(w4_0,some ⟨30,6,W4_0.set r4_0_ [.fsl (eL zA y7.Codes),.osl 42 2 (eL zB y7.Threads),.osl 103 2 (eL zM y7.Boxes),.int .i64 y7.Turn,.int .i64 y7.Idle,.osl 3 1 (eL rI y7.Out)]⟩)])|(simp only[List.set_set];exact gG (L:=[(w4_0,some ⟨30,6,W4_0.set r4_0_ [.fsl (eL zA y7.Codes),.osl 42 2 (eL zB y7.Threads),.osl 103 2 (eL zM y7.Boxes),.int .i64 y7.Turn,.int .i64 y7.Idle,.osl 3 1 (eL rI y7.Out)]⟩)]))
 obtain⟨rfl,hx2⟩:=hx
 (try dsimp only at H)
 cases oj H;first|exact hx2|(simp only[List.set_set] at hx2 ⊢;exact hx2)
end Go.Proofs.YtolmjhgondilhaaGreat
