/- The contracts of functions of the program (CT3): each computes what its mirror computes. No conditions. -/
import Derived.Test.YtolmjhgondilhaaGreatNCT2
set_option linter.unusedSimpArgs false
set_option linter.unusedVariables false
set_option maxRecDepth 20000
set_option maxHeartbeats 4000000
namespace Go.Proofs.YtolmjhgondilhaaGreat
open Go Go.Abs Go.RowKit

theorem c72 {p0:gQuad}{p1:Int}{r:Bool}(H:qZ p0 p1=some r):APure Tryz.prog G 72 [.agg [.int .i64 p0.Op,.int .i64 p0.Dst,.int .i64 p0.A,.int .i64 p0.B,.int .i64 p0.N],.int .i64 p1] (.bool r):=by
 refine zE (fun N0=>?_) (by simp)
 refine fnK tok Tryz.func72 Tryz.ntmps72 Tryz.results72 ?_
 simp only[argsA,Nat.reduceAdd,hpN]
 unfold qZ at H
 refine S0 tok [0] [1,2] ?_
 obtain⟨g1,hg1,H⟩:=bE H
 obtain⟨g2,hg2,H⟩:=bE H
 refine Sx tok [] [4] (X:=[(4,.bool g2)]) (Y:=hp E0 [] (N0+17)) (by
  intro K k
  simp -dsimp -implicitDefEqProofs
  cases hbg1:ine p0.Op 6
  ·obtain rfl:=oi (ifF hbg1 hg1)
   obtain rfl:=oi (ifF rfl hg2)
   try simp -dsimp -implicitDefEqProofs [hbg1]
   exact k
  obtain rfl:=oi (ifT hbg1 hg1)
  try simp -dsimp -implicitDefEqProofs [hbg1]
  cases hbg2:(ine p0.Op 7)
  ·obtain rfl:=oi (ifF hbg2 hg2)
   try simp -dsimp -implicitDefEqProofs [hbg1,hbg2]
   exact k
  obtain rfl:=oi (ifT hbg2 hg2)
  try simp -dsimp -implicitDefEqProofs [hbg1,hbg2]
  exact k) ?_
 obtain rfl:=oi H;exact Wr ⟨_,rfl,4,by simp[eN]⟩

theorem c32 {p0:gCrew}{r:Bool}(H:vB p0=some r):APure Tryz.prog G 32 [.agg [.fsl (eL zA p0.Codes),.fsl (eL zF p0.Threads),.fsl (eL rBox p0.Boxes),.int .i64 p0.Turn,.int .i64 p0.Idle,.fsl (eL rI p0.Out)]] (.bool r):=by
 refine zE (fun N0=>?_) (by simp)
 refine fnK tok Tryz.func32 Tryz.ntmps32 Tryz.results32 ?_
 simp only[argsA,Nat.reduceAdd,hpN]
 unfold vB at H
 refine S0 tok [0] [1] ?_
 refine Wsq [1] fun K1 hK1=>?_
 obtain⟨r1,hr1,H⟩:=bE H
 obtain⟨g2,hg2,H⟩:=bE H
 obtain⟨g4,hg4,H⟩:=bE H
 refine Sx tok [] [1,32] (X:=[(1,.fptr [.fsl (eL zA p0.Codes),.fsl (eL zF p0.Threads),.fsl (eL rBox p0.Boxes),.int .i64 p0.Turn,.int .i64 p0.Idle,.fsl (eL rI p0.Out)] 0),(32,.bool g4)]) (Y:=hp E0 [] (N0+28)) (by
  intro K k
  simp -dsimp -implicitDefEqProofs
  refine(c69 hr1).app ?_;try simp -dsimp -implicitDefEqProofs
  cases hbg2:bnot r1
  ·obtain rfl:=oi (ifF hbg2 hg2)
   try simp -dsimp -implicitDefEqProofs [hbg2]
   cases hbg4:(ine (ilen p0.Threads) (ilen p0.Codes))
   ·replace hg4:=ifF hbg4 hg4
    obtain⟨r3,hr3,hg4⟩:=bE hg4
    obtain rfl:=oi hg4
    try simp -dsimp -implicitDefEqProofs [hbg2,hbg4]
    refine(c70 hr3).app ?_;try simp -dsimp -implicitDefEqProofs [hbg2,hbg4]
    exact k
   obtain rfl:=oi (ifT hbg4 hg4)
   try simp -dsimp -implicitDefEqProofs [hbg2,hbg4]
   exact k
  obtain rfl:=oi (ifT hbg2 hg2)
  obtain rfl:=oi (ifT rfl hg4)
  try simp -dsimp -implicitDefEqProofs [hbg2]
  exact k) ?_
 refine Ci H (fun H=>?_) fun H=>?_
 ·refine S0 tok [] [2] ?_
  obtain rfl:=oi H;exact Wr ⟨_,rfl,4,by simp[eN]⟩
 refine Wsk (Jn hK1 ?_)
 refine Wsq [] fun K2 hK2=>?_
 refine S0 tok [] [1,34,35,36] ?_
 refine Wbl (Wth ?_)
 obtain⟨e2,hse2,H⟩:=bE H
 refine zS [1,34,35,36] (fun s a σ=>∃M1:Nat,N0≤M1∧a=[(1,.fptr [.fsl (eL zA p0.Codes),.fsl (eL zF p0.Threads),.fsl (eL rBox p0.Boxes),.int .i64 p0.Turn,.int .i64 p0.Idle,.fsl (eL rI p0.Out)] 0),(34,.fsl (eL zA p0.Codes)),(35,.int .i64 (ilen p0.Codes)),(36,.int .i64 s)]∧σ=hp E0 [] M1) (fun e x a σ=>match e with|.inl s=>x=.exit 0∧Rc G 63 N0 (fun a σ=>∃M2:Nat,N0≤M2∧a=[]∧σ=hp E0 [] M2) (AAct.keep a []) σ|.inr s=>x=.ret∧∃vs,resA T σ a [.tmp 2]=some vs∧∃d,thawA (fun _=>true) σ d (tupA vs)=.bool s) hse2 ?_ ?_ ?_
 ·refine Rc.kp [1,34,35,36] [(1,.fptr [.fsl (eL zA p0.Codes),.fsl (eL zF p0.Threads),.fsl (eL rBox p0.Boxes),.int .i64 p0.Turn,.int .i64 p0.Idle,.fsl (eL rI p0.Out)] 0),(34,.fsl (eL zA p0.Codes)),(35,.int .i64 (ilen p0.Codes)),(36,.int .i64 0)] rfl ?_
  exact Rf ⟨N0+32,(by omega),rfl,rfl⟩
 ·clear H hse2
  rintro s5 fl a σ H ⟨M1,fM1_0,rfl,rfl⟩ K3 O3 hK3 hO3
  unfold jU at H;dsimp only at H
  refine S0 tok [] [1,34,35,36,37] ?_
  refine Wsq [1,34,35,36] fun K4 hK4=>?_
  refine Ci H (fun H=>?_) fun H=>?_
  ·refine Wsk (Jn hK4 ?_)
   refine Wsq [1,34,35,36] fun K5 hK5=>?_
   refine Wbl (Wth ?_)
   obtain⟨v6,hv6,H⟩:=bE H
   refine Sx tok [] [1,3,4,34,35,36] (by intro K k;simp -dsimp -implicitDefEqProofs [ix24 hv6];exact k) ?_
   refine Wsq [1,4,34,35,36] fun K6 hK6=>?_
   obtain⟨v7,hv7,H⟩:=bE H
   obtain⟨r8,hr8,H⟩:=bE H
   refine Sx tok [] [1,4,34,35,36,48] (by intro K k;(repeat first|simp -dsimp -implicitDefEqProofs [ix27 hv7]|refine(c71 hr8).app ?_);exact k) ?_
   refine Ci H (fun H=>?_) fun H=>?_
   ·refine S0 tok [] [2] ?_
    obtain rfl:=oi H
    refine Kp [2] ?_
    refine Wr (hO3 _ _ _ _ rfl ⟨rfl,?_⟩)
    exact⟨[.bool false],by simp,4,by simp[eN]⟩
   refine Wsk (Jn hK6 ?_)
   refine S0 tok [] [1,34,35,36,49,50,51] ?_
   refine Wbl (Wth ?_)
   obtain⟨e1,hse1,H⟩:=bE H
   refine zS [1,34,35,36,49,50,51] (fun s a σ=>∃M3:Nat,N0≤M3∧a=[(1,.fptr [.fsl (eL zA p0.Codes),.fsl (eL zF p0.Threads),.fsl (eL rBox p0.Boxes),.int .i64 p0.Turn,.int .i64 p0.Idle,.fsl (eL rI p0.Out)] 0),(34,.fsl (eL zA p0.Codes)),(35,.int .i64 (ilen p0.Codes)),(36,.int .i64 s5),(49,.fsl (eL rQuad v6)),(50,.int .i64 (ilen v6)),(51,.int .i64 s)]∧σ=hp E0 [] M3) (fun e x a σ=>match e with|.inl s=>x=.exit 2∧Rc G 63 N0 (fun a σ=>∃M4:Nat,N0≤M4∧a=[(1,.fptr [.fsl (eL zA p0.Codes),.fsl (eL zF p0.Threads),.fsl (eL rBox p0.Boxes),.int .i64 p0.Turn,.int .i64 p0.Idle,.fsl (eL rI p0.Out)] 0),(34,.fsl (eL zA p0.Codes)),(35,.int .i64 (ilen p0.Codes)),(36,.int .i64 s5)]∧σ=hp E0 [] M4) (AAct.keep a [1,34,35,36]) σ|.inr s=>x=.ret∧∃vs,resA T σ a [.tmp 2]=some vs∧∃d,thawA (fun _=>true) σ d (tupA vs)=.bool s) hse1 ?_ ?_ ?_
   ·refine Rc.kp [1,34,35,36,49,50,51] [(1,.fptr [.fsl (eL zA p0.Codes),.fsl (eL zF p0.Threads),.fsl (eL rBox p0.Boxes),.int .i64 p0.Turn,.int .i64 p0.Idle,.fsl (eL rI p0.Out)] 0),(34,.fsl (eL zA p0.Codes)),(35,.int .i64 (ilen p0.Codes)),(36,.int .i64 s5),(49,.fsl (eL rQuad v6)),(50,.int .i64 (ilen v6)),(51,.int .i64 0)] rfl ?_
    exact Rf ⟨M1+17,(by omega),rfl,rfl⟩
   ·clear H hse1
    rintro s9 fl a σ H ⟨M3,fM3_0,rfl,rfl⟩ K7 O7 hK7 hO7
    unfold yV at H;dsimp only at H
    refine S0 tok [] [1,34,35,36,49,50,51,52] ?_
    refine Wsq [1,34,35,36,49,50,51] fun K8 hK8=>?_
    refine Ci H (fun H=>?_) fun H=>?_
    ·refine Wsk (Jn hK8 ?_)
     refine Wsq [1,34,35,36,49,50,51] fun K9 hK9=>?_
     refine Wbl (Wth ?_)
     obtain⟨v10,hv10,H⟩:=bE H
     refine Sx tok [] [1,6,34,35,36,49,50,51] (by intro K k;simp -dsimp -implicitDefEqProofs [ix34 hv10];exact k) ?_
     obtain⟨r11,hr11,H⟩:=bE H
     refine Sx tok [] [1,34,35,36,49,50,51,60] (by intro K k;(repeat first|simp -dsimp -implicitDefEqProofs|refine(c72 hr11).app ?_);exact k) ?_
     refine Ci H (fun H=>?_) fun H=>?_
     ·refine S0 tok [] [2] ?_
      obtain rfl:=oi H
      refine Kp [2] ?_
      refine Wr (hO7 _ _ _ _ rfl ⟨rfl,?_⟩)
      exact⟨[.bool false],by simp,4,by simp[eN]⟩
     refine Wsk (Jn hK9 ?_)
     refine Rt0 tok [] [1,34,35,36,49,50,51] fun a ha=>?_
     obtain rfl:=oi H
     refine hK7 _ _ _ rfl ?_;rw[ha]
     exact Rc.fin (AHeap.Sub.trans (AHeap.Sub.refl _) (zY rfl (by simp;try omega))) ⟨M3+13,(by omega),rfl,rfl⟩
    obtain rfl:=oi H
    refine zJ (hO7 _ _ _ _ rfl ⟨rfl,?_⟩)
    refine Rc.rw (l:=[1,34,35,36]) (X:=[(1,.fptr [.fsl (eL zA p0.Codes),.fsl (eL zF p0.Threads),.fsl (eL rBox p0.Boxes),.int .i64 p0.Turn,.int .i64 p0.Idle,.fsl (eL rI p0.Out)] 0),(34,.fsl (eL zA p0.Codes)),(35,.int .i64 (ilen p0.Codes)),(36,.int .i64 s5)]) rfl ?_
    exact Rf ⟨M3+1,(by omega),rfl,rfl⟩
   intro x a σ hx
   rcases e1 with⟨⟩|r0
   ·obtain⟨rfl,b,τ,hr,M4,fM4_0,rfl,rfl⟩:=hx
    (try dsimp only at H)
    show K5 _ _
    refine hK5 _ _ (zK hr ?_)
    refine Rc.mk ?_
    refine Rt0 tok [] [1,34,35,36] fun a ha=>?_
    obtain rfl:=oi H
    refine hK3 _ _ _ rfl ?_;rw[ha]
    exact Rf ⟨M4+2,(by omega),rfl,rfl⟩
   obtain⟨rfl,hx2⟩:=hx
   (try dsimp only at H)
   obtain rfl:=oi H
   exact hO3 _ _ _ _ rfl ⟨rfl,hx2⟩
  obtain rfl:=oi H
  refine zJ (hO3 _ _ _ _ rfl ⟨rfl,?_⟩)
  refine Rc.rw (l:=[]) (X:=[]) rfl ?_
  exact Rf ⟨M1+1,(by omega),rfl,rfl⟩
 intro x a σ hx
 rcases e2 with⟨⟩|r0
 ·obtain⟨rfl,b,τ,hr,M2,fM2_0,rfl,rfl⟩:=hx
  (try dsimp only at H)
  show K2 _ _
  refine hK2 _ _ (zK hr ?_)
  refine Rc.mk ?_
  refine S0 tok [] [2] ?_
  obtain rfl:=oi H;exact Wr ⟨_,rfl,4,by simp[eN]⟩
 obtain⟨rfl,hx2⟩:=hx
 (try dsimp only at H)
 obtain rfl:=oi H;first|exact hx2|(simp only[List.set_set] at hx2 ⊢;exact hx2)

theorem c13 {p0:List Int}{p1:(List (List gQuad))}{r:gCrew×Bool}(H:tY p0 p1=some r):APure Tryz.prog G 13 [.fsl (eL rI p0),.fsl (eL zA p1)] (.tup [.agg [.fsl (eL zA r.1.Codes),.fsl (eL zF r.1.Threads),.fsl (eL rBox r.1.Boxes),.int .i64 r.1.Turn,.int .i64 r.1.Idle,.fsl (eL rI r.1.Out)],.bool r.2]):=by
 refine zE (fun N0=>?_) (by simp)
 refine fnK tok Tryz.func13 Tryz.ntmps13 Tryz.results13 ?_
 simp only[argsA,Nat.reduceAdd,hpN]
 unfold tY at H
 refine S0 tok [] [0,1,4] ?_
 refine gW Wre N0 0 0 ?_
 refine gW Wre N0 0 1 ?_
 refine gW Wre N0 0 2 ?_
 refine gW Wre N0 0 5 ?_
 obtain⟨r1,hr1,H⟩:=bE H
 obtain⟨r2,hr2,H⟩:=bE H
 refine Sx tok [4] [0,1,4,6] (by intro K k;(repeat first|simp -dsimp -implicitDefEqProofs|refine(c43 hr1).app ?_|refine(c44 hr2).app ?_);exact k) ?_
 refine Wsq [0,4,6] fun K1 hK1=>?_
 refine S0 tok [] [0,4,6,13,14] ?_
 refine Wbl (Wth ?_)
 obtain⟨e1,hse1,H⟩:=bE H
 refine zS [0,4,6,13,14] (fun s a σ=>∃M1 o1 o2:Nat,N0≤M1∧N0≤o1∧o1<M1∧N0≤o2∧o2<M1∧¬o1=o2∧a=[(0,.fsl (eL rI p0)),(4,.ptr o1 0 0),(6,.ptr o2 0 0),(13,.int .i64 (ilen p1)),(14,.int .i64 s.1)]∧σ=hp E0 [(o1,some ⟨30,6,[[.fsl (eL zA s.2.1.Codes),.fsl (eL zF s.2.1.Threads),.fsl (eL rBox s.2.1.Boxes),.int .i64 s.2.1.Turn,.int .i64 s.2.1.Idle,.fsl (eL rI s.2.1.Out)]]⟩),(o2,some ⟨30,6,[[.fsl (eL zA s.2.2.Codes),.osl 42 2 (eL zF s.2.2.Threads),.fsl (eL rBox s.2.2.Boxes),.int .i64 s.2.2.Turn,.int .i64 s.2.2.Idle,.fsl (eL rI s.2.2.Out)]]⟩)] M1) (fun s x a σ=>x=.exit 0∧Rc G 34 N0 (fun a σ=>∃M2 o3 o4:Nat,N0≤M2∧N0≤o3∧o3<M2∧N0≤o4∧o4<M2∧¬o3=o4∧a=[(0,.fsl (eL rI p0)),(4,.ptr o3 0 0),(6,.ptr o4 0 0)]∧σ=hp E0 [(o3,some ⟨30,6,[[.fsl (eL zA s.1.Codes),.fsl (eL zF s.1.Threads),.fsl (eL rBox s.1.Boxes),.int .i64 s.1.Turn,.int .i64 s.1.Idle,.fsl (eL rI s.1.Out)]]⟩),(o4,some ⟨30,6,[[.fsl (eL zA s.2.Codes),.osl 42 2 (eL zF s.2.Threads),.fsl (eL rBox s.2.Boxes),.int .i64 s.2.Turn,.int .i64 s.2.Idle,.fsl (eL rI s.2.Out)]]⟩)] M2) (AAct.keep a [0,4,6]) σ) hse1 ?_ ?_ ?_
 ·refine Rc.kp [0,4,6,13,14] [(0,.fsl (eL rI p0)),(4,.ptr N0 0 0),(6,.ptr (N0+7) 0 0),(13,.int .i64 (ilen p1)),(14,.int .i64 0)] rfl ?_
  refine gP0 zK (N0+7) 0 1 42 2 (eL zF ([]:List gThread)) ?_
  refine gW zK (N0+7) 0 5 ?_
  exact Rf ⟨N0+12,N0,(N0+7),(by omega),(by omega),(by omega),(by omega),(by omega),(by omega),rfl,rfl⟩
 ·clear H hse1
  rintro⟨s3,s4,s5⟩ fl a σ H ⟨M1,o1,o2,fM1_0,fM1_1,fM1_2,fM1_3,fM1_4,fM1_5,rfl,rfl⟩ K2 O2 hK2 hO2
  unfold uI at H;dsimp only at H
  refine Sx tok [] [0,4,6,13,14,15] (by
   intro K k
   have e0:=nQ o1 o2
   simp -dsimp -implicitDefEqProofs [e0]
   exact k) ?_
  refine Wsq [0,4,6,13,14] fun K3 hK3=>?_
  refine Ci H (fun H=>?_) fun H=>?_
  ·refine Wsk (Jn hK3 ?_)
   refine Wsq [0,4,6,13,14] fun K4 hK4=>?_
   refine Wbl (Wth ?_)
   refine gU Wre o2 0 1 ?_
   obtain⟨l8,hl8,H⟩:=bE H
   obtain⟨l9,hl9,H⟩:=bE H
   have q0:∀σ i,bsA T 27 true i 1 [(0,.agg [.fsl (eL rI l8),.int .i64 0])] σ=some (.fsl (eL zF ([(⟨l8,0⟩:gThread)]:List gThread)),σ):=fun _ _=>rfl
   refine mQ tok tokM [2,4] [1,5,7] [0,2,3,4,1,5,6,7] [0,4,6,13,14] (fun a σ=>a=[(0,.fsl (eL rI p0)),(4,.ptr o1 0 0),(6,.ptr o2 0 0),(13,.int .i64 (ilen p1)),(14,.int .i64 s3)]∧σ=hp E0 [(o1,some ⟨30,6,[[.fsl (eL zA s4.Codes),.fsl (eL zF s4.Threads),.fsl (eL rBox s4.Boxes),.int .i64 s4.Turn,.int .i64 s4.Idle,.fsl (eL rI s4.Out)]]⟩),(o2,some ⟨30,6,[[.fsl (eL zA s5.Codes),.sl (M1+7) 0 l9.length,.fsl (eL rBox s5.Boxes),.int .i64 s5.Turn,.int .i64 s5.Idle,.fsl (eL rI s5.Out)]]⟩),(M1+7,some ⟨42,2,eL zF l9⟩)] (M1+10)) (by decide) (fun K hK=>?_) ?_
   ·simp only[pickL,zO,zQ]
    have e0:=nQ o1 o2
    have e1:=nQ o1 (M1+1)
    have e2:=nQ o1 (M1+7)
    have e3:=nQ o2 (M1+1)
    have e4:=nQ o2 (M1+7)
    simp -dsimp -implicitDefEqProofs [e0,e1,e2,e3,e4,makf23 hl8,q0,app27 hl9]
    exact hK _ _ ⟨rfl,rfl⟩
   rintro a σ ⟨ha,rfl⟩
   refine hK4 _ _ ?_;rw[ha]
   refine Rc.mk ?_
   refine Rt tok [] [0,4,6,13,14] (by
    intro K k
    have e0:=nQ o1 o2
    have e1:=nQ o1 (M1+7)
    have e2:=nQ o2 (M1+7)
    simp -dsimp -implicitDefEqProofs [e0,e1,e2]
    exact k) fun a ha=>?_
   obtain rfl:=oi H
   refine hK2 _ _ _ rfl ?_;rw[ha]
   refine gP zK o2 0 1 ?_
   exact Rf ⟨M1+12,o1,o2,(by omega),(by omega),(by omega),(by omega),(by omega),(by omega),rfl,rfl⟩
  obtain rfl:=oi H
  refine zJ (hO2 _ _ _ _ rfl ⟨rfl,?_⟩)
  refine Rc.rw (l:=[0,4,6]) (X:=[(0,.fsl (eL rI p0)),(4,.ptr o1 0 0),(6,.ptr o2 0 0)]) rfl ?_
  exact Rf ⟨M1+1,o1,o2,(by omega),(by omega),(by omega),(by omega),(by omega),(by omega),rfl,rfl⟩
 intro x a σ hx
 obtain⟨y6,y7⟩:=e1
 obtain⟨rfl,b,τ,hr,M2,o3,o4,fM2_0,fM2_1,fM2_2,fM2_3,fM2_4,fM2_5,rfl,rfl⟩:=hx
 (try dsimp only at H)
 show K1 _ _
 refine hK1 _ _ (zK hr ?_)
 refine Rc.mk ?_
 refine Wsq [4,6] fun K5 hK5=>?_
 refine gU Wre o4 0 1 ?_
 obtain⟨r11,hr11,H⟩:=bE H
 obtain⟨g13,hg13,H⟩:=bE H
 refine jV tok [] [4,6,31] (fun a σ=>a=[(4,.ptr o3 0 0),(6,.ptr o4 0 0),(31,.bool g13)]∧σ=hp E0 [(o3,some ⟨30,6,[[.fsl (eL zA y6.Codes),.fsl (eL zF y6.Threads),.fsl (eL rBox y6.Boxes),.int .i64 y6.Turn,.int .i64 y6.Idle,.fsl (eL rI y6.Out)]]⟩),(o4,some ⟨30,6,[[.fsl (eL zA y7.Codes),.sl M2 0 y7.Threads.length,.fsl (eL rBox y7.Boxes),.int .i64 y7.Turn,.int .i64 y7.Idle,.fsl (eL rI y7.Out)]]⟩),(M2,some ⟨42,2,eL zF y7.Threads⟩)] (M2+9)) (fun K hK=>?_) ?_
 ·skip
  have e0:=nQ o3 o4
  have e1:=nQ o3 M2
  have e2:=nQ o4 M2
  simp -dsimp -implicitDefEqProofs [e0,e1,e2]
  refine(c45 hr11).app ?_;try simp -dsimp -implicitDefEqProofs [e0,e1,e2]
  cases hbg13:bnot r11
  ·replace hg13:=ifF hbg13 hg13
   obtain⟨r12,hr12,hg13⟩:=bE hg13
   obtain rfl:=oi hg13
   try simp -dsimp -implicitDefEqProofs [e0,e1,e2,hbg13]
   refine(borrow 8 (c32 hr12) (by simp[e0,e1,e2,hbg13]) rfl).mono ?_;rintro _ _ ⟨rfl,rfl⟩;try simp -dsimp -implicitDefEqProofs [e0,e1,e2,hbg13]
   exact hK _ _ ⟨rfl,rfl⟩
  obtain rfl:=oi (ifT hbg13 hg13)
  try simp -dsimp -implicitDefEqProofs [e0,e1,e2,hbg13]
  exact hK _ _ ⟨rfl,rfl⟩
 rintro a σ ⟨rfl,rfl⟩
 refine Ci H (fun H=>?_) fun H=>?_
 ·refine Sx tok [] [4,5] (by
   intro K k
   have e0:=nQ o3 o4
   have e1:=nQ o3 M2
   have e2:=nQ o4 M2
   simp -dsimp -implicitDefEqProofs [e0,e1,e2]
   exact k) ?_
  obtain rfl:=oi H
  refine Kp [4,5] ?_
  have z0:=nQ o3 o4
  have z1:=nQ o3 M2
  have z2:=nQ o4 M2
  refine Wr ?_
  exact⟨[.agg [.fsl [],.fsl [],.fsl [],.int .i64 0,.int .i64 0,.fsl []],.bool false],by simp[z0,z1,z2],4,by simp[eN,z0,z1,z2]⟩
 refine Wsk (Jn hK5 ?_)
 refine Sx tok [] [4,5] (by
  intro K k
  have e0:=nQ o3 o4
  have e1:=nQ o3 M2
  have e2:=nQ o4 M2
  simp -dsimp -implicitDefEqProofs [e0,e1,e2]
  exact k) ?_
 obtain rfl:=oi H
 refine Kp [4,5] ?_
 have z3:=nQ o3 o4
 have z4:=nQ o3 M2
 have z5:=nQ o4 M2
 refine Wr ?_
 exact⟨[.agg [.fsl (eL zA y7.Codes),.sl M2 0 y7.Threads.length,.fsl (eL rBox y7.Boxes),.int .i64 y7.Turn,.int .i64 y7.Idle,.fsl (eL rI y7.Out)],.bool true],by simp[z3,z4,z5],4,by simp[eN,z3,z4,z5]⟩

theorem c46 {p0:List Int}{r:Bool}(H:qK p0=some r):APure Tryz.prog G 46 [.fsl (eL rI p0)] (.bool r):=by
 refine zE (fun N0=>?_) (by simp)
 refine fnK tok Tryz.func46 Tryz.ntmps46 Tryz.results46 ?_
 simp only[argsA,Nat.reduceAdd,hpN]
 unfold qK at H
 refine S0 tok [] [0] ?_
 refine Wsq [0] fun K1 hK1=>?_
 refine S0 tok [] [0,3] ?_
 refine Wbl (Wth ?_)
 obtain⟨e1,hse1,H⟩:=bE H
 refine zS [0,3] (fun s a σ=>∃M1:Nat,N0≤M1∧a=[(0,.fsl (eL rI p0)),(3,.int .i64 s)]∧σ=hp E0 [] M1) (fun e x a σ=>match e with|.inl s=>x=.exit 0∧Rc G 19 N0 (fun a σ=>∃M2:Nat,N0≤M2∧a=[(0,.fsl (eL rI p0))]∧σ=hp E0 [] M2) (AAct.keep a [0]) σ|.inr s=>x=.ret∧∃vs,resA T σ a [.tmp 2]=some vs∧∃d,thawA (fun _=>true) σ d (tupA vs)=.bool s) hse1 ?_ ?_ ?_
 ·refine Rc.kp [0,3] [(0,.fsl (eL rI p0)),(3,.int .i64 0)] rfl ?_
  exact Rf ⟨N0+2,(by omega),rfl,rfl⟩
 ·clear H hse1
  rintro s1 fl a σ H ⟨M1,fM1_0,rfl,rfl⟩ K2 O2 hK2 hO2
  unfold xS at H;dsimp only at H
  refine Wsq [0,3] fun K3 hK3=>?_
  refine S0 tok [] [0,3,7] ?_
  refine Ci H (fun H=>?_) fun H=>?_
  ·refine Wsk (Jn hK3 ?_)
   refine Wsq [0,3] fun K4 hK4=>?_
   refine Wbl (Wth ?_)
   obtain⟨v2,hv2,H⟩:=bE H
   obtain⟨r3,hr3,H⟩:=bE H
   refine Sx tok [] [0,3,15] (by intro K k;(repeat first|simp -dsimp -implicitDefEqProofs [ix23 hv2]|refine(c66 hr3).app ?_);exact k) ?_
   refine Ci H (fun H=>?_) fun H=>?_
   ·refine S0 tok [] [2] ?_
    obtain rfl:=oi H
    refine Kp [2] ?_
    refine Wr (hO2 _ _ _ _ rfl ⟨rfl,?_⟩)
    exact⟨[.bool false],by simp,4,by simp[eN]⟩
   refine Wsk (Jn hK4 ?_)
   refine Rt0 tok [] [0,3] fun a ha=>?_
   obtain rfl:=oi H
   refine hK2 _ _ _ rfl ?_;rw[ha]
   exact Rf ⟨M1+13,(by omega),rfl,rfl⟩
  obtain rfl:=oi H
  refine zJ (hO2 _ _ _ _ rfl ⟨rfl,?_⟩)
  refine Rc.rw (l:=[0]) (X:=[(0,.fsl (eL rI p0))]) rfl ?_
  exact Rf ⟨M1+4,(by omega),rfl,rfl⟩
 intro x a σ hx
 rcases e1 with⟨⟩|r0
 ·obtain⟨rfl,b,τ,hr,M2,fM2_0,rfl,rfl⟩:=hx
  (try dsimp only at H)
  show K1 _ _
  refine hK1 _ _ (zK hr ?_)
  refine Rc.mk ?_
  refine S0 tok [] [2] ?_
  obtain rfl:=oi H;exact Wr ⟨_,rfl,4,by simp[eN]⟩
 obtain⟨rfl,hx2⟩:=hx
 (try dsimp only at H)
 obtain rfl:=oi H;first|exact hx2|(simp only[List.set_set] at hx2 ⊢;exact hx2)

theorem c47 {p0:(List (List gQuad))}{r:(List (List gQuad))}(H:qH p0=some r):APure Tryz.prog G 47 [.fsl (eL zA p0)] (.fsl (eL zA r)):=by
 refine zE (fun N0=>?_) (by simp)
 refine fnK tok Tryz.func47 Tryz.ntmps47 Tryz.results47 ?_
 simp only[argsA,Nat.reduceAdd,hpN]
 unfold qH at H
 refine S0 tok [] [0] ?_
 have q0:∀σ i,bsA T 24 true i 0 [] σ=some (.esl,σ):=fun _ _=>rfl
 refine Sx tok [0] [0,3] (by intro K k;simp -dsimp -implicitDefEqProofs [q0];exact k) ?_
 refine Wsq [3] fun K1 hK1=>?_
 refine S0 tok [] [0,3,4] ?_
 refine Wbl (Wth ?_)
 obtain⟨e1,hse1,H⟩:=bE H
 refine zS [0,3,4] (fun s a σ=>∃M1 o1:Nat,N0≤M1∧N0≤o1∧o1<M1∧a=[(0,.fsl (eL zA p0)),(3,.sl o1 0 s.2.length),(4,.int .i64 s.1)]∧σ=hp E0 [(o1,some ⟨34,1,eL zA s.2⟩)] M1) (fun s x a σ=>x=.exit 0∧Rc G 22 N0 (fun a σ=>∃M2 o2:Nat,N0≤M2∧N0≤o2∧o2<M2∧a=[(3,.sl o2 0 s.length)]∧σ=hp E0 [(o2,some ⟨34,1,eL zA s⟩)] M2) (AAct.keep a [3]) σ) hse1 ?_ ?_ ?_
 ·refine Rc.kp [0,3,4] [(0,.fsl (eL zA p0)),(3,.esl),(4,.int .i64 0)] rfl ?_
  refine gNilS zK 3 34 1 [(N0+4,some ⟨34,1,eL zA ([]:List (List gQuad))⟩)] [(0,.fsl (eL zA p0)),(3,.sl (N0+4) 0 ([]:List (List gQuad)).length),(4,.int .i64 0)] (by simp(disch:=omega)) (by simp(disch:=omega) [eN]) [0,3,4] rfl ?_
  exact Rf ⟨N0+5,(N0+4),(by omega),(by omega),(by omega),rfl,rfl⟩
 ·clear H hse1
  rintro⟨s1,s2⟩ fl a σ H ⟨M1,o1,fM1_0,fM1_1,fM1_2,rfl,rfl⟩ K2 O2 hK2 hO2
  unfold xO at H;dsimp only at H
  refine Wsq [0,3,4] fun K3 hK3=>?_
  refine S0 tok [] [0,3,4,9] ?_
  refine Ci H (fun H=>?_) fun H=>?_
  ·refine Wsk (Jn hK3 ?_)
   refine Wsq [0,3,4] fun K4 hK4=>?_
   refine Wbl (Wth ?_)
   obtain⟨v4,hv4,H⟩:=bE H
   obtain⟨l5,hl5,H⟩:=bE H
   obtain⟨l6,hl6,H⟩:=bE H
   have q1:∀σ i,bsA T 34 true i 0 [] σ=some (.esl,σ):=fun _ _=>rfl
   have q2:∀σ i,bsA T 24 true i 1 [(0,.fsl (eL rQuad l5))] σ=some (.fsl (eL zA ([l5]:List (List gQuad))),σ):=fun _ _=>rfl
   refine Rt tok [1,6,7] [0,3,4] (by
    intro K k
    have e0:=nQ o1 (M1+12)
    simp -dsimp -implicitDefEqProofs [e0,q1,ix24 hv4,appf34 hl5,q2,app24 hl6]
    exact k) fun a ha=>?_
   refine hK4 _ _ ?_;rw[ha]
   refine Rc.mk ?_
   refine Rt0 tok [] [0,3,4] fun a ha=>?_
   obtain rfl:=oi H
   refine hK2 _ _ _ rfl ?_;rw[ha]
   exact Rf ⟨M1+17,(M1+12),(by omega),(by omega),(by omega),rfl,rfl⟩
  obtain rfl:=oi H
  refine zJ (hO2 _ _ _ _ rfl ⟨rfl,?_⟩)
  refine Rc.rw (l:=[3]) (X:=[(3,.sl o1 0 s2.length)]) rfl ?_
  exact Rf ⟨M1+4,o1,(by omega),(by omega),(by omega),rfl,rfl⟩
 intro x a σ hx
 obtain⟨y3,rfl⟩:∃x,x=e1:=⟨_,rfl⟩
 obtain⟨rfl,b,τ,hr,M2,o2,fM2_0,fM2_1,fM2_2,rfl,rfl⟩:=hx
 (try dsimp only at H)
 show K1 _ _
 refine hK1 _ _ (zK hr ?_)
 refine Rc.mk ?_
 refine S0 tok [] [2] ?_
 obtain rfl:=oi H;exact Wr ⟨_,rfl,4,by simp[eN]⟩

theorem c48 {p0:List Int}{r:List gBox}(H:qI p0=some r):APure Tryz.prog G 48 [.fsl (eL rI p0)] (.fsl (eL rBox r)):=by
 refine zE (fun N0=>?_) (by simp)
 refine fnK tok Tryz.func48 Tryz.ntmps48 Tryz.results48 ?_
 simp only[argsA,Nat.reduceAdd,hpN]
 unfold qI at H
 refine S0 tok [] [0] ?_
 have q0:∀σ i,bsA T 28 true i 0 [] σ=some (.esl,σ):=fun _ _=>rfl
 refine Sx tok [0] [0,3] (by intro K k;simp -dsimp -implicitDefEqProofs [q0];exact k) ?_
 refine Wsq [3] fun K1 hK1=>?_
 refine S0 tok [] [0,3,4] ?_
 refine Wbl (Wth ?_)
 obtain⟨e1,hse1,H⟩:=bE H
 refine zS [0,3,4] (fun s a σ=>∃M1 o1:Nat,N0≤M1∧N0≤o1∧o1<M1∧a=[(0,.fsl (eL rI p0)),(3,.sl o1 0 s.2.length),(4,.int .i64 s.1)]∧σ=hp E0 [(o1,some ⟨103,2,eL rBox s.2⟩)] M1) (fun s x a σ=>x=.exit 0∧Rc G 22 N0 (fun a σ=>∃M2 o2:Nat,N0≤M2∧N0≤o2∧o2<M2∧a=[(3,.sl o2 0 s.length)]∧σ=hp E0 [(o2,some ⟨103,2,eL rBox s⟩)] M2) (AAct.keep a [3]) σ) hse1 ?_ ?_ ?_
 ·refine Rc.kp [0,3,4] [(0,.fsl (eL rI p0)),(3,.esl),(4,.int .i64 0)] rfl ?_
  refine gNilS zK 3 103 2 [(N0+4,some ⟨103,2,eL rBox ([]:List gBox)⟩)] [(0,.fsl (eL rI p0)),(3,.sl (N0+4) 0 ([]:List gBox).length),(4,.int .i64 0)] (by simp(disch:=omega)) (by simp(disch:=omega) [eN]) [0,3,4] rfl ?_
  exact Rf ⟨N0+5,(N0+4),(by omega),(by omega),(by omega),rfl,rfl⟩
 ·clear H hse1
  rintro⟨s1,s2⟩ fl a σ H ⟨M1,o1,fM1_0,fM1_1,fM1_2,rfl,rfl⟩ K2 O2 hK2 hO2
  unfold xQ at H;dsimp only at H
  refine Wsq [0,3,4] fun K3 hK3=>?_
  refine S0 tok [] [0,3,4,9] ?_
  refine Ci H (fun H=>?_) fun H=>?_
  ·refine Wsk (Jn hK3 ?_)
   refine Wsq [0,3,4] fun K4 hK4=>?_
   refine Wbl (Wth ?_)
   obtain⟨v4,hv4,H⟩:=bE H
   obtain⟨l5,hl5,H⟩:=bE H
   have q1:∀σ i,bsA T 23 true i 0 [] σ=some (.esl,σ):=fun _ _=>rfl
   have q2:∀σ i,bsA T 28 true i 1 [(0,.agg [.int .i64 v4,.fsl []])] σ=some (.fsl (eL rBox ([(⟨v4,([]:List Int)⟩:gBox)]:List gBox)),σ):=fun _ _=>rfl
   refine Rt tok [5,7] [0,3,4] (by
    intro K k
    have e0:=nQ o1 (M1+12)
    simp -dsimp -implicitDefEqProofs [e0,ix23 hv4,q1,q2,app28 hl5]
    exact k) fun a ha=>?_
   refine hK4 _ _ ?_;rw[ha]
   refine Rc.mk ?_
   refine Rt0 tok [] [0,3,4] fun a ha=>?_
   obtain rfl:=oi H
   refine hK2 _ _ _ rfl ?_;rw[ha]
   exact Rf ⟨M1+17,(M1+12),(by omega),(by omega),(by omega),rfl,rfl⟩
  obtain rfl:=oi H
  refine zJ (hO2 _ _ _ _ rfl ⟨rfl,?_⟩)
  refine Rc.rw (l:=[3]) (X:=[(3,.sl o1 0 s2.length)]) rfl ?_
  exact Rf ⟨M1+4,o1,(by omega),(by omega),(by omega),rfl,rfl⟩
 intro x a σ hx
 obtain⟨y3,rfl⟩:∃x,x=e1:=⟨_,rfl⟩
 obtain⟨rfl,b,τ,hr,M2,o2,fM2_0,fM2_1,fM2_2,rfl,rfl⟩:=hx
 (try dsimp only at H)
 show K1 _ _
 refine hK1 _ _ (zK hr ?_)
 refine Rc.mk ?_
 refine S0 tok [] [2] ?_
 obtain rfl:=oi H;exact Wr ⟨_,rfl,4,by simp[eN]⟩

theorem c79 {p0:List Int}{p1:Int}{r:Bool}(H:tJ p0 p1=some r):APure Tryz.prog G 79 [.fsl (eL rI p0),.int .i64 p1] (.bool r):=by
 refine zE (fun N0=>?_) (by simp)
 refine fnK tok Tryz.func79 Tryz.ntmps79 Tryz.results79 ?_
 simp only[argsA,Nat.reduceAdd,hpN]
 unfold tJ at H
 refine S0 tok [] [0,1] ?_
 refine Wsq [0] fun K1 hK1=>?_
 refine S0 tok [] [0,9] ?_
 refine Ci H (fun H=>?_) fun H=>?_
 ·refine S0 tok [] [4] ?_
  obtain rfl:=oi H;exact Wr ⟨_,rfl,4,by simp[eN]⟩
 refine Wsk (Jn hK1 ?_)
 refine Wsq [] fun K2 hK2=>?_
 refine S0 tok [] [0,5] ?_
 refine Wbl (Wth ?_)
 obtain⟨e1,hse1,H⟩:=bE H
 refine zS [0,5] (fun s a σ=>∃M1:Nat,N0≤M1∧a=[(0,.fsl (eL rI p0)),(5,.int .i64 s)]∧σ=hp E0 [] M1) (fun e x a σ=>match e with|.inl s=>x=.exit 0∧Rc G 22 N0 (fun a σ=>∃M2:Nat,N0≤M2∧a=[]∧σ=hp E0 [] M2) (AAct.keep a []) σ|.inr s=>x=.ret∧∃vs,resA T σ a [.tmp 4]=some vs∧∃d,thawA (fun _=>true) σ d (tupA vs)=.bool s) hse1 ?_ ?_ ?_
 ·refine Rc.kp [0,5] [(0,.fsl (eL rI p0)),(5,.int .i64 0)] rfl ?_
  exact Rf ⟨N0+6,(by omega),rfl,rfl⟩
 ·clear H hse1
  rintro s1 fl a σ H ⟨M1,fM1_0,rfl,rfl⟩ K3 O3 hK3 hO3
  unfold vR at H;dsimp only at H
  refine Wsq [0,5] fun K4 hK4=>?_
  refine S0 tok [] [0,5,13] ?_
  refine Ci H (fun H=>?_) fun H=>?_
  ·refine Wsk (Jn hK4 ?_)
   refine Wsq [0,5] fun K5 hK5=>?_
   refine Wbl (Wth ?_)
   obtain⟨v2,hv2,H⟩:=bE H
   obtain⟨r3,hr3,H⟩:=bE H
   refine Sx tok [] [0,5,21] (by intro K k;(repeat first|simp -dsimp -implicitDefEqProofs [ix23 hv2]|refine(c106 hr3).app ?_);exact k) ?_
   refine Ci H (fun H=>?_) fun H=>?_
   ·refine S0 tok [] [4] ?_
    obtain rfl:=oi H
    refine Kp [4] ?_
    refine Wr (hO3 _ _ _ _ rfl ⟨rfl,?_⟩)
    exact⟨[.bool false],by simp,4,by simp[eN]⟩
   refine Wsk (Jn hK5 ?_)
   refine Rt0 tok [] [0,5] fun a ha=>?_
   obtain rfl:=oi H
   refine hK3 _ _ _ rfl ?_;rw[ha]
   exact Rf ⟨M1+13,(by omega),rfl,rfl⟩
  obtain rfl:=oi H
  refine zJ (hO3 _ _ _ _ rfl ⟨rfl,?_⟩)
  refine Rc.rw (l:=[]) (X:=[]) rfl ?_
  exact Rf ⟨M1+4,(by omega),rfl,rfl⟩
 intro x a σ hx
 rcases e1 with⟨⟩|r0
 ·obtain⟨rfl,b,τ,hr,M2,fM2_0,rfl,rfl⟩:=hx
  (try dsimp only at H)
  show K2 _ _
  refine hK2 _ _ (zK hr ?_)
  refine Rc.mk ?_
  refine S0 tok [] [4] ?_
  obtain rfl:=oi H;exact Wr ⟨_,rfl,4,by simp[eN]⟩
 obtain⟨rfl,hx2⟩:=hx
 (try dsimp only at H)
 obtain rfl:=oi H;first|exact hx2|(simp only[List.set_set] at hx2 ⊢;exact hx2)

theorem c102 {p0:gBox}{r:Bool}(H:wS p0=some r):APure Tryz.prog G 102 [.agg [.int .i64 p0.Room,.fsl (eL rI p0.Items)]] (.bool r):=by
 refine zE (fun N0=>?_) (by simp)
 refine fnK tok Tryz.func102 Tryz.ntmps102 Tryz.results102 ?_
 simp only[argsA,Nat.reduceAdd,hpN]
 unfold wS at H
 refine S0 tok [0] [1] ?_
 obtain⟨r1,hr1,H⟩:=bE H
 obtain⟨g2,hg2,H⟩:=bE H
 obtain⟨g4,hg4,H⟩:=bE H
 refine Sx tok [] [2] (X:=[(2,.bool g4)]) (Y:=hp E0 [] (N0+22)) (by
  intro K k
  simp -dsimp -implicitDefEqProofs
  refine(c66 hr1).app ?_;try simp -dsimp -implicitDefEqProofs
  cases hbg2:r1
  ·obtain rfl:=oi (ifF hbg2 hg2)
   obtain rfl:=oi (ifF rfl hg4)
   try simp -dsimp -implicitDefEqProofs [hbg2]
   exact k
  obtain rfl:=oi (ifT hbg2 hg2)
  try simp -dsimp -implicitDefEqProofs [hbg2]
  cases hbg4:(ile (ilen p0.Items) p0.Room)
  ·obtain rfl:=oi (ifF hbg4 hg4)
   try simp -dsimp -implicitDefEqProofs [hbg2,hbg4]
   exact k
  replace hg4:=ifT hbg4 hg4
  obtain⟨r3,hr3,hg4⟩:=bE hg4
  obtain rfl:=oi hg4
  try simp -dsimp -implicitDefEqProofs [hbg2,hbg4]
  refine(c79 hr3).app ?_;try simp -dsimp -implicitDefEqProofs [hbg2,hbg4]
  exact k) ?_
 obtain rfl:=oi H;exact Wr ⟨_,rfl,4,by simp[eN]⟩

theorem c76 {p0:List gBox}{r:Bool}(H:qJ p0=some r):APure Tryz.prog G 76 [.fsl (eL rBox p0)] (.bool r):=by
 refine zE (fun N0=>?_) (by simp)
 refine fnK tok Tryz.func76 Tryz.ntmps76 Tryz.results76 ?_
 simp only[argsA,Nat.reduceAdd,hpN]
 unfold qJ at H
 refine S0 tok [] [0] ?_
 refine Wsq [0] fun K1 hK1=>?_
 refine S0 tok [] [0,3] ?_
 refine Wbl (Wth ?_)
 obtain⟨e1,hse1,H⟩:=bE H
 refine zS [0,3] (fun s a σ=>∃M1:Nat,N0≤M1∧a=[(0,.fsl (eL rBox p0)),(3,.int .i64 s)]∧σ=hp E0 [] M1) (fun e x a σ=>match e with|.inl s=>x=.exit 0∧Rc G 19 N0 (fun a σ=>∃M2:Nat,N0≤M2∧a=[(0,.fsl (eL rBox p0))]∧σ=hp E0 [] M2) (AAct.keep a [0]) σ|.inr s=>x=.ret∧∃vs,resA T σ a [.tmp 2]=some vs∧∃d,thawA (fun _=>true) σ d (tupA vs)=.bool s) hse1 ?_ ?_ ?_
 ·refine Rc.kp [0,3] [(0,.fsl (eL rBox p0)),(3,.int .i64 0)] rfl ?_
  exact Rf ⟨N0+2,(by omega),rfl,rfl⟩
 ·clear H hse1
  rintro s1 fl a σ H ⟨M1,fM1_0,rfl,rfl⟩ K2 O2 hK2 hO2
  unfold xR at H;dsimp only at H
  refine Wsq [0,3] fun K3 hK3=>?_
  refine S0 tok [] [0,3,7] ?_
  refine Ci H (fun H=>?_) fun H=>?_
  ·refine Wsk (Jn hK3 ?_)
   refine Wsq [0,3] fun K4 hK4=>?_
   refine Wbl (Wth ?_)
   obtain⟨v2,hv2,H⟩:=bE H
   obtain⟨r3,hr3,H⟩:=bE H
   refine Sx tok [] [0,3,15] (by intro K k;(repeat first|simp -dsimp -implicitDefEqProofs [ix28 hv2]|refine(c102 hr3).app ?_);exact k) ?_
   refine Ci H (fun H=>?_) fun H=>?_
   ·refine S0 tok [] [2] ?_
    obtain rfl:=oi H
    refine Kp [2] ?_
    refine Wr (hO2 _ _ _ _ rfl ⟨rfl,?_⟩)
    exact⟨[.bool false],by simp,4,by simp[eN]⟩
   refine Wsk (Jn hK4 ?_)
   refine Rt0 tok [] [0,3] fun a ha=>?_
   obtain rfl:=oi H
   refine hK2 _ _ _ rfl ?_;rw[ha]
   exact Rf ⟨M1+13,(by omega),rfl,rfl⟩
  obtain rfl:=oi H
  refine zJ (hO2 _ _ _ _ rfl ⟨rfl,?_⟩)
  refine Rc.rw (l:=[0]) (X:=[(0,.fsl (eL rBox p0))]) rfl ?_
  exact Rf ⟨M1+4,(by omega),rfl,rfl⟩
 intro x a σ hx
 rcases e1 with⟨⟩|r0
 ·obtain⟨rfl,b,τ,hr,M2,fM2_0,rfl,rfl⟩:=hx
  (try dsimp only at H)
  show K1 _ _
  refine hK1 _ _ (zK hr ?_)
  refine Rc.mk ?_
  refine S0 tok [] [2] ?_
  obtain rfl:=oi H;exact Wr ⟨_,rfl,4,by simp[eN]⟩
 obtain⟨rfl,hx2⟩:=hx
 (try dsimp only at H)
 obtain rfl:=oi H;first|exact hx2|(simp only[List.set_set] at hx2 ⊢;exact hx2)

theorem c104 {p0:gThread}{p1:Int}{r:Bool}(H:oE p0 p1=some r):APure Tryz.prog G 104 [.agg [.fsl (eL rI p0.Regs),.int .i64 p0.Pc],.int .i64 p1] (.bool r):=by
 refine zE (fun N0=>?_) (by simp)
 refine fnK tok Tryz.func104 Tryz.ntmps104 Tryz.results104 ?_
 simp only[argsA,Nat.reduceAdd,hpN]
 unfold oE at H
 refine S0 tok [0] [1,2] ?_
 obtain⟨r1,hr1,H⟩:=bE H
 obtain⟨g3,hg3,H⟩:=bE H
 refine Sx tok [] [4] (X:=[(4,.bool g3)]) (Y:=hp E0 [] (N0+13)) (by
  intro K k
  simp -dsimp -implicitDefEqProofs
  refine(c79 hr1).app ?_;try simp -dsimp -implicitDefEqProofs
  cases hbg3:r1
  ·obtain rfl:=oi (ifF hbg3 hg3)
   try simp -dsimp -implicitDefEqProofs [hbg3]
   exact k
  replace hg3:=ifT hbg3 hg3
  obtain⟨r2,hr2,hg3⟩:=bE hg3
  obtain rfl:=oi hg3
  try simp -dsimp -implicitDefEqProofs [hbg3]
  refine(c66 hr2).app ?_;try simp -dsimp -implicitDefEqProofs [hbg3]
  exact k) ?_
 obtain rfl:=oi H;exact Wr ⟨_,rfl,4,by simp[eN]⟩

theorem c77 {p0:gThread}{p1:List gQuad}{r:Bool}(H:yQ p0 p1=some r):APure Tryz.prog G 77 [.agg [.fsl (eL rI p0.Regs),.int .i64 p0.Pc],.fsl (eL rQuad p1)] (.bool r):=by
 refine zE (fun N0=>?_) (by simp)
 refine fnK tok Tryz.func77 Tryz.ntmps77 Tryz.results77 ?_
 simp only[argsA,Nat.reduceAdd,hpN]
 unfold yQ at H
 refine S0 tok [0] [1,2] ?_
 obtain⟨r1,hr1,H⟩:=bE H
 obtain⟨g3,hg3,H⟩:=bE H
 refine Sx tok [] [4] (X:=[(4,.bool g3)]) (Y:=hp E0 [] (N0+11)) (by
  intro K k
  simp -dsimp -implicitDefEqProofs
  refine(c103 hr1).app ?_;try simp -dsimp -implicitDefEqProofs
  cases hbg3:r1
  ·obtain rfl:=oi (ifF hbg3 hg3)
   try simp -dsimp -implicitDefEqProofs [hbg3]
   exact k
  replace hg3:=ifT hbg3 hg3
  obtain⟨r2,hr2,hg3⟩:=bE hg3
  obtain rfl:=oi hg3
  try simp -dsimp -implicitDefEqProofs [hbg3]
  refine(c104 hr2).app ?_;try simp -dsimp -implicitDefEqProofs [hbg3]
  exact k) ?_
 obtain rfl:=oi H;exact Wr ⟨_,rfl,4,by simp[eN]⟩

theorem c105 {p0:gQuad}{p1:Int}{r:Bool}(H:oD p0 p1=some r):APure Tryz.prog G 105 [.agg [.int .i64 p0.Op,.int .i64 p0.Dst,.int .i64 p0.A,.int .i64 p0.B,.int .i64 p0.N],.int .i64 p1] (.bool r):=by
 refine zE (fun N0=>?_) (by simp)
 refine fnK tok Tryz.func105 Tryz.ntmps105 Tryz.results105 ?_
 simp only[argsA,Nat.reduceAdd,hpN]
 unfold oD at H
 refine S0 tok [0] [1,2] ?_
 obtain⟨g1,hg1,H⟩:=bE H
 obtain⟨g2,hg2,H⟩:=bE H
 refine Sx tok [] [4] (X:=[(4,.bool g2)]) (Y:=hp E0 [] (N0+17)) (by
  intro K k
  simp -dsimp -implicitDefEqProofs
  cases hbg1:ine p0.Op 6
  ·obtain rfl:=oi (ifF hbg1 hg1)
   obtain rfl:=oi (ifF rfl hg2)
   try simp -dsimp -implicitDefEqProofs [hbg1]
   exact k
  obtain rfl:=oi (ifT hbg1 hg1)
  try simp -dsimp -implicitDefEqProofs [hbg1]
  cases hbg2:(ine p0.Op 7)
  ·obtain rfl:=oi (ifF hbg2 hg2)
   try simp -dsimp -implicitDefEqProofs [hbg1,hbg2]
   exact k
  obtain rfl:=oi (ifT hbg2 hg2)
  try simp -dsimp -implicitDefEqProofs [hbg1,hbg2]
  exact k) ?_
 obtain rfl:=oi H;exact Wr ⟨_,rfl,4,by simp[eN]⟩

theorem c78 {p0:List gQuad}{p1:Int}{r:Bool}(H:oC p0 p1=some r):APure Tryz.prog G 78 [.fsl (eL rQuad p0),.int .i64 p1] (.bool r):=by
 refine zE (fun N0=>?_) (by simp)
 refine fnK tok Tryz.func78 Tryz.ntmps78 Tryz.results78 ?_
 simp only[argsA,Nat.reduceAdd,hpN]
 unfold oC at H
 refine S0 tok [] [0,1] ?_
 refine Wsq [] fun K1 hK1=>?_
 refine S0 tok [] [0,1,5] ?_
 refine Wbl (Wth ?_)
 obtain⟨e1,hse1,H⟩:=bE H
 refine zS [0,1,5] (fun s a σ=>∃M1:Nat,N0≤M1∧a=[(0,.fsl (eL rQuad p0)),(1,.int .i64 p1),(5,.int .i64 s)]∧σ=hp E0 [] M1) (fun e x a σ=>match e with|.inl s=>x=.exit 0∧Rc G 19 N0 (fun a σ=>∃M2:Nat,N0≤M2∧a=[]∧σ=hp E0 [] M2) (AAct.keep a []) σ|.inr s=>x=.ret∧∃vs,resA T σ a [.tmp 4]=some vs∧∃d,thawA (fun _=>true) σ d (tupA vs)=.bool s) hse1 ?_ ?_ ?_
 ·refine Rc.kp [0,1,5] [(0,.fsl (eL rQuad p0)),(1,.int .i64 p1),(5,.int .i64 0)] rfl ?_
  exact Rf ⟨N0+2,(by omega),rfl,rfl⟩
 ·clear H hse1
  rintro s1 fl a σ H ⟨M1,fM1_0,rfl,rfl⟩ K2 O2 hK2 hO2
  unfold vW at H;dsimp only at H
  refine Wsq [0,1,5] fun K3 hK3=>?_
  refine S0 tok [] [0,1,5,9] ?_
  refine Ci H (fun H=>?_) fun H=>?_
  ·refine Wsk (Jn hK3 ?_)
   refine Wsq [0,1,5] fun K4 hK4=>?_
   refine Wbl (Wth ?_)
   obtain⟨v2,hv2,H⟩:=bE H
   obtain⟨r3,hr3,H⟩:=bE H
   refine Sx tok [] [0,1,5,18] (by intro K k;(repeat first|simp -dsimp -implicitDefEqProofs [ix34 hv2]|refine(c105 hr3).app ?_);exact k) ?_
   refine Ci H (fun H=>?_) fun H=>?_
   ·refine S0 tok [] [4] ?_
    obtain rfl:=oi H
    refine Kp [4] ?_
    refine Wr (hO2 _ _ _ _ rfl ⟨rfl,?_⟩)
    exact⟨[.bool false],by simp,4,by simp[eN]⟩
   refine Wsk (Jn hK4 ?_)
   refine Rt0 tok [] [0,1,5] fun a ha=>?_
   obtain rfl:=oi H
   refine hK2 _ _ _ rfl ?_;rw[ha]
   exact Rf ⟨M1+14,(by omega),rfl,rfl⟩
  obtain rfl:=oi H
  refine zJ (hO2 _ _ _ _ rfl ⟨rfl,?_⟩)
  refine Rc.rw (l:=[]) (X:=[]) rfl ?_
  exact Rf ⟨M1+4,(by omega),rfl,rfl⟩
 intro x a σ hx
 rcases e1 with⟨⟩|r0
 ·obtain⟨rfl,b,τ,hr,M2,fM2_0,rfl,rfl⟩:=hx
  (try dsimp only at H)
  show K1 _ _
  refine hK1 _ _ (zK hr ?_)
  refine Rc.mk ?_
  refine S0 tok [] [4] ?_
  obtain rfl:=oi H;exact Wr ⟨_,rfl,4,by simp[eN]⟩
 obtain⟨rfl,hx2⟩:=hx
 (try dsimp only at H)
 obtain rfl:=oi H;first|exact hx2|(simp only[List.set_set] at hx2 ⊢;exact hx2)

theorem c49 {p0:gCrew}{r:Bool}(H:tQ p0=some r):APure Tryz.prog G 49 [.agg [.fsl (eL zA p0.Codes),.fsl (eL zF p0.Threads),.fsl (eL rBox p0.Boxes),.int .i64 p0.Turn,.int .i64 p0.Idle,.fsl (eL rI p0.Out)]] (.bool r):=by
 refine zE (fun N0=>?_) (by simp)
 refine fnK tok Tryz.func49 Tryz.ntmps49 Tryz.results49 ?_
 simp only[argsA,Nat.reduceAdd,hpN]
 unfold tQ at H
 refine S0 tok [0] [1] ?_
 refine S0 tok [] [1,3] ?_
 refine Wsq [1,3] fun K1 hK1=>?_
 obtain⟨r1,hr1,H⟩:=bE H
 obtain⟨g2,hg2,H⟩:=bE H
 obtain⟨g4,hg4,H⟩:=bE H
 obtain⟨g6,hg6,H⟩:=bE H
 obtain⟨g8,hg8,H⟩:=bE H
 refine Sx tok [] [1,3,38] (X:=[(1,.fptr [.fsl (eL zA p0.Codes),.fsl (eL zF p0.Threads),.fsl (eL rBox p0.Boxes),.int .i64 p0.Turn,.int .i64 p0.Idle,.fsl (eL rI p0.Out)] 0),(3,.int .i64 (ilen p0.Threads)),(38,.bool g8)]) (Y:=hp E0 [] (N0+37)) (by
  intro K k
  simp -dsimp -implicitDefEqProofs
  refine(c66 hr1).app ?_;try simp -dsimp -implicitDefEqProofs
  cases hbg2:bnot r1
  ·obtain rfl:=oi (ifF hbg2 hg2)
   try simp -dsimp -implicitDefEqProofs [hbg2]
   cases hbg4:(ine (ilen p0.Codes) (ilen p0.Threads))
   ·replace hg4:=ifF hbg4 hg4
    obtain⟨r3,hr3,hg4⟩:=bE hg4
    obtain rfl:=oi hg4
    try simp -dsimp -implicitDefEqProofs [hbg2,hbg4]
    refine(c76 hr3).app ?_;try simp -dsimp -implicitDefEqProofs [hbg2,hbg4]
    cases hbg6:(bnot r3)
    ·replace hg6:=ifF hbg6 hg6
     obtain⟨r5,hr5,hg6⟩:=bE hg6
     obtain rfl:=oi hg6
     try simp -dsimp -implicitDefEqProofs [hbg2,hbg4,hbg6]
     refine(c66 hr5).app ?_;try simp -dsimp -implicitDefEqProofs [hbg2,hbg4,hbg6]
     cases hbg8:(bnot r5)
     ·replace hg8:=ifF hbg8 hg8
      obtain⟨r7,hr7,hg8⟩:=bE hg8
      obtain rfl:=oi hg8
      try simp -dsimp -implicitDefEqProofs [hbg2,hbg4,hbg6,hbg8]
      refine(c66 hr7).app ?_;try simp -dsimp -implicitDefEqProofs [hbg2,hbg4,hbg6,hbg8]
      exact k
     obtain rfl:=oi (ifT hbg8 hg8)
     try simp -dsimp -implicitDefEqProofs [hbg2,hbg4,hbg6,hbg8]
     exact k
    obtain rfl:=oi (ifT hbg6 hg6)
    obtain rfl:=oi (ifT rfl hg8)
    try simp -dsimp -implicitDefEqProofs [hbg2,hbg4,hbg6]
    exact k
   obtain rfl:=oi (ifT hbg4 hg4)
   obtain rfl:=oi (ifT rfl hg6)
   obtain rfl:=oi (ifT rfl hg8)
   try simp -dsimp -implicitDefEqProofs [hbg2,hbg4]
   exact k
  obtain rfl:=oi (ifT hbg2 hg2)
  obtain rfl:=oi (ifT rfl hg4)
  obtain rfl:=oi (ifT rfl hg6)
  obtain rfl:=oi (ifT rfl hg8)
  try simp -dsimp -implicitDefEqProofs [hbg2]
  exact k) ?_
 refine Ci H (fun H=>?_) fun H=>?_
 ·refine S0 tok [] [2] ?_
  obtain rfl:=oi H;exact Wr ⟨_,rfl,4,by simp[eN]⟩
 refine Wsk (Jn hK1 ?_)
 refine Wsq [1] fun K2 hK2=>?_
 refine S0 tok [] [1,3,4] ?_
 refine Wbl (Wth ?_)
 obtain⟨e1,hse1,H⟩:=bE H
 refine zS [1,3,4] (fun s a σ=>∃M1:Nat,N0≤M1∧a=[(1,.fptr [.fsl (eL zA p0.Codes),.fsl (eL zF p0.Threads),.fsl (eL rBox p0.Boxes),.int .i64 p0.Turn,.int .i64 p0.Idle,.fsl (eL rI p0.Out)] 0),(3,.int .i64 (ilen p0.Threads)),(4,.int .i64 s)]∧σ=hp E0 [] M1) (fun e x a σ=>match e with|.inl s=>x=.exit 0∧Rc G 74 N0 (fun a σ=>∃M2:Nat,N0≤M2∧a=[(1,.fptr [.fsl (eL zA p0.Codes),.fsl (eL zF p0.Threads),.fsl (eL rBox p0.Boxes),.int .i64 p0.Turn,.int .i64 p0.Idle,.fsl (eL rI p0.Out)] 0)]∧σ=hp E0 [] M2) (AAct.keep a [1]) σ|.inr s=>x=.ret∧∃vs,resA T σ a [.tmp 2]=some vs∧∃d,thawA (fun _=>true) σ d (tupA vs)=.bool s) hse1 ?_ ?_ ?_
 ·refine Rc.kp [1,3,4] [(1,.fptr [.fsl (eL zA p0.Codes),.fsl (eL zF p0.Threads),.fsl (eL rBox p0.Boxes),.int .i64 p0.Turn,.int .i64 p0.Idle,.fsl (eL rI p0.Out)] 0),(3,.int .i64 (ilen p0.Threads)),(4,.int .i64 0)] rfl ?_
  exact Rf ⟨N0+38,(by omega),rfl,rfl⟩
 ·clear H hse1
  rintro s9 fl a σ H ⟨M1,fM1_0,rfl,rfl⟩ K3 O3 hK3 hO3
  unfold jO at H;dsimp only at H
  refine Wsq [1,3,4] fun K4 hK4=>?_
  refine S0 tok [] [1,3,4,41] ?_
  refine Ci H (fun H=>?_) fun H=>?_
  ·refine Wsk (Jn hK4 ?_)
   refine Wsq [1,3,4] fun K5 hK5=>?_
   refine Wbl (Wth ?_)
   obtain⟨v10,hv10,H⟩:=bE H
   obtain⟨v11,hv11,H⟩:=bE H
   obtain⟨r12,hr12,H⟩:=bE H
   obtain⟨g14,hg14,H⟩:=bE H
   refine mP tok tokM [] [] [0,1,2,3,4,5,6,7,8,9,10,11,12,13,14,15,16,17,18,19,20,21,22,23] [1,3,4,67] (fun a σ=>a=[(1,.fptr [.fsl (eL zA p0.Codes),.fsl (eL zF p0.Threads),.fsl (eL rBox p0.Boxes),.int .i64 p0.Turn,.int .i64 p0.Idle,.fsl (eL rI p0.Out)] 0),(3,.int .i64 (ilen p0.Threads)),(4,.int .i64 s9),(67,.bool g14)]∧σ=hp E0 [] (M1+27)) (by decide) (fun K hK=>?_) ?_
   ·simp only[pickL,zO,zQ]
    simp -dsimp -implicitDefEqProofs [ix27 hv10,ix24 hv11]
    refine Pc.mk (c77 hr12) ?_;try simp -dsimp -implicitDefEqProofs [ix27 hv10,ix24 hv11]
    cases hbg14:bnot r12
    ·replace hg14:=ifF hbg14 hg14
     obtain⟨r13,hr13,hg14⟩:=bE hg14
     obtain rfl:=oi hg14
     try simp -dsimp -implicitDefEqProofs [ix27 hv10,ix24 hv11,hbg14]
     refine Pc.mk (c78 hr13) ?_;try simp -dsimp -implicitDefEqProofs [ix27 hv10,ix24 hv11,hbg14]
     exact hK _ _ ⟨rfl,rfl⟩
    obtain rfl:=oi (ifT hbg14 hg14)
    try simp -dsimp -implicitDefEqProofs [ix27 hv10,ix24 hv11,hbg14]
    exact hK _ _ ⟨rfl,rfl⟩
   rintro a σ ⟨rfl,rfl⟩
   refine Ci H (fun H=>?_) fun H=>?_
   ·refine S0 tok [] [2] ?_
    obtain rfl:=oi H
    refine Kp [2] ?_
    refine Wr (hO3 _ _ _ _ rfl ⟨rfl,?_⟩)
    exact⟨[.bool false],by simp,4,by simp[eN]⟩
   refine Wsk (Jn hK5 ?_)
   refine Rt0 tok [] [1,3,4] fun a ha=>?_
   obtain rfl:=oi H
   refine hK3 _ _ _ rfl ?_;rw[ha]
   exact Rf ⟨M1+30,(by omega),rfl,rfl⟩
  obtain rfl:=oi H
  refine zJ (hO3 _ _ _ _ rfl ⟨rfl,?_⟩)
  refine Rc.rw (l:=[1]) (X:=[(1,.fptr [.fsl (eL zA p0.Codes),.fsl (eL zF p0.Threads),.fsl (eL rBox p0.Boxes),.int .i64 p0.Turn,.int .i64 p0.Idle,.fsl (eL rI p0.Out)] 0)]) rfl ?_
  exact Rf ⟨M1+3,(by omega),rfl,rfl⟩
 intro x a σ hx
 rcases e1 with⟨⟩|r0
 ·obtain⟨rfl,b,τ,hr,M2,fM2_0,rfl,rfl⟩:=hx
  (try dsimp only at H)
  show K2 _ _
  refine hK2 _ _ (zK hr ?_)
  refine Rc.mk ?_
  obtain⟨r15,hr15,H⟩:=bE H
  refine Sx tok [] [2] (by intro K k;(repeat first|simp -dsimp -implicitDefEqProofs|refine(c79 hr15).app ?_);exact k) ?_
  obtain rfl:=oi H;exact Wr ⟨_,rfl,4,by simp[eN]⟩
 obtain⟨rfl,hx2⟩:=hx
 (try dsimp only at H)
 obtain rfl:=oi H;first|exact hx2|(simp only[List.set_set] at hx2 ⊢;exact hx2)

theorem c14 {p0:List Int}{p1:(List (List gQuad))}{r:gCrew×Bool}(H:qP p0 p1=some r):APure Tryz.prog G 14 [.fsl (eL rI p0),.fsl (eL zA p1)] (.tup [.agg [.fsl (eL zA r.1.Codes),.fsl (eL zF r.1.Threads),.fsl (eL rBox r.1.Boxes),.int .i64 r.1.Turn,.int .i64 r.1.Idle,.fsl (eL rI r.1.Out)],.bool r.2]):=by
 refine zE (fun N0=>?_) (by simp)
 refine fnK tok Tryz.func14 Tryz.ntmps14 Tryz.results14 ?_
 simp only[argsA,Nat.reduceAdd,hpN]
 unfold qP at H
 refine S0 tok [] [0,1,4] ?_
 refine Wsq [0,1,4] fun K1 hK1=>?_
 refine gW Wre N0 0 0 ?_
 refine gW Wre N0 0 1 ?_
 refine gW Wre N0 0 2 ?_
 refine gW Wre N0 0 5 ?_
 obtain⟨r1,hr1,H⟩:=bE H
 refine Sx tok [] [0,1,4,10] (by intro K k;(repeat first|simp -dsimp -implicitDefEqProofs|refine(c46 hr1).app ?_);exact k) ?_
 refine Ci H (fun H=>?_) fun H=>?_
 ·refine S0 tok [] [4,5] ?_
  obtain rfl:=oi H
  refine Kp [4,5] ?_
  refine Wr ?_
  exact⟨[.agg [.fsl [],.fsl [],.fsl [],.int .i64 0,.int .i64 0,.fsl []],.bool false],by simp,4,by simp[eN]⟩
 refine Wsk (Jn hK1 ?_)
 obtain⟨r2,hr2,H⟩:=bE H
 obtain⟨l3,hl3,H⟩:=bE H
 obtain⟨r4,hr4,H⟩:=bE H
 have q0:∀σ i,bsA T 27 false i 0 [] σ=some (.sl i 0 (List.length l3),σ.put i ⟨42,2,eL zF l3⟩):=by rw[← Option.some.inj hl3];exact fun _ _=>rfl
 have q1:∀σ i,bsA T 23 true i 0 [] σ=some (.esl,σ):=fun _ _=>rfl
 refine Sx tok [5] [1,4,6] (by intro K k;(repeat first|simp -dsimp -implicitDefEqProofs [q0,q1]|refine(c47 hr2).app ?_|refine(c48 hr4).app ?_);exact k) ?_
 refine Wsq [4,6] fun K2 hK2=>?_
 refine S0 tok [] [1,4,6,7] ?_
 refine Wbl (Wth ?_)
 obtain⟨e1,hse1,H⟩:=bE H
 refine zS [1,4,6,7] (fun s a σ=>∃M1 o1 o2:Nat,N0≤M1∧N0≤o1∧o1<M1∧N0≤o2∧o2<M1∧¬o1=o2∧a=[(1,.fsl (eL zA p1)),(4,.ptr o1 0 0),(6,.ptr o2 0 0),(7,.int .i64 s.1)]∧σ=hp E0 [(o1,some ⟨30,6,[[.fsl (eL zA s.2.1.Codes),.fsl (eL zF s.2.1.Threads),.fsl (eL rBox s.2.1.Boxes),.int .i64 s.2.1.Turn,.int .i64 s.2.1.Idle,.fsl (eL rI s.2.1.Out)]]⟩),(o2,some ⟨30,6,[[.fsl (eL zA s.2.2.Codes),.osl 42 2 (eL zF s.2.2.Threads),.fsl (eL rBox s.2.2.Boxes),.int .i64 s.2.2.Turn,.int .i64 s.2.2.Idle,.fsl (eL rI s.2.2.Out)]]⟩)] M1) (fun s x a σ=>x=.exit 0∧Rc G 37 N0 (fun a σ=>∃M2 o3 o4:Nat,N0≤M2∧N0≤o3∧o3<M2∧N0≤o4∧o4<M2∧¬o3=o4∧a=[(4,.ptr o3 0 0),(6,.ptr o4 0 0)]∧σ=hp E0 [(o3,some ⟨30,6,[[.fsl (eL zA s.1.Codes),.fsl (eL zF s.1.Threads),.fsl (eL rBox s.1.Boxes),.int .i64 s.1.Turn,.int .i64 s.1.Idle,.fsl (eL rI s.1.Out)]]⟩),(o4,some ⟨30,6,[[.fsl (eL zA s.2.Codes),.osl 42 2 (eL zF s.2.Threads),.fsl (eL rBox s.2.Boxes),.int .i64 s.2.Turn,.int .i64 s.2.Idle,.fsl (eL rI s.2.Out)]]⟩)] M2) (AAct.keep a [4,6]) σ) hse1 ?_ ?_ ?_
 ·refine Rc.kp [1,4,6,7] [(1,.fsl (eL zA p1)),(4,.ptr N0 0 0),(6,.ptr (N0+12) 0 0),(7,.int .i64 0)] rfl ?_
  refine gP zK (N0+12) 0 1 ?_
  exact Rf ⟨N0+15,N0,(N0+12),(by omega),(by omega),(by omega),(by omega),(by omega),(by omega),rfl,rfl⟩
 ·clear H hse1
  rintro⟨s5,s6,s7⟩ fl a σ H ⟨M1,o1,o2,fM1_0,fM1_1,fM1_2,fM1_3,fM1_4,fM1_5,rfl,rfl⟩ K3 O3 hK3 hO3
  unfold uB at H;dsimp only at H
  refine Wsq [1,4,6,7] fun K4 hK4=>?_
  refine Sx tok [] [1,4,6,7,22] (by
   intro K k
   have e0:=nQ o1 o2
   simp -dsimp -implicitDefEqProofs [e0]
   exact k) ?_
  refine Ci H (fun H=>?_) fun H=>?_
  ·refine Wsk (Jn hK4 ?_)
   refine Wsq [1,4,6,7] fun K5 hK5=>?_
   refine Wbl (Wth ?_)
   refine gU Wre o2 0 1 ?_
   obtain⟨l10,hl10,H⟩:=bE H
   obtain⟨l11,hl11,H⟩:=bE H
   have q2:∀σ i,bsA T 27 true i 1 [(0,.agg [.fsl (eL rI l10),.int .i64 0])] σ=some (.fsl (eL zF ([(⟨l10,0⟩:gThread)]:List gThread)),σ):=fun _ _=>rfl
   refine mQ tok tokM [2,4] [1,5,7] [0,2,3,4,1,5,6,7] [1,4,6,7] (fun a σ=>a=[(1,.fsl (eL zA p1)),(4,.ptr o1 0 0),(6,.ptr o2 0 0),(7,.int .i64 s5)]∧σ=hp E0 [(o1,some ⟨30,6,[[.fsl (eL zA s6.Codes),.fsl (eL zF s6.Threads),.fsl (eL rBox s6.Boxes),.int .i64 s6.Turn,.int .i64 s6.Idle,.fsl (eL rI s6.Out)]]⟩),(o2,some ⟨30,6,[[.fsl (eL zA s7.Codes),.sl (M1+10) 0 l11.length,.fsl (eL rBox s7.Boxes),.int .i64 s7.Turn,.int .i64 s7.Idle,.fsl (eL rI s7.Out)]]⟩),(M1+10,some ⟨42,2,eL zF l11⟩)] (M1+13)) (by decide) (fun K hK=>?_) ?_
   ·simp only[pickL,zO,zQ]
    have e0:=nQ o1 o2
    have e1:=nQ o1 (M1+4)
    have e2:=nQ o1 (M1+10)
    have e3:=nQ o2 (M1+4)
    have e4:=nQ o2 (M1+10)
    simp -dsimp -implicitDefEqProofs [e0,e1,e2,e3,e4,makf23 hl10,q2,app27 hl11]
    exact hK _ _ ⟨rfl,rfl⟩
   rintro a σ ⟨ha,rfl⟩
   refine hK5 _ _ ?_;rw[ha]
   refine Rc.mk ?_
   refine Rt tok [] [1,4,6,7] (by
    intro K k
    have e0:=nQ o1 o2
    have e1:=nQ o1 (M1+10)
    have e2:=nQ o2 (M1+10)
    simp -dsimp -implicitDefEqProofs [e0,e1,e2]
    exact k) fun a ha=>?_
   obtain rfl:=oi H
   refine hK3 _ _ _ rfl ?_;rw[ha]
   refine gP zK o2 0 1 ?_
   exact Rf ⟨M1+16,o1,o2,(by omega),(by omega),(by omega),(by omega),(by omega),(by omega),rfl,rfl⟩
  obtain rfl:=oi H
  refine zJ (hO3 _ _ _ _ rfl ⟨rfl,?_⟩)
  refine Rc.rw (l:=[4,6]) (X:=[(4,.ptr o1 0 0),(6,.ptr o2 0 0)]) rfl ?_
  exact Rf ⟨M1+4,o1,o2,(by omega),(by omega),(by omega),(by omega),(by omega),(by omega),rfl,rfl⟩
 intro x a σ hx
 obtain⟨y8,y9⟩:=e1
 obtain⟨rfl,b,τ,hr,M2,o3,o4,fM2_0,fM2_1,fM2_2,fM2_3,fM2_4,fM2_5,rfl,rfl⟩:=hx
 (try dsimp only at H)
 show K2 _ _
 refine hK2 _ _ (zK hr ?_)
 refine Rc.mk ?_
 refine Wsq [4,6] fun K6 hK6=>?_
 refine gU Wre o4 0 1 ?_
 obtain⟨r12,hr12,H⟩:=bE H
 refine jV tok [] [4,6,34] (fun a σ=>a=[(4,.ptr o3 0 0),(6,.ptr o4 0 0),(34,.bool (bnot r12))]∧σ=hp E0 [(o3,some ⟨30,6,[[.fsl (eL zA y8.Codes),.fsl (eL zF y8.Threads),.fsl (eL rBox y8.Boxes),.int .i64 y8.Turn,.int .i64 y8.Idle,.fsl (eL rI y8.Out)]]⟩),(o4,some ⟨30,6,[[.fsl (eL zA y9.Codes),.sl M2 0 y9.Threads.length,.fsl (eL rBox y9.Boxes),.int .i64 y9.Turn,.int .i64 y9.Idle,.fsl (eL rI y9.Out)]]⟩),(M2,some ⟨42,2,eL zF y9.Threads⟩)] (M2+4)) (fun K hK=>?_) ?_
 ·skip
  have e0:=nQ o3 o4
  have e1:=nQ o3 M2
  have e2:=nQ o4 M2
  simp -dsimp -implicitDefEqProofs [e0,e1,e2]
  refine(borrow 8 (c49 hr12) (by simp[e0,e1,e2]) rfl).mono ?_;rintro _ _ ⟨rfl,rfl⟩;try simp -dsimp -implicitDefEqProofs [e0,e1,e2]
  exact hK _ _ ⟨rfl,rfl⟩
 rintro a σ ⟨rfl,rfl⟩
 refine Ci H (fun H=>?_) fun H=>?_
 ·refine Sx tok [] [4,5] (by
   intro K k
   have e0:=nQ o3 o4
   have e1:=nQ o3 M2
   have e2:=nQ o4 M2
   simp -dsimp -implicitDefEqProofs [e0,e1,e2]
   exact k) ?_
  obtain rfl:=oi H
  refine Kp [4,5] ?_
  have z0:=nQ o3 o4
  have z1:=nQ o3 M2
  have z2:=nQ o4 M2
  refine Wr ?_
  exact⟨[.agg [.fsl [],.fsl [],.fsl [],.int .i64 0,.int .i64 0,.fsl []],.bool false],by simp[z0,z1,z2],4,by simp[eN,z0,z1,z2]⟩
 refine Wsk (Jn hK6 ?_)
 refine Sx tok [] [4,5] (by
  intro K k
  have e0:=nQ o3 o4
  have e1:=nQ o3 M2
  have e2:=nQ o4 M2
  simp -dsimp -implicitDefEqProofs [e0,e1,e2]
  exact k) ?_
 obtain rfl:=oi H
 refine Kp [4,5] ?_
 have z3:=nQ o3 o4
 have z4:=nQ o3 M2
 have z5:=nQ o4 M2
 refine Wr ?_
 exact⟨[.agg [.fsl (eL zA y9.Codes),.sl M2 0 y9.Threads.length,.fsl (eL rBox y9.Boxes),.int .i64 y9.Turn,.int .i64 y9.Idle,.fsl (eL rI y9.Out)],.bool true],by simp[z3,z4,z5],4,by simp[eN,z3,z4,z5]⟩

theorem c73 {p0:List gQuad}{p1:List gQuad}{r:Bool}(H:qV p0 p1=some r):APure Tryz.prog G 73 [.fsl (eL rQuad p0),.fsl (eL rQuad p1)] (.bool r):=by
 refine zE (fun N0=>?_) (by simp)
 refine fnK tok Tryz.func73 Tryz.ntmps73 Tryz.results73 ?_
 simp only[argsA,Nat.reduceAdd,hpN]
 unfold qV at H
 refine S0 tok [] [0,1] ?_
 refine Wsq [0,1] fun K1 hK1=>?_
 refine S0 tok [] [0,1,10] ?_
 refine Ci H (fun H=>?_) fun H=>?_
 ·refine S0 tok [] [4] ?_
  obtain rfl:=oi H;exact Wr ⟨_,rfl,4,by simp[eN]⟩
 refine Wsk (Jn hK1 ?_)
 refine Wsq [] fun K2 hK2=>?_
 refine S0 tok [] [0,1,5] ?_
 refine Wbl (Wth ?_)
 obtain⟨e1,hse1,H⟩:=bE H
 refine zS [0,1,5] (fun s a σ=>∃M1:Nat,N0≤M1∧a=[(0,.fsl (eL rQuad p0)),(1,.fsl (eL rQuad p1)),(5,.int .i64 s)]∧σ=hp E0 [] M1) (fun e x a σ=>match e with|.inl s=>x=.exit 0∧Rc G 26 N0 (fun a σ=>∃M2:Nat,N0≤M2∧a=[]∧σ=hp E0 [] M2) (AAct.keep a []) σ|.inr s=>x=.ret∧∃vs,resA T σ a [.tmp 4]=some vs∧∃d,thawA (fun _=>true) σ d (tupA vs)=.bool s) hse1 ?_ ?_ ?_
 ·refine Rc.kp [0,1,5] [(0,.fsl (eL rQuad p0)),(1,.fsl (eL rQuad p1)),(5,.int .i64 0)] rfl ?_
  exact Rf ⟨N0+7,(by omega),rfl,rfl⟩
 ·clear H hse1
  rintro s1 fl a σ H ⟨M1,fM1_0,rfl,rfl⟩ K3 O3 hK3 hO3
  unfold wE at H;dsimp only at H
  refine Wsq [0,1,5] fun K4 hK4=>?_
  refine S0 tok [] [0,1,5,14] ?_
  refine Ci H (fun H=>?_) fun H=>?_
  ·refine Wsk (Jn hK4 ?_)
   refine Wsq [0,1,5] fun K5 hK5=>?_
   refine Wbl (Wth ?_)
   obtain⟨v2,hv2,H⟩:=bE H
   obtain⟨v3,hv3,H⟩:=bE H
   refine Sd tok tokM [] [] [0,1,2,3,4,5,6,7,8] [0,1,5,25] (by
    intro K k
    simp only[pickL,zO,zQ]
    simp -dsimp -implicitDefEqProofs [ix34 hv2,ix34 hv3]
    exact k) ?_
   refine Ci H (fun H=>?_) fun H=>?_
   ·refine S0 tok [] [4] ?_
    obtain rfl:=oi H
    refine Kp [4] ?_
    refine Wr (hO3 _ _ _ _ rfl ⟨rfl,?_⟩)
    exact⟨[.bool false],by simp,4,by simp[eN]⟩
   refine Wsk (Jn hK5 ?_)
   refine Rt0 tok [] [0,1,5] fun a ha=>?_
   obtain rfl:=oi H
   refine hK3 _ _ _ rfl ?_;rw[ha]
   exact Rf ⟨M1+16,(by omega),rfl,rfl⟩
  obtain rfl:=oi H
  refine zJ (hO3 _ _ _ _ rfl ⟨rfl,?_⟩)
  refine Rc.rw (l:=[]) (X:=[]) rfl ?_
  exact Rf ⟨M1+4,(by omega),rfl,rfl⟩
 intro x a σ hx
 rcases e1 with⟨⟩|r0
 ·obtain⟨rfl,b,τ,hr,M2,fM2_0,rfl,rfl⟩:=hx
  (try dsimp only at H)
  show K2 _ _
  refine hK2 _ _ (zK hr ?_)
  refine Rc.mk ?_
  refine S0 tok [] [4] ?_
  obtain rfl:=oi H;exact Wr ⟨_,rfl,4,by simp[eN]⟩
 obtain⟨rfl,hx2⟩:=hx
 (try dsimp only at H)
 obtain rfl:=oi H;first|exact hx2|(simp only[List.set_set] at hx2 ⊢;exact hx2)

theorem c33 {p0:(List (List gQuad))}{p1:(List (List gQuad))}{r:Bool}(H:tT p0 p1=some r):APure Tryz.prog G 33 [.fsl (eL zA p0),.fsl (eL zA p1)] (.bool r):=by
 refine zE (fun N0=>?_) (by simp)
 refine fnK tok Tryz.func33 Tryz.ntmps33 Tryz.results33 ?_
 simp only[argsA,Nat.reduceAdd,hpN]
 unfold tT at H
 refine S0 tok [] [0,1] ?_
 refine Wsq [0,1] fun K1 hK1=>?_
 refine S0 tok [] [0,1,10] ?_
 refine Ci H (fun H=>?_) fun H=>?_
 ·refine S0 tok [] [4] ?_
  obtain rfl:=oi H;exact Wr ⟨_,rfl,4,by simp[eN]⟩
 refine Wsk (Jn hK1 ?_)
 refine Wsq [] fun K2 hK2=>?_
 refine S0 tok [] [0,1,5] ?_
 refine Wbl (Wth ?_)
 obtain⟨e1,hse1,H⟩:=bE H
 refine zS [0,1,5] (fun s a σ=>∃M1:Nat,N0≤M1∧a=[(0,.fsl (eL zA p0)),(1,.fsl (eL zA p1)),(5,.int .i64 s)]∧σ=hp E0 [] M1) (fun e x a σ=>match e with|.inl s=>x=.exit 0∧Rc G 27 N0 (fun a σ=>∃M2:Nat,N0≤M2∧a=[]∧σ=hp E0 [] M2) (AAct.keep a []) σ|.inr s=>x=.ret∧∃vs,resA T σ a [.tmp 4]=some vs∧∃d,thawA (fun _=>true) σ d (tupA vs)=.bool s) hse1 ?_ ?_ ?_
 ·refine Rc.kp [0,1,5] [(0,.fsl (eL zA p0)),(1,.fsl (eL zA p1)),(5,.int .i64 0)] rfl ?_
  exact Rf ⟨N0+7,(by omega),rfl,rfl⟩
 ·clear H hse1
  rintro s1 fl a σ H ⟨M1,fM1_0,rfl,rfl⟩ K3 O3 hK3 hO3
  unfold jR at H;dsimp only at H
  refine Wsq [0,1,5] fun K4 hK4=>?_
  refine S0 tok [] [0,1,5,14] ?_
  refine Ci H (fun H=>?_) fun H=>?_
  ·refine Wsk (Jn hK4 ?_)
   refine Wsq [0,1,5] fun K5 hK5=>?_
   refine Wbl (Wth ?_)
   obtain⟨v2,hv2,H⟩:=bE H
   obtain⟨v3,hv3,H⟩:=bE H
   obtain⟨r4,hr4,H⟩:=bE H
   refine Sd tok tokM [] [] [0,1,2,3,4,5,6,7,8,9] [0,1,5,26] (by
    intro K k
    simp only[pickL,zO,zQ]
    repeat first|simp -dsimp -implicitDefEqProofs [ix24 hv2,ix24 hv3]|refine Pc.mk (c73 hr4) ?_
    exact k) ?_
   refine Ci H (fun H=>?_) fun H=>?_
   ·refine S0 tok [] [4] ?_
    obtain rfl:=oi H
    refine Kp [4] ?_
    refine Wr (hO3 _ _ _ _ rfl ⟨rfl,?_⟩)
    exact⟨[.bool false],by simp,4,by simp[eN]⟩
   refine Wsk (Jn hK5 ?_)
   refine Rt0 tok [] [0,1,5] fun a ha=>?_
   obtain rfl:=oi H
   refine hK3 _ _ _ rfl ?_;rw[ha]
   exact Rf ⟨M1+17,(by omega),rfl,rfl⟩
  obtain rfl:=oi H
  refine zJ (hO3 _ _ _ _ rfl ⟨rfl,?_⟩)
  refine Rc.rw (l:=[]) (X:=[]) rfl ?_
  exact Rf ⟨M1+4,(by omega),rfl,rfl⟩
 intro x a σ hx
 rcases e1 with⟨⟩|r0
 ·obtain⟨rfl,b,τ,hr,M2,fM2_0,rfl,rfl⟩:=hx
  (try dsimp only at H)
  show K2 _ _
  refine hK2 _ _ (zK hr ?_)
  refine Rc.mk ?_
  refine S0 tok [] [4] ?_
  obtain rfl:=oi H;exact Wr ⟨_,rfl,4,by simp[eN]⟩
 obtain⟨rfl,hx2⟩:=hx
 (try dsimp only at H)
 obtain rfl:=oi H;first|exact hx2|(simp only[List.set_set] at hx2 ⊢;exact hx2)

theorem c39 {p0:List Int}{p1:List Int}{r:Bool}(H:wV p0 p1=some r):APure Tryz.prog G 39 [.fsl (eL rI p0),.fsl (eL rI p1)] (.bool r):=by
 refine zE (fun N0=>?_) (by simp)
 refine fnK tok Tryz.func39 Tryz.ntmps39 Tryz.results39 ?_
 simp only[argsA,Nat.reduceAdd,hpN]
 unfold wV at H
 refine S0 tok [] [0,1] ?_
 refine Wsq [0,1] fun K1 hK1=>?_
 refine S0 tok [] [0,1,10] ?_
 refine Ci H (fun H=>?_) fun H=>?_
 ·refine S0 tok [] [4] ?_
  obtain rfl:=oi H;exact Wr ⟨_,rfl,4,by simp[eN]⟩
 refine Wsk (Jn hK1 ?_)
 refine Wsq [] fun K2 hK2=>?_
 refine S0 tok [] [0,1,5] ?_
 refine Wbl (Wth ?_)
 obtain⟨e1,hse1,H⟩:=bE H
 refine zS [0,1,5] (fun s a σ=>∃M1:Nat,N0≤M1∧a=[(0,.fsl (eL rI p0)),(1,.fsl (eL rI p1)),(5,.int .i64 s)]∧σ=hp E0 [] M1) (fun e x a σ=>match e with|.inl s=>x=.exit 0∧Rc G 26 N0 (fun a σ=>∃M2:Nat,N0≤M2∧a=[]∧σ=hp E0 [] M2) (AAct.keep a []) σ|.inr s=>x=.ret∧∃vs,resA T σ a [.tmp 4]=some vs∧∃d,thawA (fun _=>true) σ d (tupA vs)=.bool s) hse1 ?_ ?_ ?_
 ·refine Rc.kp [0,1,5] [(0,.fsl (eL rI p0)),(1,.fsl (eL rI p1)),(5,.int .i64 0)] rfl ?_
  exact Rf ⟨N0+7,(by omega),rfl,rfl⟩
 ·clear H hse1
  rintro s1 fl a σ H ⟨M1,fM1_0,rfl,rfl⟩ K3 O3 hK3 hO3
  unfold wD at H;dsimp only at H
  refine Wsq [0,1,5] fun K4 hK4=>?_
  refine S0 tok [] [0,1,5,14] ?_
  refine Ci H (fun H=>?_) fun H=>?_
  ·refine Wsk (Jn hK4 ?_)
   refine Wsq [0,1,5] fun K5 hK5=>?_
   refine Wbl (Wth ?_)
   obtain⟨v2,hv2,H⟩:=bE H
   obtain⟨v3,hv3,H⟩:=bE H
   refine Sd tok tokM [] [] [0,1,2,3,4,5,6,7,8] [0,1,5,25] (by
    intro K k
    simp only[pickL,zO,zQ]
    simp -dsimp -implicitDefEqProofs [ix23 hv2,ix23 hv3]
    exact k) ?_
   refine Ci H (fun H=>?_) fun H=>?_
   ·refine S0 tok [] [4] ?_
    obtain rfl:=oi H
    refine Kp [4] ?_
    refine Wr (hO3 _ _ _ _ rfl ⟨rfl,?_⟩)
    exact⟨[.bool false],by simp,4,by simp[eN]⟩
   refine Wsk (Jn hK5 ?_)
   refine Rt0 tok [] [0,1,5] fun a ha=>?_
   obtain rfl:=oi H
   refine hK3 _ _ _ rfl ?_;rw[ha]
   exact Rf ⟨M1+16,(by omega),rfl,rfl⟩
  obtain rfl:=oi H
  refine zJ (hO3 _ _ _ _ rfl ⟨rfl,?_⟩)
  refine Rc.rw (l:=[]) (X:=[]) rfl ?_
  exact Rf ⟨M1+4,(by omega),rfl,rfl⟩
 intro x a σ hx
 rcases e1 with⟨⟩|r0
 ·obtain⟨rfl,b,τ,hr,M2,fM2_0,rfl,rfl⟩:=hx
  (try dsimp only at H)
  show K2 _ _
  refine hK2 _ _ (zK hr ?_)
  refine Rc.mk ?_
  refine S0 tok [] [4] ?_
  obtain rfl:=oi H;exact Wr ⟨_,rfl,4,by simp[eN]⟩
 obtain⟨rfl,hx2⟩:=hx
 (try dsimp only at H)
 obtain rfl:=oi H;first|exact hx2|(simp only[List.set_set] at hx2 ⊢;exact hx2)

theorem c37 {p0:gThread}{p1:gThread}{r:Bool}(H:uD p0 p1=some r):APure Tryz.prog G 37 [.agg [.fsl (eL rI p0.Regs),.int .i64 p0.Pc],.agg [.fsl (eL rI p1.Regs),.int .i64 p1.Pc]] (.bool r):=by
 refine zE (fun N0=>?_) (by simp)
 refine fnK tok Tryz.func37 Tryz.ntmps37 Tryz.results37 ?_
 simp only[argsA,Nat.reduceAdd,hpN]
 unfold uD at H
 refine S0 tok [0,1] [2,3] ?_
 obtain⟨g2,hg2,H⟩:=bE H
 refine Sx tok [] [4] (X:=[(4,.bool g2)]) (Y:=hp E0 [] (N0+16)) (by
  intro K k
  simp -dsimp -implicitDefEqProofs
  cases hbg2:ieq p0.Pc p1.Pc
  ·obtain rfl:=oi (ifF hbg2 hg2)
   try simp -dsimp -implicitDefEqProofs [hbg2]
   exact k
  replace hg2:=ifT hbg2 hg2
  obtain⟨r1,hr1,hg2⟩:=bE hg2
  obtain rfl:=oi hg2
  try simp -dsimp -implicitDefEqProofs [hbg2]
  refine(c39 hr1).app ?_;try simp -dsimp -implicitDefEqProofs [hbg2]
  exact k) ?_
 obtain rfl:=oi H;exact Wr ⟨_,rfl,4,by simp[eN]⟩

theorem c74 {p0:gBox}{p1:gBox}{r:Bool}(H:oP p0 p1=some r):APure Tryz.prog G 74 [.agg [.int .i64 p0.Room,.fsl (eL rI p0.Items)],.agg [.int .i64 p1.Room,.fsl (eL rI p1.Items)]] (.bool r):=by
 refine zE (fun N0=>?_) (by simp)
 refine fnK tok Tryz.func74 Tryz.ntmps74 Tryz.results74 ?_
 simp only[argsA,Nat.reduceAdd,hpN]
 unfold oP at H
 refine S0 tok [0,1] [2,3] ?_
 obtain⟨g2,hg2,H⟩:=bE H
 refine Sx tok [] [4] (X:=[(4,.bool g2)]) (Y:=hp E0 [] (N0+16)) (by
  intro K k
  simp -dsimp -implicitDefEqProofs
  cases hbg2:ieq p0.Room p1.Room
  ·obtain rfl:=oi (ifF hbg2 hg2)
   try simp -dsimp -implicitDefEqProofs [hbg2]
   exact k
  replace hg2:=ifT hbg2 hg2
  obtain⟨r1,hr1,hg2⟩:=bE hg2
  obtain rfl:=oi hg2
  try simp -dsimp -implicitDefEqProofs [hbg2]
  refine(c39 hr1).app ?_;try simp -dsimp -implicitDefEqProofs [hbg2]
  exact k) ?_
 obtain rfl:=oi H;exact Wr ⟨_,rfl,4,by simp[eN]⟩

theorem c38 {p0:List gBox}{p1:List gBox}{r:Bool}(H:tU p0 p1=some r):APure Tryz.prog G 38 [.fsl (eL rBox p0),.fsl (eL rBox p1)] (.bool r):=by
 refine zE (fun N0=>?_) (by simp)
 refine fnK tok Tryz.func38 Tryz.ntmps38 Tryz.results38 ?_
 simp only[argsA,Nat.reduceAdd,hpN]
 unfold tU at H
 refine S0 tok [] [0,1] ?_
 refine Wsq [0,1] fun K1 hK1=>?_
 refine S0 tok [] [0,1,10] ?_
 refine Ci H (fun H=>?_) fun H=>?_
 ·refine S0 tok [] [4] ?_
  obtain rfl:=oi H;exact Wr ⟨_,rfl,4,by simp[eN]⟩
 refine Wsk (Jn hK1 ?_)
 refine Wsq [] fun K2 hK2=>?_
 refine S0 tok [] [0,1,5] ?_
 refine Wbl (Wth ?_)
 obtain⟨e1,hse1,H⟩:=bE H
 refine zS [0,1,5] (fun s a σ=>∃M1:Nat,N0≤M1∧a=[(0,.fsl (eL rBox p0)),(1,.fsl (eL rBox p1)),(5,.int .i64 s)]∧σ=hp E0 [] M1) (fun e x a σ=>match e with|.inl s=>x=.exit 0∧Rc G 27 N0 (fun a σ=>∃M2:Nat,N0≤M2∧a=[]∧σ=hp E0 [] M2) (AAct.keep a []) σ|.inr s=>x=.ret∧∃vs,resA T σ a [.tmp 4]=some vs∧∃d,thawA (fun _=>true) σ d (tupA vs)=.bool s) hse1 ?_ ?_ ?_
 ·refine Rc.kp [0,1,5] [(0,.fsl (eL rBox p0)),(1,.fsl (eL rBox p1)),(5,.int .i64 0)] rfl ?_
  exact Rf ⟨N0+7,(by omega),rfl,rfl⟩
 ·clear H hse1
  rintro s1 fl a σ H ⟨M1,fM1_0,rfl,rfl⟩ K3 O3 hK3 hO3
  unfold jS at H;dsimp only at H
  refine Wsq [0,1,5] fun K4 hK4=>?_
  refine S0 tok [] [0,1,5,14] ?_
  refine Ci H (fun H=>?_) fun H=>?_
  ·refine Wsk (Jn hK4 ?_)
   refine Wsq [0,1,5] fun K5 hK5=>?_
   refine Wbl (Wth ?_)
   obtain⟨v2,hv2,H⟩:=bE H
   obtain⟨v3,hv3,H⟩:=bE H
   obtain⟨r4,hr4,H⟩:=bE H
   refine Sd tok tokM [] [] [0,1,2,3,4,5,6,7,8,9] [0,1,5,26] (by
    intro K k
    simp only[pickL,zO,zQ]
    repeat first|simp -dsimp -implicitDefEqProofs [ix28 hv2,ix28 hv3]|refine Pc.mk (c74 hr4) ?_
    exact k) ?_
   refine Ci H (fun H=>?_) fun H=>?_
   ·refine S0 tok [] [4] ?_
    obtain rfl:=oi H
    refine Kp [4] ?_
    refine Wr (hO3 _ _ _ _ rfl ⟨rfl,?_⟩)
    exact⟨[.bool false],by simp,4,by simp[eN]⟩
   refine Wsk (Jn hK5 ?_)
   refine Rt0 tok [] [0,1,5] fun a ha=>?_
   obtain rfl:=oi H
   refine hK3 _ _ _ rfl ?_;rw[ha]
   exact Rf ⟨M1+17,(by omega),rfl,rfl⟩
  obtain rfl:=oi H
  refine zJ (hO3 _ _ _ _ rfl ⟨rfl,?_⟩)
  refine Rc.rw (l:=[]) (X:=[]) rfl ?_
  exact Rf ⟨M1+4,(by omega),rfl,rfl⟩
 intro x a σ hx
 rcases e1 with⟨⟩|r0
 ·obtain⟨rfl,b,τ,hr,M2,fM2_0,rfl,rfl⟩:=hx
  (try dsimp only at H)
  show K2 _ _
  refine hK2 _ _ (zK hr ?_)
  refine Rc.mk ?_
  refine S0 tok [] [4] ?_
  obtain rfl:=oi H;exact Wr ⟨_,rfl,4,by simp[eN]⟩
 obtain⟨rfl,hx2⟩:=hx
 (try dsimp only at H)
 obtain rfl:=oi H;first|exact hx2|(simp only[List.set_set] at hx2 ⊢;exact hx2)

theorem c22 {p0:gCrew}{p1:gCrew}{r:Bool}(H:qU p0 p1=some r):APure Tryz.prog G 22 [.agg [.fsl (eL zA p0.Codes),.fsl (eL zF p0.Threads),.fsl (eL rBox p0.Boxes),.int .i64 p0.Turn,.int .i64 p0.Idle,.fsl (eL rI p0.Out)],.agg [.fsl (eL zA p1.Codes),.fsl (eL zF p1.Threads),.fsl (eL rBox p1.Boxes),.int .i64 p1.Turn,.int .i64 p1.Idle,.fsl (eL rI p1.Out)]] (.bool r):=by
 refine zE (fun N0=>?_) (by simp)
 refine fnK tok Tryz.func22 Tryz.ntmps22 Tryz.results22 ?_
 simp only[argsA,Nat.reduceAdd,hpN]
 unfold qU at H
 refine S0 tok [0,1] [2,3] ?_
 refine Wsq [2,3] fun K1 hK1=>?_
 obtain⟨g1,hg1,H⟩:=bE H
 obtain⟨g2,hg2,H⟩:=bE H
 refine Sx tok [] [2,3,26] (X:=[(2,.fptr [.fsl (eL zA p0.Codes),.fsl (eL zF p0.Threads),.fsl (eL rBox p0.Boxes),.int .i64 p0.Turn,.int .i64 p0.Idle,.fsl (eL rI p0.Out)] 0),(3,.fptr [.fsl (eL zA p1.Codes),.fsl (eL zF p1.Threads),.fsl (eL rBox p1.Boxes),.int .i64 p1.Turn,.int .i64 p1.Idle,.fsl (eL rI p1.Out)] 0),(26,.bool g2)]) (Y:=hp E0 [] (N0+24)) (by
  intro K k
  simp -dsimp -implicitDefEqProofs
  cases hbg1:ine (ilen p0.Threads) (ilen p1.Threads)
  ·obtain rfl:=oi (ifF hbg1 hg1)
   try simp -dsimp -implicitDefEqProofs [hbg1]
   cases hbg2:(ine p0.Turn p1.Turn)
   ·obtain rfl:=oi (ifF hbg2 hg2)
    try simp -dsimp -implicitDefEqProofs [hbg1,hbg2]
    exact k
   obtain rfl:=oi (ifT hbg2 hg2)
   try simp -dsimp -implicitDefEqProofs [hbg1,hbg2]
   exact k
  obtain rfl:=oi (ifT hbg1 hg1)
  obtain rfl:=oi (ifT rfl hg2)
  try simp -dsimp -implicitDefEqProofs [hbg1]
  exact k) ?_
 refine Ci H (fun H=>?_) fun H=>?_
 ·refine S0 tok [] [4] ?_
  obtain rfl:=oi H;exact Wr ⟨_,rfl,4,by simp[eN]⟩
 refine Wsk (Jn hK1 ?_)
 refine Wsq [2,3] fun K2 hK2=>?_
 refine S0 tok [] [2,3,5] ?_
 refine Wbl (Wth ?_)
 obtain⟨e1,hse1,H⟩:=bE H
 refine zS [2,3,5] (fun s a σ=>∃M1:Nat,N0≤M1∧a=[(2,.fptr [.fsl (eL zA p0.Codes),.fsl (eL zF p0.Threads),.fsl (eL rBox p0.Boxes),.int .i64 p0.Turn,.int .i64 p0.Idle,.fsl (eL rI p0.Out)] 0),(3,.fptr [.fsl (eL zA p1.Codes),.fsl (eL zF p1.Threads),.fsl (eL rBox p1.Boxes),.int .i64 p1.Turn,.int .i64 p1.Idle,.fsl (eL rI p1.Out)] 0),(5,.int .i64 s)]∧σ=hp E0 [] M1) (fun e x a σ=>match e with|.inl s=>x=.exit 0∧Rc G 59 N0 (fun a σ=>∃M2:Nat,N0≤M2∧a=[(2,.fptr [.fsl (eL zA p0.Codes),.fsl (eL zF p0.Threads),.fsl (eL rBox p0.Boxes),.int .i64 p0.Turn,.int .i64 p0.Idle,.fsl (eL rI p0.Out)] 0),(3,.fptr [.fsl (eL zA p1.Codes),.fsl (eL zF p1.Threads),.fsl (eL rBox p1.Boxes),.int .i64 p1.Turn,.int .i64 p1.Idle,.fsl (eL rI p1.Out)] 0)]∧σ=hp E0 [] M2) (AAct.keep a [2,3]) σ|.inr s=>x=.ret∧∃vs,resA T σ a [.tmp 4]=some vs∧∃d,thawA (fun _=>true) σ d (tupA vs)=.bool s) hse1 ?_ ?_ ?_
 ·refine Rc.kp [2,3,5] [(2,.fptr [.fsl (eL zA p0.Codes),.fsl (eL zF p0.Threads),.fsl (eL rBox p0.Boxes),.int .i64 p0.Turn,.int .i64 p0.Idle,.fsl (eL rI p0.Out)] 0),(3,.fptr [.fsl (eL zA p1.Codes),.fsl (eL zF p1.Threads),.fsl (eL rBox p1.Boxes),.int .i64 p1.Turn,.int .i64 p1.Idle,.fsl (eL rI p1.Out)] 0),(5,.int .i64 0)] rfl ?_
  exact Rf ⟨N0+25,(by omega),rfl,rfl⟩
 ·clear H hse1
  rintro s3 fl a σ H ⟨M1,fM1_0,rfl,rfl⟩ K3 O3 hK3 hO3
  unfold wA at H;dsimp only at H
  refine Wsq [2,3,5] fun K4 hK4=>?_
  refine S0 tok [] [2,3,5,31] ?_
  refine Ci H (fun H=>?_) fun H=>?_
  ·refine Wsk (Jn hK4 ?_)
   refine Wsq [2,3,5] fun K5 hK5=>?_
   refine Wbl (Wth ?_)
   obtain⟨v4,hv4,H⟩:=bE H
   obtain⟨v5,hv5,H⟩:=bE H
   refine Sd tok tokM [] [] [0,1,2,3,4,5,6,7,8,9,10,11,12] [2,3,5,46] (by
    intro K k
    simp only[pickL,zO,zQ]
    simp -dsimp -implicitDefEqProofs [ix27 hv4,ix27 hv5]
    exact k) ?_
   refine Ci H (fun H=>?_) fun H=>?_
   ·refine S0 tok [] [4] ?_
    obtain rfl:=oi H
    refine Kp [4] ?_
    refine Wr (hO3 _ _ _ _ rfl ⟨rfl,?_⟩)
    exact⟨[.bool false],by simp,4,by simp[eN]⟩
   refine Wsk (Jn hK5 ?_)
   refine Rt0 tok [] [2,3,5] fun a ha=>?_
   obtain rfl:=oi H
   refine hK3 _ _ _ rfl ?_;rw[ha]
   exact Rf ⟨M1+21,(by omega),rfl,rfl⟩
  obtain rfl:=oi H
  refine zJ (hO3 _ _ _ _ rfl ⟨rfl,?_⟩)
  refine Rc.rw (l:=[2,3]) (X:=[(2,.fptr [.fsl (eL zA p0.Codes),.fsl (eL zF p0.Threads),.fsl (eL rBox p0.Boxes),.int .i64 p0.Turn,.int .i64 p0.Idle,.fsl (eL rI p0.Out)] 0),(3,.fptr [.fsl (eL zA p1.Codes),.fsl (eL zF p1.Threads),.fsl (eL rBox p1.Boxes),.int .i64 p1.Turn,.int .i64 p1.Idle,.fsl (eL rI p1.Out)] 0)]) rfl ?_
  exact Rf ⟨M1+5,(by omega),rfl,rfl⟩
 intro x a σ hx
 rcases e1 with⟨⟩|r0
 ·obtain⟨rfl,b,τ,hr,M2,fM2_0,rfl,rfl⟩:=hx
  (try dsimp only at H)
  show K2 _ _
  refine hK2 _ _ (zK hr ?_)
  refine Rc.mk ?_
  obtain⟨r6,hr6,H⟩:=bE H
  obtain⟨g8,hg8,H⟩:=bE H
  refine Sx tok [] [4] (X:=[(4,.bool g8)]) (Y:=hp E0 [] (M2+13)) (by
   intro K k
   simp -dsimp -implicitDefEqProofs
   refine(c38 hr6).app ?_;try simp -dsimp -implicitDefEqProofs
   cases hbg8:r6
   ·obtain rfl:=oi (ifF hbg8 hg8)
    try simp -dsimp -implicitDefEqProofs [hbg8]
    exact k
   replace hg8:=ifT hbg8 hg8
   obtain⟨r7,hr7,hg8⟩:=bE hg8
   obtain rfl:=oi hg8
   try simp -dsimp -implicitDefEqProofs [hbg8]
   refine(c39 hr7).app ?_;try simp -dsimp -implicitDefEqProofs [hbg8]
   exact k) ?_
  obtain rfl:=oi H;exact Wr ⟨_,rfl,4,by simp[eN]⟩
 obtain⟨rfl,hx2⟩:=hx
 (try dsimp only at H)
 obtain rfl:=oi H;first|exact hx2|(simp only[List.set_set] at hx2 ⊢;exact hx2)

theorem c16 {p0:gCrew}{p1:gCrew}{r:Bool}(H:tS p0 p1=some r):APure Tryz.prog G 16 [.agg [.fsl (eL zA p0.Codes),.fsl (eL zF p0.Threads),.fsl (eL rBox p0.Boxes),.int .i64 p0.Turn,.int .i64 p0.Idle,.fsl (eL rI p0.Out)],.agg [.fsl (eL zA p1.Codes),.fsl (eL zF p1.Threads),.fsl (eL rBox p1.Boxes),.int .i64 p1.Turn,.int .i64 p1.Idle,.fsl (eL rI p1.Out)]] (.bool r):=by
 refine zE (fun N0=>?_) (by simp)
 refine fnK tok Tryz.func16 Tryz.ntmps16 Tryz.results16 ?_
 simp only[argsA,Nat.reduceAdd,hpN]
 unfold tS at H
 refine S0 tok [0,1] [2,3] ?_
 refine Wsq [2,3] fun K1 hK1=>?_
 refine S0 tok [] [2,3,12] ?_
 refine Ci H (fun H=>?_) fun H=>?_
 ·refine S0 tok [] [4] ?_
  obtain rfl:=oi H;exact Wr ⟨_,rfl,4,by simp[eN]⟩
 refine Wsk (Jn hK1 ?_)
 refine Wsq [2,3] fun K2 hK2=>?_
 refine S0 tok [] [2,3,5] ?_
 refine Wbl (Wth ?_)
 obtain⟨e1,hse1,H⟩:=bE H
 refine zS [2,3,5] (fun s a σ=>∃M1:Nat,N0≤M1∧a=[(2,.fptr [.fsl (eL zA p0.Codes),.fsl (eL zF p0.Threads),.fsl (eL rBox p0.Boxes),.int .i64 p0.Turn,.int .i64 p0.Idle,.fsl (eL rI p0.Out)] 0),(3,.fptr [.fsl (eL zA p1.Codes),.fsl (eL zF p1.Threads),.fsl (eL rBox p1.Boxes),.int .i64 p1.Turn,.int .i64 p1.Idle,.fsl (eL rI p1.Out)] 0),(5,.int .i64 s)]∧σ=hp E0 [] M1) (fun e x a σ=>match e with|.inl s=>x=.exit 0∧Rc G 35 N0 (fun a σ=>∃M2:Nat,N0≤M2∧a=[(2,.fptr [.fsl (eL zA p0.Codes),.fsl (eL zF p0.Threads),.fsl (eL rBox p0.Boxes),.int .i64 p0.Turn,.int .i64 p0.Idle,.fsl (eL rI p0.Out)] 0),(3,.fptr [.fsl (eL zA p1.Codes),.fsl (eL zF p1.Threads),.fsl (eL rBox p1.Boxes),.int .i64 p1.Turn,.int .i64 p1.Idle,.fsl (eL rI p1.Out)] 0)]∧σ=hp E0 [] M2) (AAct.keep a [2,3]) σ|.inr s=>x=.ret∧∃vs,resA T σ a [.tmp 4]=some vs∧∃d,thawA (fun _=>true) σ d (tupA vs)=.bool s) hse1 ?_ ?_ ?_
 ·refine Rc.kp [2,3,5] [(2,.fptr [.fsl (eL zA p0.Codes),.fsl (eL zF p0.Threads),.fsl (eL rBox p0.Boxes),.int .i64 p0.Turn,.int .i64 p0.Idle,.fsl (eL rI p0.Out)] 0),(3,.fptr [.fsl (eL zA p1.Codes),.fsl (eL zF p1.Threads),.fsl (eL rBox p1.Boxes),.int .i64 p1.Turn,.int .i64 p1.Idle,.fsl (eL rI p1.Out)] 0),(5,.int .i64 0)] rfl ?_
  exact Rf ⟨N0+11,(by omega),rfl,rfl⟩
 ·clear H hse1
  rintro s1 fl a σ H ⟨M1,fM1_0,rfl,rfl⟩ K3 O3 hK3 hO3
  unfold jQ at H;dsimp only at H
  refine Wsq [2,3,5] fun K4 hK4=>?_
  refine S0 tok [] [2,3,5,17] ?_
  refine Ci H (fun H=>?_) fun H=>?_
  ·refine Wsk (Jn hK4 ?_)
   refine Wsq [2,3,5] fun K5 hK5=>?_
   refine Wbl (Wth ?_)
   obtain⟨v2,hv2,H⟩:=bE H
   obtain⟨v3,hv3,H⟩:=bE H
   obtain⟨r4,hr4,H⟩:=bE H
   refine Sd tok tokM [] [] [0,1,2,3,4,5,6,7,8,9,10,11] [2,3,5,31] (by
    intro K k
    simp only[pickL,zO,zQ]
    repeat first|simp -dsimp -implicitDefEqProofs [ix27 hv2,ix27 hv3]|refine Pc.mk (c37 hr4) ?_
    exact k) ?_
   refine Ci H (fun H=>?_) fun H=>?_
   ·refine S0 tok [] [4] ?_
    obtain rfl:=oi H
    refine Kp [4] ?_
    refine Wr (hO3 _ _ _ _ rfl ⟨rfl,?_⟩)
    exact⟨[.bool false],by simp,4,by simp[eN]⟩
   refine Wsk (Jn hK5 ?_)
   refine Rt0 tok [] [2,3,5] fun a ha=>?_
   obtain rfl:=oi H
   refine hK3 _ _ _ rfl ?_;rw[ha]
   exact Rf ⟨M1+20,(by omega),rfl,rfl⟩
  obtain rfl:=oi H
  refine zJ (hO3 _ _ _ _ rfl ⟨rfl,?_⟩)
  refine Rc.rw (l:=[2,3]) (X:=[(2,.fptr [.fsl (eL zA p0.Codes),.fsl (eL zF p0.Threads),.fsl (eL rBox p0.Boxes),.int .i64 p0.Turn,.int .i64 p0.Idle,.fsl (eL rI p0.Out)] 0),(3,.fptr [.fsl (eL zA p1.Codes),.fsl (eL zF p1.Threads),.fsl (eL rBox p1.Boxes),.int .i64 p1.Turn,.int .i64 p1.Idle,.fsl (eL rI p1.Out)] 0)]) rfl ?_
  exact Rf ⟨M1+5,(by omega),rfl,rfl⟩
 intro x a σ hx
 rcases e1 with⟨⟩|r0
 ·obtain⟨rfl,b,τ,hr,M2,fM2_0,rfl,rfl⟩:=hx
  (try dsimp only at H)
  show K2 _ _
  refine hK2 _ _ (zK hr ?_)
  refine Rc.mk ?_
  obtain⟨r5,hr5,H⟩:=bE H
  refine Sx tok [] [4] (by intro K k;(repeat first|simp -dsimp -implicitDefEqProofs|refine(c22 hr5).app ?_);exact k) ?_
  obtain rfl:=oi H;exact Wr ⟨_,rfl,4,by simp[eN]⟩
 obtain⟨rfl,hx2⟩:=hx
 (try dsimp only at H)
 obtain rfl:=oi H;first|exact hx2|(simp only[List.set_set] at hx2 ⊢;exact hx2)

theorem c15 {p0:gCrew}{p1:gCrew}{r:Bool}(H:xE p0 p1=some r):APure Tryz.prog G 15 [.agg [.fsl (eL zA p0.Codes),.fsl (eL zF p0.Threads),.fsl (eL rBox p0.Boxes),.int .i64 p0.Turn,.int .i64 p0.Idle,.fsl (eL rI p0.Out)],.agg [.fsl (eL zA p1.Codes),.fsl (eL zF p1.Threads),.fsl (eL rBox p1.Boxes),.int .i64 p1.Turn,.int .i64 p1.Idle,.fsl (eL rI p1.Out)]] (.bool r):=by
 refine zE (fun N0=>?_) (by simp)
 refine fnK tok Tryz.func15 Tryz.ntmps15 Tryz.results15 ?_
 simp only[argsA,Nat.reduceAdd,hpN]
 unfold xE at H
 refine S0 tok [0,1] [2,3] ?_
 obtain⟨r1,hr1,H⟩:=bE H
 obtain⟨g3,hg3,H⟩:=bE H
 refine Sx tok [] [4] (X:=[(4,.bool g3)]) (Y:=hp E0 [] (N0+14)) (by
  intro K k
  simp -dsimp -implicitDefEqProofs
  refine(c33 hr1).app ?_;try simp -dsimp -implicitDefEqProofs
  cases hbg3:r1
  ·obtain rfl:=oi (ifF hbg3 hg3)
   try simp -dsimp -implicitDefEqProofs [hbg3]
   exact k
  replace hg3:=ifT hbg3 hg3
  obtain⟨r2,hr2,hg3⟩:=bE hg3
  obtain rfl:=oi hg3
  try simp -dsimp -implicitDefEqProofs [hbg3]
  refine(c16 hr2).app ?_;try simp -dsimp -implicitDefEqProofs [hbg3]
  exact k) ?_
 obtain rfl:=oi H;exact Wr ⟨_,rfl,4,by simp[eN]⟩

theorem c110 {p0:Bool}{r:Int}(H:i_truth p0=some r):APure Tryz.prog G 110 [.bool p0] (.int .i64 r):=by
 refine zE (fun N0=>?_) (by simp)
 refine fnK tok Tryz.func110 Tryz.ntmps110 Tryz.results110 ?_
 simp only[argsA,Nat.reduceAdd,hpN]
 unfold i_truth at H
 refine S0 tok [] [0] ?_
 refine Wsq [] fun K1 hK1=>?_
 refine S0 tok [] [3] ?_
 refine Ci H (fun H=>?_) fun H=>?_
 ·refine S0 tok [] [2] ?_
  obtain rfl:=oi H;exact Wr ⟨_,rfl,4,by simp[eN]⟩
 refine Wsk (Jn hK1 ?_)
 refine S0 tok [] [2] ?_
 obtain rfl:=oi H;exact Wr ⟨_,rfl,4,by simp[eN]⟩

theorem c21 {p0:Int}{r:Int}(H:gH p0=some r):APure Tryz.prog G 21 [.int .i64 p0] (.int .i64 r):=by
 refine zE (fun N0=>?_) (by simp)
 refine fnK tok Tryz.func21 Tryz.ntmps21 Tryz.results21 ?_
 simp only[argsA,Nat.reduceAdd,hpN]
 unfold gH at H
 refine S0 tok [] [0] ?_
 refine S0 tok [] [2] ?_
 obtain rfl:=oi H;exact Wr ⟨_,rfl,4,by simp[eN]⟩

theorem c85 {p0:Int}{p1:Int}{p2:Int}{r:Int}(H:pZ p0 p1 p2=some r):APure Tryz.prog G 85 [.int .i64 p0,.int .i64 p1,.int .i64 p2] (.int .i64 r):=by
 refine zE (fun N0=>?_) (by simp)
 refine fnK tok Tryz.func85 Tryz.ntmps85 Tryz.results85 ?_
 simp only[argsA,Nat.reduceAdd,hpN]
 unfold pZ at H
 refine S0 tok [] [0,1,2] ?_
 refine Wsq [1,2] fun K1 hK1=>?_
 refine S0 tok [] [1,2,7] ?_
 refine Wbl (Wth ?_)
 refine S0 tok [] [1,2,7,8] ?_
 refine Ci H (fun H=>?_) fun H=>?_
 ·refine S0 tok [] [6] ?_
  obtain rfl:=oi H;exact Wr ⟨_,rfl,4,by simp[eN]⟩
 refine S0 tok [] [1,2,7,13] ?_
 refine Ci H (fun H=>?_) fun H=>?_
 ·refine S0 tok [] [6] ?_
  obtain rfl:=oi H;exact Wr ⟨_,rfl,4,by simp[eN]⟩
 refine S0 tok [] [1,2,7,18] ?_
 refine Ci H (fun H=>?_) fun H=>?_
 ·refine S0 tok [] [6] ?_
  obtain rfl:=oi H;exact Wr ⟨_,rfl,4,by simp[eN]⟩
 refine S0 tok [] [1,2,7,23] ?_
 refine Ci H (fun H=>?_) fun H=>?_
 ·obtain⟨r1,hr1,H⟩:=bE H
  refine Sx tok [] [6] (by intro K k;(repeat first|simp -dsimp -implicitDefEqProofs|refine(c110 hr1).app ?_);exact k) ?_
  obtain rfl:=oi H;exact Wr ⟨_,rfl,4,by simp[eN]⟩
 refine S0 tok [] [1,2,7,29] ?_
 refine Ci H (fun H=>?_) fun H=>?_
 ·obtain⟨r2,hr2,H⟩:=bE H
  refine Sx tok [] [6] (by intro K k;(repeat first|simp -dsimp -implicitDefEqProofs|refine(c110 hr2).app ?_);exact k) ?_
  obtain rfl:=oi H;exact Wr ⟨_,rfl,4,by simp[eN]⟩
 refine S0 tok [] [1,2,7,35] ?_
 refine Ci H (fun H=>?_) fun H=>?_
 ·obtain⟨v3,hv3,H⟩:=bE H
  obtain⟨r4,hr4,H⟩:=bE H
  refine Sx tok [] [6] (by intro K k;(repeat first|simp -dsimp -implicitDefEqProofs [hv3]|refine(c21 hr4).app ?_);exact k) ?_
  obtain rfl:=oi H;exact Wr ⟨_,rfl,4,by simp[eN]⟩
 refine S0 tok [] [1,2,7,42] ?_
 refine Ci H (fun H=>?_) fun H=>?_
 ·obtain⟨v5,hv5,H⟩:=bE H
  refine Sx tok [] [6] (by intro K k;simp -dsimp -implicitDefEqProofs [hv5];exact k) ?_
  obtain rfl:=oi H;exact Wr ⟨_,rfl,4,by simp[eN]⟩
 refine S0 tok [] [1,2,7,48] ?_
 refine Ci H (fun H=>?_) fun H=>?_
 ·obtain⟨r6,hr6,H⟩:=bE H
  refine Sx tok [] [6] (by intro K k;(repeat first|simp -dsimp -implicitDefEqProofs|refine(c21 hr6).app ?_);exact k) ?_
  obtain rfl:=oi H;exact Wr ⟨_,rfl,4,by simp[eN]⟩
 refine S0 tok [] [1,2,7,54] ?_
 refine Ci H (fun H=>?_) fun H=>?_
 ·obtain⟨r7,hr7,H⟩:=bE H
  refine Sx tok [] [6] (by intro K k;(repeat first|simp -dsimp -implicitDefEqProofs|refine(c21 hr7).app ?_);exact k) ?_
  obtain rfl:=oi H;exact Wr ⟨_,rfl,4,by simp[eN]⟩
 refine S0 tok [] [1,2,7,60] ?_
 refine Ci H (fun H=>?_) fun H=>?_
 ·obtain⟨r8,hr8,H⟩:=bE H
  refine Sx tok [] [6] (by intro K k;(repeat first|simp -dsimp -implicitDefEqProofs|refine(c21 hr8).app ?_);exact k) ?_
  obtain rfl:=oi H;exact Wr ⟨_,rfl,4,by simp[eN]⟩
 refine S0 tok [] [1,2,66] ?_
 refine Ci H (fun H=>?_) fun H=>?_
 ·refine Wsq [1,2] fun K2 hK2=>?_
  refine S0 tok [] [1,2,69] ?_
  refine Ci H (fun H=>?_) fun H=>?_
  ·refine S0 tok [] [6] ?_
   obtain rfl:=oi H;exact Wr ⟨_,rfl,4,by simp[eN]⟩
  refine Wsk (Jn hK2 ?_)
  obtain⟨v9,hv9,H⟩:=bE H
  obtain⟨r10,hr10,H⟩:=bE H
  refine Sx tok [] [6] (by intro K k;(repeat first|simp -dsimp -implicitDefEqProofs [hv9]|refine(c21 hr10).app ?_);exact k) ?_
  obtain rfl:=oi H;exact Wr ⟨_,rfl,4,by simp[eN]⟩
 refine Wsk (Jn hK1 ?_)
 refine Wsq [1,2] fun K3 hK3=>?_
 refine S0 tok [] [1,2,75] ?_
 refine Ci H (fun H=>?_) fun H=>?_
 ·refine S0 tok [] [6] ?_
  obtain rfl:=oi H;exact Wr ⟨_,rfl,4,by simp[eN]⟩
 refine Wsk (Jn hK3 ?_)
 obtain⟨v11,hv11,H⟩:=bE H
 refine Sx tok [] [6] (by intro K k;simp -dsimp -implicitDefEqProofs [hv11];exact k) ?_
 obtain rfl:=oi H;exact Wr ⟨_,rfl,4,by simp[eN]⟩

theorem c86 {p0:gBox}{p1:Int}{r:Bool×gBox}(H:oS p0 p1=some r){σ:AHeap}{w0:Nat}{W0:List (List AV)}{r0_:Nat}(q0:σ.objs w0=some ⟨103,2,W0⟩)(g0:W0[r0_]? =some [.int .i64 p0.Room,.osl 3 1 (eL rI p0.Items)]):ACalls Tryz.prog G 86 [.ptr w0 r0_ 0,.int .i64 p1] σ (fun v σ'=>∃M:Nat,σ.next≤M∧v=.bool r.1∧σ'=hp σ.objs [(w0,some ⟨103,2,W0.set r0_ [.int .i64 r.2.Room,.osl 3 1 (eL rI r.2.Items)]⟩)] M):=by
 refine fr1 ([(w0,some ⟨103,2,W0⟩)]) (by simp[q0]) (fun hlt=>?_) ⟨_,Tryz.func86,rfl,rfl⟩
 generalize σ.next=N0 at hlt ⊢
 have lw0:w0<N0:=hlt _ (.head _) rfl
 have gs_W0:∀x,(W0.set r0_ x)[r0_]? =some x:=gsetW g0
 rw[← kH g0]
 refine fnK tok Tryz.func86 Tryz.ntmps86 Tryz.results86 ?_
 simp only[argsA,Nat.reduceAdd,hpN]
 unfold oS at H
 refine Sx tok [] [0,1] (by intro K k;simp -dsimp -implicitDefEqProofs [gs_W0];exact k) ?_
 refine Wsq [0,1] fun K1 hK1=>?_
 refine gU Wre w0 r0_ 1 ?_ (hr:=by exact gs_W0 _)
 refine Sd tok tokM [] [3,8] [0,1,2,5,6,7,3,4,8,9] [0,1,14] (by
  intro K k
  have e0:=nQ w0 (N0+1)
  simp only[pickL,zO,zQ]
  simp -dsimp -implicitDefEqProofs [e0,gs_W0]
  exact k) ?_
 refine Ci H (fun H=>?_) fun H=>?_
 ·refine Sx tok [] [4] (by
   intro K k
   have e0:=nQ w0 (N0+1)
   simp -dsimp -implicitDefEqProofs [e0,gs_W0]
   exact k) ?_
  obtain rfl:=oi H
  refine Kp [4] ?_
  refine gP Wre w0 r0_ 1 ?_ (hr:=by exact gs_W0 _)
  refine Wr ?_
  refine⟨[.bool false],by simp[gs_W0],N0+13,by omega,?_,?_⟩
  ·simp[eN]
  first|rfl|simp
 refine Wsk (Jn hK1 ?_)
 obtain⟨l1,hl1,H⟩:=bE H
 have q0:∀σ i,bsA T 23 true i 1 [(0,.int .i64 p1)] σ=some (.fsl (eL rI ([p1]:List Int)),σ):=fun _ _=>rfl
 refine Sx tok [6] [] (by
  intro K k
  have e0:=nQ w0 (N0+1)
  have e1:=nQ w0 (N0+19)
  simp -dsimp -implicitDefEqProofs [e0,e1,gs_W0,q0,app23 hl1]
  exact k) ?_
 refine Sx tok [] [4] (by
  intro K k
  have e0:=nQ w0 (N0+19)
  simp -dsimp -implicitDefEqProofs [e0,gs_W0]
  exact k) ?_
 obtain rfl:=oi H
 refine Kp [4] ?_
 refine gP Wre w0 r0_ 1 ?_ (hr:=by exact gs_W0 _)
 refine Wr ?_
 refine⟨[.bool true],by simp[gs_W0],N0+24,by omega,?_,?_⟩
 ·simp[eN]
 first|rfl|simp

theorem c87 {p0:gBox}{r:Int×Bool×gBox}(H:pB p0=some r){σ:AHeap}{w0:Nat}{W0:List (List AV)}{r0_:Nat}(q0:σ.objs w0=some ⟨103,2,W0⟩)(g0:W0[r0_]? =some [.int .i64 p0.Room,.osl 3 1 (eL rI p0.Items)]):ACalls Tryz.prog G 87 [.ptr w0 r0_ 0] σ (fun v σ'=>∃M:Nat,σ.next≤M∧v=.tup [.int .i64 r.1,.bool r.2.1]∧σ'=hp σ.objs [(w0,some ⟨103,2,W0.set r0_ [.int .i64 r.2.2.Room,.osl 3 1 (eL rI r.2.2.Items)]⟩)] M):=by
 refine fr1 ([(w0,some ⟨103,2,W0⟩)]) (by simp[q0]) (fun hlt=>?_) ⟨_,Tryz.func87,rfl,rfl⟩
 generalize σ.next=N0 at hlt ⊢
 have lw0:w0<N0:=hlt _ (.head _) rfl
 have gs_W0:∀x,(W0.set r0_ x)[r0_]? =some x:=gsetW g0
 rw[← kH g0]
 refine fnK tok Tryz.func87 Tryz.ntmps87 Tryz.results87 ?_
 simp only[argsA,Nat.reduceAdd,hpN]
 unfold pB at H
 refine Sx tok [] [0] (by intro K k;simp -dsimp -implicitDefEqProofs (maxDischargeDepth:=6) [gs_W0];exact k) ?_
 refine Wsq [0] fun K1 hK1=>?_
 refine gU Wre w0 r0_ 1 ?_ (hr:=by exact gs_W0 _)
 refine Sx tok [] [0,10] (by
  intro K k
  have e0:=nQ w0 (N0+2)
  simp -dsimp -implicitDefEqProofs (maxDischargeDepth:=6) [e0,gs_W0]
  exact k) ?_
 refine Ci H (fun H=>?_) fun H=>?_
 ·refine Sx tok [] [2,3] (by
   intro K k
   have e0:=nQ w0 (N0+2)
   simp -dsimp -implicitDefEqProofs (maxDischargeDepth:=6) [e0,gs_W0]
   exact k) ?_
  obtain rfl:=oi H
  refine Kp [2,3] ?_
  refine gP Wre w0 r0_ 1 ?_ (hr:=by exact gs_W0 _)
  refine Wr ?_
  refine⟨[.int .i64 0,.bool false],by simp[gs_W0],N0+11,by omega,?_,?_⟩
  ·simp[eN]
  first|rfl|simp
 refine Wsk (Jn hK1 ?_)
 obtain⟨v1,hv1,H⟩:=bE H
 refine Sx tok [] [0,4] (by
  intro K k
  have e0:=nQ w0 (N0+2)
  simp -dsimp -implicitDefEqProofs (maxDischargeDepth:=6) [e0,gs_W0,ixo23 hv1,(show _[0]? =some v1 from(zG hv1).2.2)]
  exact k) ?_
 obtain⟨l2,hl2,H⟩:=bE H
 obtain⟨l3,hl3,H⟩:=bE H
 obtain⟨l4,hl4,H⟩:=bE H
 refine Sd tok tokM [] [4,5,9,10,11,14] [0,1,2,3,6,7,8,4,5,9,10,11,12,13,14] [4] (by
  intro K k
  have e0:=nQ w0 (N0+2)
  have e1:=nQ w0 (N0+27)
  simp only[pickL,zO,zQ]
  simp -dsimp -implicitDefEqProofs (maxDischargeDepth:=6) [e0,e1,gs_W0,cutoh_23 hl2,cutol_23 hl3,appv23 hl2 hl4,srcvn23 1 hl3 rfl]
  exact k) ?_
 refine Sx tok [] [2,3] (by
  intro K k
  have e0:=nQ w0 (N0+27)
  simp -dsimp -implicitDefEqProofs (maxDischargeDepth:=6) [e0,gs_W0]
  exact k) ?_
 obtain rfl:=oi H
 refine Kp [2,3] ?_
 refine gP Wre w0 r0_ 1 ?_ (hr:=by exact gs_W0 _)
 refine Wr ?_
 refine⟨[.int .i64 v1,.bool true],by simp[gs_W0],N0+34,by omega,?_,?_⟩
 ·simp[eN]
 first|rfl|simp

theorem c58 {p0:gThread}{p1:List gQuad}{p2:List gBox}{p3:List Int}{r:Int×gThread×(List gBox)×(List Int)}(H:wJ p0 p1 p2 p3=some r){σ:AHeap}{w0:Nat}{W0:List (List AV)}{r0_:Nat}{w2:Nat}{w3:Nat}{W3:List (List AV)}{r3_:Nat}{x3_:List AV}{i3_:Nat}{t3_ s3_:Nat}(q0:σ.objs w0=some ⟨42,2,W0⟩)(g0:W0[r0_]? =some [.osl 3 1 (eL rI p0.Regs),.int .i64 p0.Pc])(q2:σ.objs w2=some ⟨103,2,eL kB p2⟩)(q3:σ.objs w3=some ⟨t3_,s3_,W3⟩)(g3:W3[r3_]? =some x3_)(k3:x3_[i3_]? =some (.osl 3 1 (eL rI p3)))(d0_1:¬w0=w2)(d0_2:¬w0=w3)(d1_2:¬w2=w3):ACalls Tryz.prog G 58 [.ptr w0 r0_ 0,.fsl (eL rQuad p1),.sl w2 0 p2.length,.ptr w3 r3_ i3_] σ (fun v σ'=>∃M:Nat,σ.next≤M∧r.2.2.1.length=p2.length∧v=.int .i64 r.1∧σ'=hp σ.objs [(w0,some ⟨42,2,W0.set r0_ [.osl 3 1 (eL rI r.2.1.Regs),.int .i64 r.2.1.Pc]⟩),(w2,some ⟨103,2,eL kB r.2.2.1⟩),(w3,some ⟨t3_,s3_,W3.set r3_ (x3_.set i3_ (.osl 3 1 (eL rI r.2.2.2)))⟩)] M):=by
 refine wM (L:=[(w0,some ⟨42,2,W0⟩),(w2,some ⟨103,2,eL kB p2⟩),(w3,some ⟨t3_,s3_,W3⟩)]) (Q1:=fun v σ'=>∃M:Nat,σ.next≤M∧r.2.2.1.length=p2.length∧v=.int .i64 r.1∧σ'=hp E0 [(w0,some ⟨42,2,W0.set r0_ [.osl 3 1 (eL rI r.2.1.Regs),.int .i64 r.2.1.Pc]⟩),(w2,some ⟨103,2,eL kB r.2.2.1⟩),(w3,some ⟨t3_,s3_,W3.set r3_ (x3_.set i3_ (.osl 3 1 (eL rI r.2.2.2)))⟩)] M) (by simp[q0,q2,q3]) (fun hlt=>?_) ?_ ⟨_,Tryz.func58,rfl,rfl⟩
 rotate_left
 ·rintro v σ1 ⟨M,h0,h1,rfl,rfl⟩
  exact⟨_,M,rfl,by simp,by simp;try omega,M,h0,h1,rfl,rfl⟩
 generalize σ.next=N0 at hlt ⊢
 have lw0:w0<N0:=hlt _ (.head _) rfl
 have lw2:w2<N0:=hlt _ (.tail _ (.head _)) rfl
 have lw3:w3<N0:=hlt _ (.tail _ (.tail _ (.head _))) rfl
 have gs_W0:∀x,(W0.set r0_ x)[r0_]? =some x:=gsetW g0
 rw[← kH g0]
 have gs_W3:∀x,(W3.set r3_ x)[r3_]? =some x:=gsetW g3
 have gs_x3_:∀x,(x3_.set i3_ x)[i3_]? =some x:=gsetC k3
 have ws_x3_:=winS k3
 have wl_x3_:=winL k3
 rw[show W3=W3.set r3_ (x3_.set i3_ (.osl 3 1 (eL rI p3))) from by rw[kH k3,kH g3]]
 refine fnK tok Tryz.func58 Tryz.ntmps58 Tryz.results58 ?_
 simp only[argsA,Nat.reduceAdd,hpN]
 unfold wJ at H
 refine Sx tok [] [0,1,2,3] (by
  intro K k
  have e0:=nQ w0 w2
  have e1:=nQ w0 w3
  have e2:=nQ w2 w3
  simp -dsimp -implicitDefEqProofs [e0,e1,e2,gs_W0,gs_W3,gs_x3_,ws_x3_,wl_x3_]
  exact k) ?_
 obtain⟨v1,hv1,H⟩:=bE H
 refine Sx tok [] [0,2,3,9] (by
  intro K k
  have e0:=nQ w0 w2
  have e1:=nQ w0 w3
  have e2:=nQ w0 (N0+8)
  have e3:=nQ w2 w3
  have e4:=nQ w2 (N0+8)
  have e5:=nQ w3 (N0+8)
  simp -dsimp -implicitDefEqProofs [e0,e1,e2,e3,e4,e5,gs_W0,gs_W3,gs_x3_,ws_x3_,wl_x3_,ix34 hv1]
  exact k) ?_
 refine Sx tok [] [0,2,3,9,10] (by
  intro K k
  have e0:=nQ w0 w2
  have e1:=nQ w0 w3
  have e2:=nQ w0 (N0+8)
  have e3:=nQ w2 w3
  have e4:=nQ w2 (N0+8)
  have e5:=nQ w3 (N0+8)
  simp -dsimp -implicitDefEqProofs [e0,e1,e2,e3,e4,e5,gs_W0,gs_W3,gs_x3_,ws_x3_,wl_x3_]
  exact k) ?_
 obtain⟨flj1,hflj1,H⟩:=bE H
 refine kR (kQ fun K1 hK1=>?_)
 have hJ1:∀(j1:Int×gThread×(List gBox)×(List Int)) a σ,flj1=.next j1→Rc G 165 N0 (fun a σ=>∃M1:Nat,N0≤M1∧j1.2.2.1.length=p2.length∧a=[(0,.ptr w0 r0_ 0),(10,.int .i64 j1.1)]∧σ=hp E0 [(w0,some ⟨42,2,W0.set r0_ [.osl 3 1 (eL rI j1.2.1.Regs),.int .i64 j1.2.1.Pc]⟩),(w2,some ⟨103,2,eL kB j1.2.2.1⟩),(w3,some ⟨t3_,s3_,W3.set r3_ (x3_.set i3_ (.osl 3 1 (eL rI j1.2.2.2)))⟩)] M1) (AAct.keep a [0,10]) σ→K1 a σ:=by
  rintro j1 a σ hfl ⟨b,τ,hr,M1,fM1_0,fM1_1,rfl,rfl⟩
  subst hfl;dsimp only at H
  refine hK1 _ _ (kI [0,10] (Wre hr ?_))
  refine Sx tok [] [] (by
   intro K k
   have e0:=nQ w0 w2
   have e1:=nQ w0 w3
   have e2:=nQ w2 w3
   simp -dsimp -implicitDefEqProofs [e0,e1,e2,gs_W0,gs_W3,gs_x3_,ws_x3_,wl_x3_]
   exact k) ?_
  refine Sx tok [] [8] (by
   intro K k
   have e0:=nQ w0 w2
   have e1:=nQ w0 w3
   have e2:=nQ w2 w3
   simp -dsimp -implicitDefEqProofs [e0,e1,e2,gs_W0,gs_W3,gs_x3_,ws_x3_,wl_x3_]
   exact k) ?_
  obtain rfl:=oi H
  refine Kp [8] ?_
  have z0:=nQ w0 w2
  have z1:=nQ w0 w3
  have z2:=nQ w2 w3
  refine Wr ?_
  refine⟨[.int .i64 1],by simp[z0,z1,z2,gs_W0,gs_W3,gs_x3_,ws_x3_,wl_x3_],M1+6,by omega,by first|rfl|exact fM1_1|omega,?_,?_⟩
  ·simp[eN]
  first|rfl|simp
 have Gj1:=H;replace H:=hflj1
 refine Sx tok [] [0,2,3,9,10,26] (by
  intro K k
  have e0:=nQ w0 w2
  have e1:=nQ w0 w3
  have e2:=nQ w0 (N0+8)
  have e3:=nQ w2 w3
  have e4:=nQ w2 (N0+8)
  have e5:=nQ w3 (N0+8)
  simp -dsimp -implicitDefEqProofs [e0,e1,e2,e3,e4,e5,gs_W0,gs_W3,gs_x3_,ws_x3_,wl_x3_]
  exact k) ?_
 refine Wbl (Wth ?_)
 refine Sx tok [] [0,2,3,9,10,26,27] (by
  intro K k
  have e0:=nQ w0 w2
  have e1:=nQ w0 w3
  have e2:=nQ w0 (N0+8)
  have e3:=nQ w2 w3
  have e4:=nQ w2 (N0+8)
  have e5:=nQ w3 (N0+8)
  simp -dsimp -implicitDefEqProofs [e0,e1,e2,e3,e4,e5,gs_W0,gs_W3,gs_x3_,ws_x3_,wl_x3_]
  exact k) ?_
 refine Ci H (fun H=>?_) fun H=>?_
 ·refine gU Wre w0 r0_ 0 ?_ (hr:=by exact gs_W0 _)
  obtain⟨v6,hv6,H⟩:=bE H
  obtain⟨l7,hl7,H⟩:=bE H
  refine mQ tok tokM [] [3,5,7,8,9] [0,1,2,4,6,3,5,7,8,9] [0,10] (fun a σ=>a=[(0,.ptr w0 r0_ 0),(10,.int .i64 (iadd .i64 p0.Pc 1))]∧σ=hp E0 [(w0,some ⟨42,2,W0.set r0_ [.sl (N0+20) 0 p0.Regs.length,.int .i64 p0.Pc]⟩),(w2,some ⟨103,2,eL kB p2⟩),(w3,some ⟨t3_,s3_,W3.set r3_ (x3_.set i3_ (.osl 3 1 (eL rI p3)))⟩),(N0+8,some ⟨36,5,[[.int .i64 v1.Op,.int .i64 v1.Dst,.int .i64 v1.A,.int .i64 v1.B,.int .i64 v1.N]]⟩),(N0+20,some ⟨3,1,eL rI l7⟩)] (N0+31)) (by decide) (fun K hK=>?_) ?_
  ·simp only[pickL,zO,zQ]
   have e0:=nQ w0 w2
   have e1:=nQ w0 w3
   have e2:=nQ w0 (N0+8)
   have e3:=nQ w0 (N0+20)
   have e4:=nQ w2 w3
   have e5:=nQ w2 (N0+8)
   have e6:=nQ w2 (N0+20)
   have e7:=nQ w3 (N0+8)
   have e8:=nQ w3 (N0+20)
   simp -dsimp -implicitDefEqProofs [e0,e1,e2,e3,e4,e5,e6,e7,e8,gs_W0,gs_W3,gs_x3_,ws_x3_,wl_x3_,ixo23 hv6,(zG hv6).2.2,(setx_iff.1 hl7).2.symm]
   exact hK _ _ ⟨rfl,rfl⟩
  rintro a σ ⟨ha,rfl⟩
  (try rw[← zH hl7] at ha);(try rw[← zH hl7])
  replace H:=oi H
  refine hJ1 _ _ _ H.symm ?_;rw[ha]
  refine gP zK w0 r0_ 0 ?_ (hr:=by exact gs_W0 _)
  exact Rc.fin (zP (zP (zP (AHeap.Sub.trans (AHeap.Sub.refl _) (zY rfl (by simp;try omega)))))) ⟨N0+31,(by omega),(by first|rfl|exact rfl|omega),rfl,rfl⟩
 refine Sx tok [] [0,2,3,9,10,26,38] (by
  intro K k
  have e0:=nQ w0 w2
  have e1:=nQ w0 w3
  have e2:=nQ w0 (N0+8)
  have e3:=nQ w2 w3
  have e4:=nQ w2 (N0+8)
  have e5:=nQ w3 (N0+8)
  simp -dsimp -implicitDefEqProofs [e0,e1,e2,e3,e4,e5,gs_W0,gs_W3,gs_x3_,ws_x3_,wl_x3_]
  exact k) ?_
 refine Ci H (fun H=>?_) fun H=>?_
 ·refine gU Wre w0 r0_ 0 ?_ (hr:=by exact gs_W0 _)
  obtain⟨v8,hv8,H⟩:=bE H
  obtain⟨v9,hv9,H⟩:=bE H
  obtain⟨l10,hl10,H⟩:=bE H
  refine mQ tok tokM [] [3,5,9,11,12,13,14,15] [0,1,2,4,6,7,8,10,3,5,9,11,12,13,14,15] [0,10] (fun a σ=>a=[(0,.ptr w0 r0_ 0),(10,.int .i64 (iadd .i64 p0.Pc 1))]∧σ=hp E0 [(w0,some ⟨42,2,W0.set r0_ [.sl (N0+22) 0 p0.Regs.length,.int .i64 p0.Pc]⟩),(w2,some ⟨103,2,eL kB p2⟩),(w3,some ⟨t3_,s3_,W3.set r3_ (x3_.set i3_ (.osl 3 1 (eL rI p3)))⟩),(N0+8,some ⟨36,5,[[.int .i64 v1.Op,.int .i64 v1.Dst,.int .i64 v1.A,.int .i64 v1.B,.int .i64 v1.N]]⟩),(N0+22,some ⟨3,1,eL rI l10⟩)] (N0+39)) (by decide) (fun K hK=>?_) ?_
  ·simp only[pickL,zO,zQ]
   have e0:=nQ w0 w2
   have e1:=nQ w0 w3
   have e2:=nQ w0 (N0+8)
   have e3:=nQ w0 (N0+22)
   have e4:=nQ w2 w3
   have e5:=nQ w2 (N0+8)
   have e6:=nQ w2 (N0+22)
   have e7:=nQ w3 (N0+8)
   have e8:=nQ w3 (N0+22)
   simp -dsimp -implicitDefEqProofs [e0,e1,e2,e3,e4,e5,e6,e7,e8,gs_W0,gs_W3,gs_x3_,ws_x3_,wl_x3_,ixo23 hv8,(zG hv8).2.2,ixo23 hv9,(zG hv9).2.2,(setx_iff.1 hl10).2.symm]
   exact hK _ _ ⟨rfl,rfl⟩
  rintro a σ ⟨ha,rfl⟩
  (try rw[← zH hl10] at ha);(try rw[← zH hl10])
  replace H:=oi H
  refine hJ1 _ _ _ H.symm ?_;rw[ha]
  refine gP zK w0 r0_ 0 ?_ (hr:=by exact gs_W0 _)
  exact Rc.fin (zP (zP (zP (AHeap.Sub.trans (AHeap.Sub.refl _) (zY rfl (by simp;try omega)))))) ⟨N0+39,(by omega),(by first|rfl|exact rfl|omega),rfl,rfl⟩
 refine Sx tok [] [0,2,3,9,10,26,55] (by
  intro K k
  have e0:=nQ w0 w2
  have e1:=nQ w0 w3
  have e2:=nQ w0 (N0+8)
  have e3:=nQ w2 w3
  have e4:=nQ w2 (N0+8)
  have e5:=nQ w3 (N0+8)
  simp -dsimp -implicitDefEqProofs [e0,e1,e2,e3,e4,e5,gs_W0,gs_W3,gs_x3_,ws_x3_,wl_x3_]
  exact k) ?_
 refine Ci H (fun H=>?_) fun H=>?_
 ·refine gU Wre w0 r0_ 0 ?_ (hr:=by exact gs_W0 _)
  obtain⟨v11,hv11,H⟩:=bE H
  obtain⟨v12,hv12,H⟩:=bE H
  obtain⟨r13,hr13,H⟩:=bE H
  obtain⟨v14,hv14,H⟩:=bE H
  obtain⟨l15,hl15,H⟩:=bE H
  refine AWP_ry tok tokM [] [3,5,7,11,13,14,15,19,21,22,23,24,25,26] [0,1,2,4,6,8,9,10,12,16,17,18,20,3,5,7,11,13,14,15,19,21,22,23,24,25,26] [(24,[3,5])] [0,10] (fun a σ=>a=[(0,.ptr w0 r0_ 0),(10,.int .i64 (iadd .i64 p0.Pc 1))]∧σ=hp E0 [(w0,some ⟨42,2,W0.set r0_ [.sl (N0+24) 0 p0.Regs.length,.int .i64 p0.Pc]⟩),(w2,some ⟨103,2,eL kB p2⟩),(w3,some ⟨t3_,s3_,W3.set r3_ (x3_.set i3_ (.osl 3 1 (eL rI p3)))⟩),(N0+8,some ⟨36,5,[[.int .i64 v1.Op,.int .i64 v1.Dst,.int .i64 v1.A,.int .i64 v1.B,.int .i64 v1.N]]⟩),(N0+24,some ⟨3,1,eL rI l15⟩)] (N0+52)) (by decide) (fun K hK=>?_) ?_
  ·simp only[pickL,zO,zQ]
   have e0:=nQ w0 w2
   have e1:=nQ w0 w3
   have e2:=nQ w0 (N0+8)
   have e3:=nQ w0 (N0+24)
   have e4:=nQ w2 w3
   have e5:=nQ w2 (N0+8)
   have e6:=nQ w2 (N0+24)
   have e7:=nQ w3 (N0+8)
   have e8:=nQ w3 (N0+24)
   simp -dsimp -implicitDefEqProofs [e0,e1,e2,e3,e4,e5,e6,e7,e8,gs_W0,gs_W3,gs_x3_,ws_x3_,wl_x3_,ixo23 hv11,(zG hv11).2.2,ixo23 hv12,(zG hv12).2.2,ixo23 hv14,(zG hv14).2.2,(setx_iff.1 hl15).2.symm]
   refine(c85 hr13).app ?_;try simp -dsimp -implicitDefEqProofs [e0,e1,e2,e3,e4,e5,e6,e7,e8,gs_W0,gs_W3,gs_x3_,ws_x3_,wl_x3_,ixo23 hv11,(zG hv11).2.2,ixo23 hv12,(zG hv12).2.2,ixo23 hv14,(zG hv14).2.2,(setx_iff.1 hl15).2.symm]
   exact hK _ _ ⟨rfl,rfl⟩
  rintro a σ ⟨ha,rfl⟩
  (try rw[← zH hl15] at ha);(try rw[← zH hl15])
  replace H:=oi H
  refine hJ1 _ _ _ H.symm ?_;rw[ha]
  refine gP zK w0 r0_ 0 ?_ (hr:=by exact gs_W0 _)
  exact Rc.fin (zP (zP (zP (AHeap.Sub.trans (AHeap.Sub.refl _) (zY rfl (by simp;try omega)))))) ⟨N0+52,(by omega),(by first|rfl|exact rfl|omega),rfl,rfl⟩
 refine Sx tok [] [0,2,3,9,10,26,83] (by
  intro K k
  have e0:=nQ w0 w2
  have e1:=nQ w0 w3
  have e2:=nQ w0 (N0+8)
  have e3:=nQ w2 w3
  have e4:=nQ w2 (N0+8)
  have e5:=nQ w3 (N0+8)
  simp -dsimp -implicitDefEqProofs [e0,e1,e2,e3,e4,e5,gs_W0,gs_W3,gs_x3_,ws_x3_,wl_x3_]
  exact k) ?_
 refine Ci H (fun H=>?_) fun H=>?_
 ·refine Rt tok [] [0,10] (by
   intro K k
   have e0:=nQ w0 w2
   have e1:=nQ w0 w3
   have e2:=nQ w0 (N0+8)
   have e3:=nQ w2 w3
   have e4:=nQ w2 (N0+8)
   have e5:=nQ w3 (N0+8)
   simp -dsimp -implicitDefEqProofs [e0,e1,e2,e3,e4,e5,gs_W0,gs_W3,gs_x3_,ws_x3_,wl_x3_]
   exact k) fun a ha=>?_
  replace H:=oi H
  refine hJ1 _ _ _ H.symm ?_;rw[ha]
  exact Rc.fin (zP (zP (zP (AHeap.Sub.trans (AHeap.Sub.refl _) (zY rfl (by simp;try omega)))))) ⟨N0+29,(by omega),(by first|rfl|exact rfl|omega),rfl,rfl⟩
 refine Sx tok [] [0,2,3,9,10,26,87] (by
  intro K k
  have e0:=nQ w0 w2
  have e1:=nQ w0 w3
  have e2:=nQ w0 (N0+8)
  have e3:=nQ w2 w3
  have e4:=nQ w2 (N0+8)
  have e5:=nQ w3 (N0+8)
  simp -dsimp -implicitDefEqProofs [e0,e1,e2,e3,e4,e5,gs_W0,gs_W3,gs_x3_,ws_x3_,wl_x3_]
  exact k) ?_
 refine Ci H (fun H=>?_) fun H=>?_
 ·refine gU Wre w0 r0_ 0 ?_ (hr:=by exact gs_W0 _)
  obtain⟨v16,hv16,H⟩:=bE H
  refine Sd tok tokM [] [3,5,6,7] [0,1,2,4,3,5,6,7,8] [0,9,10,97] (by
   intro K k
   have e0:=nQ w0 w2
   have e1:=nQ w0 w3
   have e2:=nQ w0 (N0+8)
   have e3:=nQ w0 (N0+28)
   have e4:=nQ w2 w3
   have e5:=nQ w2 (N0+8)
   have e6:=nQ w2 (N0+28)
   have e7:=nQ w3 (N0+8)
   have e8:=nQ w3 (N0+28)
   simp only[pickL,zO,zQ]
   simp -dsimp -implicitDefEqProofs [e0,e1,e2,e3,e4,e5,e6,e7,e8,gs_W0,gs_W3,gs_x3_,ws_x3_,wl_x3_,ixo23 hv16,(zG hv16).2.2]
   exact k) ?_
  refine Ci H (fun H=>?_) fun H=>?_
  ·refine Rt tok [] [0,10] (by
    intro K k
    have e0:=nQ w0 w2
    have e1:=nQ w0 w3
    have e2:=nQ w0 (N0+8)
    have e3:=nQ w0 (N0+28)
    have e4:=nQ w2 w3
    have e5:=nQ w2 (N0+8)
    have e6:=nQ w2 (N0+28)
    have e7:=nQ w3 (N0+8)
    have e8:=nQ w3 (N0+28)
    simp -dsimp -implicitDefEqProofs [e0,e1,e2,e3,e4,e5,e6,e7,e8,gs_W0,gs_W3,gs_x3_,ws_x3_,wl_x3_]
    exact k) fun a ha=>?_
   replace H:=oi H
   refine hJ1 _ _ _ H.symm ?_;rw[ha]
   refine gP zK w0 r0_ 0 ?_ (hr:=by exact gs_W0 _)
   exact Rc.fin (zP (zP (zP (AHeap.Sub.trans (AHeap.Sub.refl _) (zY rfl (by simp;try omega)))))) ⟨N0+41,(by omega),(by first|rfl|exact rfl|omega),rfl,rfl⟩
  refine Wsk ?_
  show K1 _ _
  refine kE [0,10] fun a' ha=>?_
  replace H:=oi H
  refine hJ1 _ _ _ H.symm ?_;rw[ha]
  refine gP zK w0 r0_ 0 ?_ (hr:=by exact gs_W0 _)
  exact Rc.fin (zP (zP (zP (AHeap.Sub.trans (AHeap.Sub.refl _) (zY rfl (by simp;try omega)))))) ⟨N0+38,(by omega),(by first|rfl|exact rfl|omega),rfl,rfl⟩
 refine Sx tok [] [0,2,3,9,10,26,100] (by
  intro K k
  have e0:=nQ w0 w2
  have e1:=nQ w0 w3
  have e2:=nQ w0 (N0+8)
  have e3:=nQ w2 w3
  have e4:=nQ w2 (N0+8)
  have e5:=nQ w3 (N0+8)
  simp -dsimp -implicitDefEqProofs [e0,e1,e2,e3,e4,e5,gs_W0,gs_W3,gs_x3_,ws_x3_,wl_x3_]
  exact k) ?_
 refine Ci H (fun H=>?_) fun H=>?_
 ·refine gU Wre w0 r0_ 0 ?_ (hr:=by exact gs_W0 _)
  obtain⟨v18,hv18,H⟩:=bE H
  obtain⟨v19,hv19,H⟩:=bE H
  obtain⟨r20,hr20,H⟩:=bE H
  obtain⟨l21,hl21,H⟩:=bE H
  refine mP tok tokM [] [2,3,7,9,10,11,12] [0,1,4,5,6,8,2,3,7,9,10,11,12,13] [0,10,115] (fun a σ=>∃M2:Nat,N0+45≤M2∧a=[(0,.ptr w0 r0_ 0),(10,.int .i64 (iadd .i64 p0.Pc 1)),(115,.bool (bnot r20.1))]∧σ=hp E0 [(w0,some ⟨42,2,W0.set r0_ [.sl (N0+30) 0 p0.Regs.length,.int .i64 p0.Pc]⟩),(w2,some ⟨103,2,eL kB l21⟩),(w3,some ⟨t3_,s3_,W3.set r3_ (x3_.set i3_ (.osl 3 1 (eL rI p3)))⟩),(N0+8,some ⟨36,5,[[.int .i64 v1.Op,.int .i64 v1.Dst,.int .i64 v1.A,.int .i64 v1.B,.int .i64 v1.N]]⟩),(N0+30,some ⟨3,1,eL rI p0.Regs⟩)] M2) (by decide) (fun K hK=>?_) ?_
  ·simp only[pickL,zO,zQ]
   have e0:=nQ w0 w2
   have e1:=nQ w0 w3
   have e2:=nQ w0 (N0+8)
   have e3:=nQ w0 (N0+30)
   have e4:=nQ w2 w3
   have e5:=nQ w2 (N0+8)
   have e6:=nQ w2 (N0+30)
   have e7:=nQ w3 (N0+8)
   have e8:=nQ w3 (N0+30)
   simp -dsimp -implicitDefEqProofs [e0,e1,e2,e3,e4,e5,e6,e7,e8,gs_W0,gs_W3,gs_x3_,ws_x3_,wl_x3_,ixo28 hv18,(zG hv18).2.2,ixo23 hv19,(zG hv19).2.2,(setx_iff.1 hl21).2.symm,xC]
   refine(c86 (W0:=eL kB p2) (r0_:=v1.N.toNat) (H:=hr20) (by simp[e0,e1,e2,e3,e4,e5,e6,e7,e8,gs_W0,gs_W3,gs_x3_,ws_x3_,wl_x3_,ixo28 hv18,(zG hv18).2.2,ixo23 hv19,(zG hv19).2.2,(setx_iff.1 hl21).2.symm,xC]) (by simp[e0,e1,e2,e3,e4,e5,e6,e7,e8,gs_W0,gs_W3,gs_x3_,ws_x3_,wl_x3_,ixo28 hv18,(zG hv18).2.2,ixo23 hv19,(zG hv19).2.2,(setx_iff.1 hl21).2.symm,xC])).mono ?_;rintro _ _ ⟨M2,fM2_0,rfl,rfl⟩;simp only[hpN] at fM2_0
   try simp -dsimp -implicitDefEqProofs [e0,e1,e2,e3,e4,e5,e6,e7,e8,gs_W0,gs_W3,gs_x3_,ws_x3_,wl_x3_,ixo28 hv18,(zG hv18).2.2,ixo23 hv19,(zG hv19).2.2,(setx_iff.1 hl21).2.symm,xC,hoS,hoN]
   exact hK _ _ ⟨M2,(by omega),rfl,rfl⟩
  rintro a σ ⟨M2,fM2_0,rfl,rfl⟩
  try rw[← zH hl21]
  refine Ci H (fun H=>?_) fun H=>?_
  ·refine Sx tok [] [8] (by
    intro K k
    have e0:=nQ w0 w2
    have e1:=nQ w0 w3
    have e2:=nQ w0 (N0+8)
    have e3:=nQ w0 (N0+30)
    have e4:=nQ w2 w3
    have e5:=nQ w2 (N0+8)
    have e6:=nQ w2 (N0+30)
    have e7:=nQ w3 (N0+8)
    have e8:=nQ w3 (N0+30)
    simp -dsimp -implicitDefEqProofs [e0,e1,e2,e3,e4,e5,e6,e7,e8,gs_W0,gs_W3,gs_x3_,ws_x3_,wl_x3_]
    exact k) ?_
   obtain⟨z,hz,H⟩:=bE H
   obtain rfl:=oi H;dsimp only at Gj1;obtain rfl:=oi Gj1;have H:=hz
   obtain rfl:=oi H
   refine Kp [8] ?_
   refine gP Wre w0 r0_ 0 ?_ (hr:=by exact gs_W0 _)
   have z3:=nQ w0 w2
   have z4:=nQ w0 w3
   have z5:=nQ w0 (N0+8)
   have z6:=nQ w2 w3
   have z7:=nQ w2 (N0+8)
   have z8:=nQ w3 (N0+8)
   refine gDrop Wre [(w0,some ⟨42,2,W0.set r0_ [.osl 3 1 (eL rI p0.Regs),.int .i64 p0.Pc]⟩),(w2,some ⟨103,2,eL kB l21⟩),(w3,some ⟨t3_,s3_,W3.set r3_ (x3_.set i3_ (.osl 3 1 (eL rI p3)))⟩)] (zP (zP (zP (AHeap.Sub.trans (AHeap.Sub.refl _) (zY rfl (by simp;try omega)))))) ?_
   refine Wr ?_
   refine⟨[.int .i64 3],by simp[z3,z4,z5,z6,z7,z8,gs_W0,gs_W3,gs_x3_,ws_x3_,wl_x3_],M2+1,by omega,by first|rfl|exact(zH hl21)|omega,?_,?_⟩
   ·simp[eN]
   first|rfl|simp
  refine Wsk ?_
  show K1 _ _
  refine kE [0,10] fun a' ha=>?_
  replace H:=oi H
  refine hJ1 _ _ _ H.symm ?_;rw[ha]
  refine gP zK w0 r0_ 0 ?_ (hr:=by exact gs_W0 _)
  exact Rc.fin (zP (zP (zP (AHeap.Sub.trans (AHeap.Sub.refl _) (zY rfl (by simp;try omega)))))) ⟨M2,(by omega),(by first|rfl|exact(zH hl21)|omega),rfl,rfl⟩
 refine Sx tok [] [0,2,3,9,10,26,116] (by
  intro K k
  have e0:=nQ w0 w2
  have e1:=nQ w0 w3
  have e2:=nQ w0 (N0+8)
  have e3:=nQ w2 w3
  have e4:=nQ w2 (N0+8)
  have e5:=nQ w3 (N0+8)
  simp -dsimp -implicitDefEqProofs [e0,e1,e2,e3,e4,e5,gs_W0,gs_W3,gs_x3_,ws_x3_,wl_x3_]
  exact k) ?_
 refine Ci H (fun H=>?_) fun H=>?_
 ·obtain⟨v22,hv22,H⟩:=bE H
  obtain⟨r23,hr23,H⟩:=bE H
  obtain⟨l24,hl24,H⟩:=bE H
  refine Sm tok [] [0,9,10,11,12] (N0+42) (by
   intro K k
   have e0:=nQ w0 w2
   have e1:=nQ w0 w3
   have e2:=nQ w0 (N0+8)
   have e3:=nQ w2 w3
   have e4:=nQ w2 (N0+8)
   have e5:=nQ w3 (N0+8)
   simp -dsimp -implicitDefEqProofs [e0,e1,e2,e3,e4,e5,gs_W0,gs_W3,gs_x3_,ws_x3_,wl_x3_,ixo28 hv22,(zG hv22).2.2,(setx_iff.1 hl24).2.symm,xC]
   refine(c87 (W0:=eL kB p2) (r0_:=v1.N.toNat) (H:=hr23) (by simp[e0,e1,e2,e3,e4,e5,gs_W0,gs_W3,gs_x3_,ws_x3_,wl_x3_,ixo28 hv22,(zG hv22).2.2,(setx_iff.1 hl24).2.symm,xC]) (by simp[e0,e1,e2,e3,e4,e5,gs_W0,gs_W3,gs_x3_,ws_x3_,wl_x3_,ixo28 hv22,(zG hv22).2.2,(setx_iff.1 hl24).2.symm,xC])).mono ?_;rintro _ _ ⟨M3,fM3_0,rfl,rfl⟩;simp only[hpN] at fM3_0
   try simp -dsimp -implicitDefEqProofs [e0,e1,e2,e3,e4,e5,gs_W0,gs_W3,gs_x3_,ws_x3_,wl_x3_,ixo28 hv22,(zG hv22).2.2,(setx_iff.1 hl24).2.symm,xC,hoS,hoN]
   exact k M3 (by omega)) fun M3 fM3_0=>?_
  try rw[← zH hl24]
  refine Wsq [0,9,10,11] fun K2 hK2=>?_
  refine Sx tok [] [0,9,10,11,127] (by
   intro K k
   have e0:=nQ w0 w2
   have e1:=nQ w0 w3
   have e2:=nQ w0 (N0+8)
   have e3:=nQ w2 w3
   have e4:=nQ w2 (N0+8)
   have e5:=nQ w3 (N0+8)
   simp -dsimp -implicitDefEqProofs [e0,e1,e2,e3,e4,e5,gs_W0,gs_W3,gs_x3_,ws_x3_,wl_x3_]
   exact k) ?_
  refine Ci H (fun H=>?_) fun H=>?_
  ·refine Sx tok [] [8] (by
    intro K k
    have e0:=nQ w0 w2
    have e1:=nQ w0 w3
    have e2:=nQ w0 (N0+8)
    have e3:=nQ w2 w3
    have e4:=nQ w2 (N0+8)
    have e5:=nQ w3 (N0+8)
    simp -dsimp -implicitDefEqProofs [e0,e1,e2,e3,e4,e5,gs_W0,gs_W3,gs_x3_,ws_x3_,wl_x3_]
    exact k) ?_
   obtain⟨z,hz,H⟩:=bE H
   obtain rfl:=oi H;dsimp only at Gj1;obtain rfl:=oi Gj1;have H:=hz
   obtain rfl:=oi H
   refine Kp [8] ?_
   have z9:=nQ w0 w2
   have z10:=nQ w0 w3
   have z11:=nQ w0 (N0+8)
   have z12:=nQ w2 w3
   have z13:=nQ w2 (N0+8)
   have z14:=nQ w3 (N0+8)
   refine gDrop Wre [(w0,some ⟨42,2,W0.set r0_ [.osl 3 1 (eL rI p0.Regs),.int .i64 p0.Pc]⟩),(w2,some ⟨103,2,eL kB l24⟩),(w3,some ⟨t3_,s3_,W3.set r3_ (x3_.set i3_ (.osl 3 1 (eL rI p3)))⟩)] (zP (zP (zP (AHeap.Sub.trans (AHeap.Sub.refl _) (zY rfl (by simp;try omega)))))) ?_
   refine Wr ?_
   refine⟨[.int .i64 3],by simp[z9,z10,z11,z12,z13,z14,gs_W0,gs_W3,gs_x3_,ws_x3_,wl_x3_],M3+3,by omega,by first|rfl|exact(zH hl24)|omega,?_,?_⟩
   ·simp[eN]
   first|rfl|simp
  refine Wsk (Jn hK2 ?_)
  refine gU Wre w0 r0_ 0 ?_ (hr:=by exact gs_W0 _)
  obtain⟨v25,hv25,H⟩:=bE H
  obtain⟨l26,hl26,H⟩:=bE H
  refine mQ tok tokM [] [3,5,7,8] [0,1,2,4,6,3,5,7,8] [0,10] (fun a σ=>a=[(0,.ptr w0 r0_ 0),(10,.int .i64 (iadd .i64 p0.Pc 1))]∧σ=hp E0 [(w0,some ⟨42,2,W0.set r0_ [.sl (M3+2) 0 p0.Regs.length,.int .i64 p0.Pc]⟩),(w2,some ⟨103,2,eL kB l24⟩),(w3,some ⟨t3_,s3_,W3.set r3_ (x3_.set i3_ (.osl 3 1 (eL rI p3)))⟩),(N0+8,some ⟨36,5,[[.int .i64 v1.Op,.int .i64 v1.Dst,.int .i64 v1.A,.int .i64 v1.B,.int .i64 v1.N]]⟩),(M3+2,some ⟨3,1,eL rI l26⟩)] (M3+12)) (by decide) (fun K hK=>?_) ?_
  ·simp only[pickL,zO,zQ]
   have e0:=nQ w0 w2
   have e1:=nQ w0 w3
   have e2:=nQ w0 (N0+8)
   have e3:=nQ w0 (M3+2)
   have e4:=nQ w2 w3
   have e5:=nQ w2 (N0+8)
   have e6:=nQ w2 (M3+2)
   have e7:=nQ w3 (N0+8)
   have e8:=nQ w3 (M3+2)
   have e9:=nQ (N0+8) (M3+2)
   have e10:=nQ (N0+6) M3
   simp -dsimp -implicitDefEqProofs [e0,e1,e2,e3,e4,e5,e6,e7,e8,e9,e10,gs_W0,gs_W3,gs_x3_,ws_x3_,wl_x3_,ixo23 hv25,(zG hv25).2.2,(setx_iff.1 hl26).2.symm]
   exact hK _ _ ⟨rfl,rfl⟩
  rintro a σ ⟨ha,rfl⟩
  (try rw[← zH hl26] at ha);(try rw[← zH hl26])
  replace H:=oi H
  refine hJ1 _ _ _ H.symm ?_;rw[ha]
  refine gP zK w0 r0_ 0 ?_ (hr:=by exact gs_W0 _)
  exact Rc.fin (zP (zP (zP (AHeap.Sub.trans (AHeap.Sub.refl _) (zY rfl (by simp;try omega)))))) ⟨M3+12,(by omega),(by first|rfl|exact(zH hl24)|omega),rfl,rfl⟩
 refine Sx tok [] [0,3,9,10,26,136] (by
  intro K k
  have e0:=nQ w0 w2
  have e1:=nQ w0 w3
  have e2:=nQ w0 (N0+8)
  have e3:=nQ w2 w3
  have e4:=nQ w2 (N0+8)
  have e5:=nQ w3 (N0+8)
  simp -dsimp -implicitDefEqProofs [e0,e1,e2,e3,e4,e5,gs_W0,gs_W3,gs_x3_,ws_x3_,wl_x3_]
  exact k) ?_
 refine Ci H (fun H=>?_) fun H=>?_
 ·refine Sx tok [] [] (by
   intro K k
   have e0:=nQ w0 w2
   have e1:=nQ w0 w3
   have e2:=nQ w0 (N0+8)
   have e3:=nQ w2 w3
   have e4:=nQ w2 (N0+8)
   have e5:=nQ w3 (N0+8)
   simp -dsimp -implicitDefEqProofs [e0,e1,e2,e3,e4,e5,gs_W0,gs_W3,gs_x3_,ws_x3_,wl_x3_]
   exact k) ?_
  refine Sx tok [] [8] (by
   intro K k
   have e0:=nQ w0 w2
   have e1:=nQ w0 w3
   have e2:=nQ w0 (N0+8)
   have e3:=nQ w2 w3
   have e4:=nQ w2 (N0+8)
   have e5:=nQ w3 (N0+8)
   simp -dsimp -implicitDefEqProofs [e0,e1,e2,e3,e4,e5,gs_W0,gs_W3,gs_x3_,ws_x3_,wl_x3_]
   exact k) ?_
  obtain⟨z,hz,H⟩:=bE H
  obtain rfl:=oi H;dsimp only at Gj1;obtain rfl:=oi Gj1;have H:=hz
  obtain rfl:=oi H
  refine Kp [8] ?_
  have z15:=nQ w0 w2
  have z16:=nQ w0 w3
  have z17:=nQ w0 (N0+8)
  have z18:=nQ w2 w3
  have z19:=nQ w2 (N0+8)
  have z20:=nQ w3 (N0+8)
  refine gDrop Wre [(w0,some ⟨42,2,W0.set r0_ [.osl 3 1 (eL rI p0.Regs),.int .i64 (iadd .i64 p0.Pc 1)]⟩),(w2,some ⟨103,2,eL kB p2⟩),(w3,some ⟨t3_,s3_,W3.set r3_ (x3_.set i3_ (.osl 3 1 (eL rI p3)))⟩)] (zP (zP (zP (AHeap.Sub.trans (AHeap.Sub.refl _) (zY rfl (by simp;try omega)))))) ?_
  refine Wr ?_
  refine⟨[.int .i64 2],by simp[z15,z16,z17,z18,z19,z20,gs_W0,gs_W3,gs_x3_,ws_x3_,wl_x3_],N0+40,by omega,by first|rfl|exact rfl|omega,?_,?_⟩
  ·simp[eN]
  first|rfl|simp
 refine Sx tok [] [0,3,9,10,26,142] (by
  intro K k
  have e0:=nQ w0 w2
  have e1:=nQ w0 w3
  have e2:=nQ w0 (N0+8)
  have e3:=nQ w2 w3
  have e4:=nQ w2 (N0+8)
  have e5:=nQ w3 (N0+8)
  simp -dsimp -implicitDefEqProofs [e0,e1,e2,e3,e4,e5,gs_W0,gs_W3,gs_x3_,ws_x3_,wl_x3_]
  exact k) ?_
 refine Ci H (fun H=>?_) fun H=>?_
 ·refine gUnp Wre (ty:=3) (sz:=1) (es:=eL rI p3) (o:=w3) (ob:=⟨t3_,s3_,W3.set r3_ (x3_.set i3_ (.osl 3 1 (eL rI p3)))⟩) (row:=x3_.set i3_ (.osl 3 1 (eL rI p3))) (r:=r3_) (i:=i3_) [(w0,some ⟨42,2,W0.set r0_ [.osl 3 1 (eL rI p0.Regs),.int .i64 p0.Pc]⟩),(w2,some ⟨103,2,eL kB p2⟩),(w3,some ⟨t3_,s3_,W3.set r3_ (x3_.set i3_ (.sl (N0+36) 0 p3.length))⟩),(N0+8,some ⟨36,5,[[.int .i64 v1.Op,.int .i64 v1.Dst,.int .i64 v1.A,.int .i64 v1.B,.int .i64 v1.N]]⟩),(N0+36,some ⟨3,1,eL rI p3⟩)] (by simp(disch:=omega)) (by simp(disch:=omega) [gs_W3]) (by simp(disch:=omega) [gs_x3_]) (by simp(disch:=omega)) ?_
  refine gU Wre w0 r0_ 0 ?_ (hr:=by exact gs_W0 _)
  obtain⟨v27,hv27,H⟩:=bE H
  obtain⟨l28,hl28,H⟩:=bE H
  have q0:∀σ i,bsA T 23 true i 1 [(0,.int .i64 v27)] σ=some (.fsl (eL rI ([v27]:List Int)),σ):=fun _ _=>rfl
  refine AWP_ry tok tokM [12] [3,7,9,10,11,12,13,15] [0,1,2,4,5,6,8,3,7,9,10,11,12,13,14,15] [(12,[3])] [0,10] (fun a σ=>a=[(0,.ptr w0 r0_ 0),(10,.int .i64 (iadd .i64 p0.Pc 1))]∧σ=hp E0 [(w0,some ⟨42,2,W0.set r0_ [.sl (N0+37) 0 p0.Regs.length,.int .i64 p0.Pc]⟩),(w2,some ⟨103,2,eL kB p2⟩),(w3,some ⟨t3_,s3_,W3.set r3_ (x3_.set i3_ (.sl (N0+51) 0 l28.length))⟩),(N0+8,some ⟨36,5,[[.int .i64 v1.Op,.int .i64 v1.Dst,.int .i64 v1.A,.int .i64 v1.B,.int .i64 v1.N]]⟩),(N0+37,some ⟨3,1,eL rI p0.Regs⟩),(N0+51,some ⟨3,1,eL rI l28⟩)] (N0+54)) (by decide) (fun K hK=>?_) ?_
  ·simp only[pickL,zO,zQ]
   have e0:=nQ w0 w2
   have e1:=nQ w0 w3
   have e2:=nQ w0 (N0+8)
   have e3:=nQ w0 (N0+36)
   have e4:=nQ w0 (N0+37)
   have e5:=nQ w0 (N0+51)
   have e6:=nQ w2 w3
   have e7:=nQ w2 (N0+8)
   have e8:=nQ w2 (N0+36)
   have e9:=nQ w2 (N0+37)
   have e10:=nQ w2 (N0+51)
   have e11:=nQ w3 (N0+8)
   have e12:=nQ w3 (N0+36)
   have e13:=nQ w3 (N0+37)
   have e14:=nQ w3 (N0+51)
   simp -dsimp -implicitDefEqProofs [e0,e1,e2,e3,e4,e5,e6,e7,e8,e9,e10,e11,e12,e13,e14,gs_W0,gs_W3,gs_x3_,ws_x3_,wl_x3_,ixo23 hv27,(zG hv27).2.2,q0,app23 hl28]
   exact hK _ _ ⟨rfl,rfl⟩
  rintro a σ ⟨ha,rfl⟩
  replace H:=oi H
  refine hJ1 _ _ _ H.symm ?_;rw[ha]
  refine gP zK w0 r0_ 0 ?_ (hr:=by exact gs_W0 _)
  refine gPk zK (k:=l28.length) (o:=w3) (ob:=⟨t3_,s3_,W3.set r3_ (x3_.set i3_ (.sl (N0+51) 0 l28.length))⟩) (row:=x3_.set i3_ (.sl (N0+51) 0 l28.length)) (d:=(N0+51)) (obd:=⟨3,1,eL rI l28⟩) (r:=r3_) (i:=i3_) [(w0,some ⟨42,2,W0.set r0_ [.osl 3 1 (eL rI p0.Regs),.int .i64 p0.Pc]⟩),(w2,some ⟨103,2,eL kB p2⟩),(w3,some ⟨t3_,s3_,W3.set r3_ (x3_.set i3_ (.osl 3 1 (eL rI l28)))⟩),(N0+8,some ⟨36,5,[[.int .i64 v1.Op,.int .i64 v1.Dst,.int .i64 v1.A,.int .i64 v1.B,.int .i64 v1.N]]⟩)] (by simp(disch:=omega)) (by simp(disch:=omega) [gs_W3]) (by simp(disch:=omega) [gs_x3_]) (by simp(disch:=omega)) (by simp(disch:=omega)) (by first|omega|simp) (by simp(disch:=omega) [oU]<;>omega) (by simp(disch:=omega) [oU]) ?_
  exact Rc.fin (zP (zP (zP (AHeap.Sub.trans (AHeap.Sub.refl _) (zY rfl (by simp;try omega)))))) ⟨N0+54,(by omega),(by first|rfl|exact rfl|omega),rfl,rfl⟩
 refine Sx tok [] [0,10,159] (by
  intro K k
  have e0:=nQ w0 w2
  have e1:=nQ w0 w3
  have e2:=nQ w0 (N0+8)
  have e3:=nQ w2 w3
  have e4:=nQ w2 (N0+8)
  have e5:=nQ w3 (N0+8)
  simp -dsimp -implicitDefEqProofs [e0,e1,e2,e3,e4,e5,gs_W0,gs_W3,gs_x3_,ws_x3_,wl_x3_]
  exact k) ?_
 refine Ci H (fun H=>?_) fun H=>?_
 ·refine Sx tok [] [8] (by
   intro K k
   have e0:=nQ w0 w2
   have e1:=nQ w0 w3
   have e2:=nQ w0 (N0+8)
   have e3:=nQ w2 w3
   have e4:=nQ w2 (N0+8)
   have e5:=nQ w3 (N0+8)
   simp -dsimp -implicitDefEqProofs [e0,e1,e2,e3,e4,e5,gs_W0,gs_W3,gs_x3_,ws_x3_,wl_x3_]
   exact k) ?_
  obtain⟨z,hz,H⟩:=bE H
  obtain rfl:=oi H;dsimp only at Gj1;obtain rfl:=oi Gj1;have H:=hz
  obtain rfl:=oi H
  refine Kp [8] ?_
  have z21:=nQ w0 w2
  have z22:=nQ w0 w3
  have z23:=nQ w0 (N0+8)
  have z24:=nQ w2 w3
  have z25:=nQ w2 (N0+8)
  have z26:=nQ w3 (N0+8)
  refine gDrop Wre [(w0,some ⟨42,2,W0.set r0_ [.osl 3 1 (eL rI p0.Regs),.int .i64 p0.Pc]⟩),(w2,some ⟨103,2,eL kB p2⟩),(w3,some ⟨t3_,s3_,W3.set r3_ (x3_.set i3_ (.osl 3 1 (eL rI p3)))⟩)] (zP (zP (zP (AHeap.Sub.trans (AHeap.Sub.refl _) (zY rfl (by simp;try omega)))))) ?_
  refine Wr ?_
  refine⟨[.int .i64 4],by simp[z21,z22,z23,z24,z25,z26,gs_W0,gs_W3,gs_x3_,ws_x3_,wl_x3_],N0+39,by omega,by first|rfl|exact rfl|omega,?_,?_⟩
  ·simp[eN]
  first|rfl|simp
 refine Wsk ?_
 show K1 _ _
 refine kE [0,10] fun a' ha=>?_
 replace H:=oi H
 refine hJ1 _ _ _ H.symm ?_;rw[ha]
 exact Rc.fin (zP (zP (zP (AHeap.Sub.trans (AHeap.Sub.refl _) (zY rfl (by simp;try omega)))))) ⟨N0+38,(by omega),(by first|rfl|exact rfl|omega),rfl,rfl⟩

theorem c57 {p0:Int}{pf0:gCrew}{r:Int×gCrew}(H:tX p0 pf0=some r){σ:AHeap}{wf0:Nat}{Wf0:List (List AV)}{rf0_:Nat}(qf0:σ.objs wf0=some ⟨30,6,Wf0⟩)(gf0:Wf0[rf0_]? =some [.fsl (eL zA pf0.Codes),.osl 42 2 (eL zX pf0.Threads),.osl 103 2 (eL kB pf0.Boxes),.int .i64 pf0.Turn,.int .i64 pf0.Idle,.osl 3 1 (eL rI pf0.Out)]):ACalls Tryz.prog G 57 [.int .i64 p0,.ptr wf0 rf0_ 0] σ (fun v σ'=>∃M:Nat,σ.next≤M∧v=.int .i64 r.1∧σ'=hp σ.objs [(wf0,some ⟨30,6,Wf0.set rf0_ [.fsl (eL zA r.2.Codes),.osl 42 2 (eL zX r.2.Threads),.osl 103 2 (eL kB r.2.Boxes),.int .i64 r.2.Turn,.int .i64 r.2.Idle,.osl 3 1 (eL rI r.2.Out)]⟩)] M):=by
 refine fr1 ([(wf0,some ⟨30,6,Wf0⟩)]) (by simp[qf0]) (fun hlt=>?_) ⟨_,Tryz.func57,rfl,rfl⟩
 generalize σ.next=N0 at hlt ⊢
 have lwf0:wf0<N0:=hlt _ (.head _) rfl
 have gs_Wf0:∀x,(Wf0.set rf0_ x)[rf0_]? =some x:=gsetW gf0
 rw[← kH gf0]
 refine fnK tok Tryz.func57 Tryz.ntmps57 Tryz.results57 ?_
 simp only[argsA,Nat.reduceAdd,hpN]
 unfold tX at H
 refine Sx tok [] [0,1] (by intro K k;simp -dsimp -implicitDefEqProofs [gs_Wf0];exact k) ?_
 refine gU Wre wf0 rf0_ 1 ?_ (hr:=by exact gs_Wf0 _)
 refine gU Wre wf0 rf0_ 2 ?_ (hr:=by exact gs_Wf0 _)
 obtain⟨v3,hv3,H⟩:=bE H
 obtain⟨v4,hv4,H⟩:=bE H
 obtain⟨r5,hr5,H⟩:=bE H
 obtain⟨l6,hl6,H⟩:=bE H
 refine mP tok tokM [] [1,3,5,7,8,10,12] [0,2,4,6,9,11,1,3,5,7,8,10,12,13] [3] (fun a σ=>∃M1:Nat,N0+17≤M1∧r5.2.2.1.length=pf0.Boxes.length∧a=[(3,.int .i64 r5.1)]∧σ=hp E0 [(wf0,some ⟨30,6,Wf0.set rf0_ [.fsl (eL zA pf0.Codes),.sl (N0+1) 0 pf0.Threads.length,.sl (N0+2) 0 pf0.Boxes.length,.int .i64 pf0.Turn,.int .i64 pf0.Idle,.osl 3 1 (eL rI r5.2.2.2)]⟩),(N0+1,some ⟨42,2,eL zX l6⟩),(N0+2,some ⟨103,2,eL kB r5.2.2.1⟩)] M1) (by decide) (fun K hK=>?_) ?_
 ·simp only[pickL,zO,zQ]
  have e0:=nQ wf0 (N0+1)
  have e1:=nQ wf0 (N0+2)
  simp -dsimp -implicitDefEqProofs [e0,e1,gs_Wf0,ixo27 hv3,(zG hv3).2.2,ix24 hv4,(setx_iff.1 hl6).2.symm,kO]
  refine(c58 (W0:=eL zX pf0.Threads) (r0_:=p0.toNat) (W3:=Wf0.set rf0_ [.fsl (eL zA pf0.Codes),.sl (N0+1) 0 pf0.Threads.length,.sl (N0+2) 0 pf0.Boxes.length,.int .i64 pf0.Turn,.int .i64 pf0.Idle,.osl 3 1 (eL rI pf0.Out)]) (r3_:=rf0_) (x3_:=[.fsl (eL zA pf0.Codes),.sl (N0+1) 0 pf0.Threads.length,.sl (N0+2) 0 pf0.Boxes.length,.int .i64 pf0.Turn,.int .i64 pf0.Idle,.osl 3 1 (eL rI pf0.Out)]) (i3_:=5) (t3_:=30) (s3_:=6) (H:=hr5) (by simp[e0,e1,gs_Wf0,ixo27 hv3,(zG hv3).2.2,ix24 hv4,(setx_iff.1 hl6).2.symm,kO]) (by simp[e0,e1,gs_Wf0,ixo27 hv3,(zG hv3).2.2,ix24 hv4,(setx_iff.1 hl6).2.symm,kO]) (by simp[e0,e1,gs_Wf0,ixo27 hv3,(zG hv3).2.2,ix24 hv4,(setx_iff.1 hl6).2.symm,kO]) (by simp[e0,e1,gs_Wf0,ixo27 hv3,(zG hv3).2.2,ix24 hv4,(setx_iff.1 hl6).2.symm,kO]) (by simp[e0,e1,gs_Wf0,ixo27 hv3,(zG hv3).2.2,ix24 hv4,(setx_iff.1 hl6).2.symm,kO]) (by simp[e0,e1,gs_Wf0,ixo27 hv3,(zG hv3).2.2,ix24 hv4,(setx_iff.1 hl6).2.symm,kO]) (by simp[e0,e1,gs_Wf0,ixo27 hv3,(zG hv3).2.2,ix24 hv4,(setx_iff.1 hl6).2.symm,kO]) (by simp[e0,e1,gs_Wf0,ixo27 hv3,(zG hv3).2.2,ix24 hv4,(setx_iff.1 hl6).2.symm,kO]) (by simp[e0,e1,gs_Wf0,ixo27 hv3,(zG hv3).2.2,ix24 hv4,(setx_iff.1 hl6).2.symm,kO])).mono ?_;rintro _ _ ⟨M1,fM1_0,fM1_1,rfl,rfl⟩;simp only[hpN] at fM1_0
  try simp -dsimp -implicitDefEqProofs [e0,e1,gs_Wf0,ixo27 hv3,(zG hv3).2.2,ix24 hv4,(setx_iff.1 hl6).2.symm,kO,hoS,hoN]
  exact hK _ _ ⟨M1,(by omega),fM1_1,rfl,rfl⟩
 rintro a σ ⟨M1,fM1_0,fM1_1,rfl,rfl⟩
 try rw[← zH hl6]
 try rw[← fM1_1]
 obtain rfl:=oi H
 refine Kp [3] ?_
 refine gP Wre wf0 rf0_ 1 ?_ (hr:=by exact gs_Wf0 _)
 refine gP Wre wf0 rf0_ 2 ?_ (hr:=by exact gs_Wf0 _)
 refine Wr ?_
 refine⟨[.int .i64 r5.1],by simp[gs_Wf0],M1,by omega,?_,?_⟩
 ·simp[eN]
 first|rfl|simp

theorem c36 {p0:Int}{p1:Int}{p2:Int}{p3:Int}{r:Int×Int×Bool}(H:tB p0 p1 p2 p3=some r):APure Tryz.prog G 36 [.int .i64 p0,.int .i64 p1,.int .i64 p2,.int .i64 p3] (.tup [.int .i64 r.1,.int .i64 r.2.1,.bool r.2.2]):=by
 refine zE (fun N0=>?_) (by simp)
 refine fnK tok Tryz.func36 Tryz.ntmps36 Tryz.results36 ?_
 simp only[argsA,Nat.reduceAdd,hpN]
 unfold tB at H
 refine S0 tok [] [0,1,2,3] ?_
 refine Wsq [0,1,2,3] fun K1 hK1=>?_
 obtain⟨g1,hg1,H⟩:=bE H
 obtain⟨g2,hg2,H⟩:=bE H
 obtain⟨g3,hg3,H⟩:=bE H
 obtain⟨g4,hg4,H⟩:=bE H
 obtain⟨g5,hg5,H⟩:=bE H
 refine Sx tok [] [0,1,2,3,34] (X:=[(0,.int .i64 p0),(1,.int .i64 p1),(2,.int .i64 p2),(3,.int .i64 p3),(34,.bool g5)]) (Y:=hp E0 [] (N0+27)) (by
  intro K k
  simp -dsimp -implicitDefEqProofs
  cases hbg1:ilt p0 1
  ·obtain rfl:=oi (ifF hbg1 hg1)
   try simp -dsimp -implicitDefEqProofs [hbg1]
   cases hbg2:(igt p0 3)
   ·obtain rfl:=oi (ifF hbg2 hg2)
    try simp -dsimp -implicitDefEqProofs [hbg1,hbg2]
    cases hbg3:(ilt p1 0)
    ·obtain rfl:=oi (ifF hbg3 hg3)
     try simp -dsimp -implicitDefEqProofs [hbg1,hbg2,hbg3]
     cases hbg4:(ige p1 p0)
     ·obtain rfl:=oi (ifF hbg4 hg4)
      try simp -dsimp -implicitDefEqProofs [hbg1,hbg2,hbg3,hbg4]
      cases hbg5:(ilt p2 0)
      ·obtain rfl:=oi (ifF hbg5 hg5)
       try simp -dsimp -implicitDefEqProofs [hbg1,hbg2,hbg3,hbg4,hbg5]
       exact k
      obtain rfl:=oi (ifT hbg5 hg5)
      try simp -dsimp -implicitDefEqProofs [hbg1,hbg2,hbg3,hbg4,hbg5]
      exact k
     obtain rfl:=oi (ifT hbg4 hg4)
     obtain rfl:=oi (ifT rfl hg5)
     try simp -dsimp -implicitDefEqProofs [hbg1,hbg2,hbg3,hbg4]
     exact k
    obtain rfl:=oi (ifT hbg3 hg3)
    obtain rfl:=oi (ifT rfl hg4)
    obtain rfl:=oi (ifT rfl hg5)
    try simp -dsimp -implicitDefEqProofs [hbg1,hbg2,hbg3]
    exact k
   obtain rfl:=oi (ifT hbg2 hg2)
   obtain rfl:=oi (ifT rfl hg3)
   obtain rfl:=oi (ifT rfl hg4)
   obtain rfl:=oi (ifT rfl hg5)
   try simp -dsimp -implicitDefEqProofs [hbg1,hbg2]
   exact k
  obtain rfl:=oi (ifT hbg1 hg1)
  obtain rfl:=oi (ifT rfl hg2)
  obtain rfl:=oi (ifT rfl hg3)
  obtain rfl:=oi (ifT rfl hg4)
  obtain rfl:=oi (ifT rfl hg5)
  try simp -dsimp -implicitDefEqProofs [hbg1]
  exact k) ?_
 refine Ci H (fun H=>?_) fun H=>?_
 ·refine S0 tok [] [8,9,10] ?_
  obtain rfl:=oi H;exact Wr ⟨_,rfl,4,by simp[eN]⟩
 refine Wsk (Jn hK1 ?_)
 refine Wsq [] fun K2 hK2=>?_
 refine S0 tok [] [0,1,2,35] ?_
 refine Wbl (Wth ?_)
 refine S0 tok [] [0,1,2,35,36] ?_
 refine Ci H (fun H=>?_) fun H=>?_
 ·refine S0 tok [] [8,9,10] ?_
  obtain rfl:=oi H;exact Wr ⟨_,rfl,4,by simp[eN]⟩
 refine S0 tok [] [0,1,2,35,39] ?_
 refine Ci H (fun H=>?_) fun H=>?_
 ·obtain⟨v6,hv6,H⟩:=bE H
  refine Sx tok [] [8,9,10] (by intro K k;simp -dsimp -implicitDefEqProofs [hv6];exact k) ?_
  obtain rfl:=oi H;exact Wr ⟨_,rfl,4,by simp[eN]⟩
 obtain⟨j1,hj1,H⟩:=bE H
 refine kR (kQ fun K3 hK3=>?_)
 have hJ1:∀a σ,Rc G 54 N0 (fun a σ=>∃M1:Nat,N0≤M1∧a=[(0,.int .i64 p0),(1,.int .i64 p1),(2,.int .i64 p2),(45,.bool j1)]∧σ=hp E0 [] M1) (a.keep [0,1,2,45]) σ→K3 a σ:=by
  rintro a σ ⟨b,τ,hr,M1,fM1_0,rfl,rfl⟩
  refine hK3 _ _ (kI [0,1,2,45] (Wre hr ?_))
  refine Ci H (fun H=>?_) fun H=>?_
  ·obtain⟨v8,hv8,H⟩:=bE H
   refine Sx tok [] [8,9,10] (by intro K k;simp -dsimp -implicitDefEqProofs [hv8];exact k) ?_
   obtain rfl:=oi H;exact Wr ⟨_,rfl,4,by simp[eN]⟩
  refine Wsk (Jn hK2 ?_)
  refine S0 tok [] [8,9,10] ?_
  obtain rfl:=oi H;exact Wr ⟨_,rfl,4,by simp[eN]⟩
 replace H:=hj1
 refine S0 tok [] [0,1,2,35,45] ?_
 refine Ci H (fun H=>?_) fun H=>?_
 ·refine Wsk ?_
  show K3 _ _
  refine kE [0,1,2,45] fun a' ha=>?_
  obtain rfl:=oi H
  refine hJ1 _ _ ?_;rw[ha]
  exact Rf ⟨N0+34,(by omega),rfl,rfl⟩
 refine Rt0 tok [] [0,1,2,45] fun a ha=>?_
 obtain rfl:=oi H
 refine hJ1 _ _ ?_;rw[ha]
 exact Rf ⟨N0+36,(by omega),rfl,rfl⟩

theorem c55_o {p0:List Int}{r:List Int}(H:kM p0=some r){σ:AHeap}:ACalls Tryz.prog G 55 [.fsl (eL rI p0)] σ (fun v σ'=>∃M n0:Nat,σ.next≤M∧σ.next≤n0∧n0<M∧v=.sl n0 0 r.length∧σ'=hp σ.objs [(n0,some ⟨3,1,eL rI r⟩)] M):=by
 refine fr2 [] (by simp) (fun hlt=>?_) ⟨_,Tryz.func55,rfl,rfl⟩
 generalize σ.next=N0 at hlt ⊢
 refine fnK tok Tryz.func55 Tryz.ntmps55 Tryz.results55 ?_
 simp only[argsA,Nat.reduceAdd,hpN]
 unfold kM at H
 refine S0 tok [] [0] ?_
 refine Wsq [0] fun K1 hK1=>?_
 refine AWP_isnil tok [4,0] ([(0,.fsl (eL rI p0))]) rfl rfl (by decide) (by decide) (by decide) (fun _=>rfl) (fun n0=>?_) ?_
 ·replace n0:p0=[]:=encL_isnil n0
  replace H:(if true=true then   some ([]:List Int) else   (appx 8 ([]:List Int) p0).bind fun l2=>   some l2:Option ((List Int)))=some r:=by simpa [n0,appx] using H
  refine Ci H (fun H=>?_) fun H=>?_
  ·refine S0 tok [] [2] ?_
   obtain rfl:=oi H
   refine Kp [2] ?_
   refine gNilS Wre 2 3 1 [(N0+2,some ⟨3,1,eL rI ([]:List Int)⟩)] [(2,.sl (N0+2) 0 ([]:List Int).length)] (by simp(disch:=omega)) (by simp(disch:=omega) [eN]) [2] rfl ?_
   refine Wr ?_
   refine⟨[.sl (N0+2) 0 ([]:List Int).length],by simp,N0+3,N0+2,by omega,by omega,by omega,?_,?_⟩
   ·simp[eN]
   first|rfl|simp
  refine Wsk (Jn hK1 ?_)
  obtain⟨l2,hl2,H⟩:=bE H
  have q2:∀σ i,bsA T 23 true i 0 [] σ=some (.esl,σ):=fun _ _=>rfl
  refine Sx tok [0] [2] (by intro K k;simp -dsimp -implicitDefEqProofs [q2,appe23 hl2];exact k) ?_
  obtain rfl:=oi H
  refine Kp [2] ?_
  refine Wr ?_
  refine⟨[.sl (N0+3) 0 l2.length],by simp,N0+5,N0+3,by omega,by omega,by omega,?_,?_⟩
  ·simp[eN]
  first|rfl|simp
 ·
  refine Ci H (fun H=>?_) fun H=>?_
  ·refine S0 tok [] [2] ?_
   obtain rfl:=oi H
   refine Kp [2] ?_
   refine gNilS Wre 2 3 1 [(N0+2,some ⟨3,1,eL rI ([]:List Int)⟩)] [(2,.sl (N0+2) 0 ([]:List Int).length)] (by simp(disch:=omega)) (by simp(disch:=omega) [eN]) [2] rfl ?_
   refine Wr ?_
   refine⟨[.sl (N0+2) 0 ([]:List Int).length],by simp,N0+3,N0+2,by omega,by omega,by omega,?_,?_⟩
   ·simp[eN]
   first|rfl|simp
  refine Wsk (Jn hK1 ?_)
  obtain⟨l1,hl1,H⟩:=bE H
  have q1:∀σ i,bsA T 23 true i 0 [] σ=some (.esl,σ):=fun _ _=>rfl
  refine Sx tok [0] [2] (by intro K k;simp -dsimp -implicitDefEqProofs [q1,appe23 hl1];exact k) ?_
  obtain rfl:=oi H
  refine Kp [2] ?_
  refine Wr ?_
  refine⟨[.sl (N0+3) 0 l1.length],by simp,N0+5,N0+3,by omega,by omega,by omega,?_,?_⟩
  ·simp[eN]
  first|rfl|simp

theorem c54_o2 {p0:List gBox}{r:List gBox}(H:vI p0=some r){σ:AHeap}:ACalls Tryz.prog G 54 [.fsl (eL rBox p0)] σ (fun v σ'=>∃M n0:Nat,σ.next≤M∧σ.next≤n0∧n0<M∧v=.sl n0 0 r.length∧σ'=hp σ.objs [(n0,some ⟨103,2,eL kB r⟩)] M):=by
 refine fr2 [] (by simp) (fun hlt=>?_) ⟨_,Tryz.func54,rfl,rfl⟩
 generalize σ.next=N0 at hlt ⊢
 refine fnK tok Tryz.func54 Tryz.ntmps54 Tryz.results54 ?_
 simp only[argsA,Nat.reduceAdd,hpN]
 unfold vI at H
 refine S0 tok [] [0] ?_
 refine S0 tok [] [0,3] ?_
 refine Wsq [3] fun K1 hK1=>?_
 refine S0 tok [] [3,6,7,8] ?_
 refine Wbl (Wth ?_)
 obtain⟨e1,hse1,H⟩:=bE H
 refine zS [3,6,7,8] (fun s a σ=>∃M1 o1:Nat,N0≤M1∧N0≤o1∧o1<M1∧a=[(3,.sl o1 0 s.2.length),(6,.fsl (eL rBox p0)),(7,.int .i64 (ilen p0)),(8,.int .i64 s.1)]∧σ=hp E0 [(o1,some ⟨103,2,eL kB s.2⟩)] M1) (fun s x a σ=>x=.exit 0∧Rc G 23 N0 (fun a σ=>∃M2 o2:Nat,N0≤M2∧N0≤o2∧o2<M2∧a=[(3,.sl o2 0 s.length)]∧σ=hp E0 [(o2,some ⟨103,2,eL kB s⟩)] M2) (AAct.keep a [3]) σ) hse1 ?_ ?_ ?_
 ·refine Rc.kp [3,6,7,8] [(3,.nilsl),(6,.fsl (eL rBox p0)),(7,.int .i64 (ilen p0)),(8,.int .i64 0)] rfl ?_
  refine gNilS zK 3 103 2 [(N0+5,some ⟨103,2,eL kB ([]:List gBox)⟩)] [(3,.sl (N0+5) 0 ([]:List gBox).length),(6,.fsl (eL rBox p0)),(7,.int .i64 (ilen p0)),(8,.int .i64 0)] (by simp(disch:=omega)) (by simp(disch:=omega) [eN]) [3,6,7,8] rfl ?_
  exact Rf ⟨N0+6,(N0+5),(by omega),(by omega),(by omega),rfl,rfl⟩
 ·clear H hse1
  rintro⟨s1,s2⟩ fl a σ H ⟨M1,o1,fM1_0,fM1_1,fM1_2,rfl,rfl⟩ K2 O2 hK2 hO2
  unfold qY at H;dsimp only at H
  refine S0 tok [] [3,6,7,8,9] ?_
  refine Wsq [3,6,7,8] fun K3 hK3=>?_
  refine Ci H (fun H=>?_) fun H=>?_
  ·refine Wsk (Jn hK3 ?_)
   refine Wsq [3,6,7,8] fun K4 hK4=>?_
   refine Wbl (Wth ?_)
   obtain⟨v4,hv4,H⟩:=bE H
   refine Sx tok [] [3,5,6,7,8] (by
    intro K k
    have e0:=nQ o1 (M1+3)
    simp -dsimp -implicitDefEqProofs [e0,ix28 hv4]
    exact k) ?_
   obtain⟨r5,hr5,H⟩:=bE H
   obtain⟨l6,hl6,H⟩:=bE H
   have q0:∀(a0:Int) (a1:Nat) (a2:Nat) σ i,bsA T 28 true i 1 [(0,.agg [.int .i64 a0,.sl a1 0 a2])] σ=some (.fsl [[.int .i64 a0,.sl a1 0 a2]],σ):=fun _ _ _ _ _=>rfl
   refine AWP_ry tok tokM [7] [2,4,5,8] [0,1,3,2,4,5,6,7,8,9] [(5,[2])] [3,6,7,8] (fun a σ=>∃M3 o3:Nat,M1+15≤M3∧M1+15≤o3∧o3<M3∧a=[(3,.sl (M1+13) 0 l6.length),(6,.fsl (eL rBox p0)),(7,.int .i64 (ilen p0)),(8,.int .i64 s1)]∧σ=hp E0 [(M1+3,some ⟨103,2,[[.int .i64 v4.Room,.fsl (eL rI v4.Items)]]⟩),(o3,some ⟨3,1,eL rI r5⟩),(M1+13,some ⟨103,2,eL kB s2++[[.int .i64 v4.Room,.sl o3 0 r5.length]]⟩)] M3) (by decide) (fun K hK=>?_) ?_
   ·simp only[pickL,zO,zQ]
    have e0:=nQ o1 (M1+3)
    have e1:=nQ o1 (M1+13)
    simp -dsimp -implicitDefEqProofs [e0,e1,q0,apr28 kB hl6]
    refine(c55_o (H:=hr5)).mono ?_;rintro _ _ ⟨M3,o3,fM3_0,fM3_1,fM3_2,rfl,rfl⟩;simp only[hpN] at fM3_0 fM3_1 fM3_2
    have eM3_0:=nQ o3 o1
    have eM3_1:=nQ o3 (M1+3)
    have eM3_2:=nQ o3 (M1+13)
    try simp -dsimp -implicitDefEqProofs [e0,e1,q0,apr28 kB hl6,eM3_0,eM3_1,eM3_2,hoS,hoN]
    exact hK _ _ ⟨M3,o3,(by omega),(by omega),(by omega),rfl,rfl⟩
   rintro a σ ⟨M3,o3,fM3_0,fM3_1,fM3_2,ha,rfl⟩
   refine hK4 _ _ ?_;rw[ha]
   refine Rc.mk ?_
   refine gP Wre (M1+13) s2.length 1 ?_ (hr:=by exact fQ _ _ _)
   rw[show hp E0 [(M1+3,some ⟨103,2,[[.int .i64 v4.Room,.fsl (eL rI v4.Items)]]⟩),(M1+13,some ⟨103,2,eL kB s2++[[.int .i64 v4.Room,.osl 3 1 (eL rI r5)]]⟩)] M3=hp E0 [(M1+3,some ⟨103,2,[[.int .i64 v4.Room,.fsl (eL rI v4.Items)]]⟩),(M1+13,some ⟨103,2,eL kB l6⟩)] M3 from by rw[← fR (f:=kB) (c:=[.int .i64 v4.Room,.osl 3 1 (eL rI r5)]) hl6 rfl]]
   refine Rt0 tok [] [3,6,7,8] fun a ha=>?_
   obtain rfl:=oi H
   refine hK2 _ _ _ rfl ?_;rw[ha]
   exact Rc.fin (AHeap.Sub.trans (zP (AHeap.Sub.refl _)) (zY rfl (by simp;try omega))) ⟨M3+2,(M1+13),(by omega),(by omega),(by omega),rfl,rfl⟩
  obtain rfl:=oi H
  refine zJ (hO2 _ _ _ _ rfl ⟨rfl,?_⟩)
  refine Rc.rw (l:=[3]) (X:=[(3,.sl o1 0 s2.length)]) rfl ?_
  exact Rf ⟨M1+1,o1,(by omega),(by omega),(by omega),rfl,rfl⟩
 intro x a σ hx
 obtain⟨y3,rfl⟩:∃x,x=e1:=⟨_,rfl⟩
 obtain⟨rfl,b,τ,hr,M2,o2,fM2_0,fM2_1,fM2_2,rfl,rfl⟩:=hx
 (try dsimp only at H)
 show K1 _ _
 refine hK1 _ _ (zK hr ?_)
 refine Rc.mk ?_
 refine S0 tok [] [2] ?_
 obtain rfl:=oi H
 refine Kp [2] ?_
 refine Wr ?_
 refine⟨[.sl o2 0 y3.length],by simp,M2+2,o2,by omega,by omega,by omega,?_,?_⟩
 ·simp[eN]
 first|rfl|simp

theorem c56_i_CrewRun_1_c4_0_1 {p0:Int}{p1:Int}{p2:Int}{p3:Int}{p4_0:gCrew}{r:Int×Int×Bool×gCrew}(H:kL p0 p1 p2 p3 p4_0=some r){σ:AHeap}{w4_0:Nat}{W4_0:List (List AV)}{r4_0_:Nat}{w4_0c1:Nat}(q4_0:σ.objs w4_0=some ⟨30,6,W4_0⟩)(g4_0:W4_0[r4_0_]? =some [.fsl (eL zA p4_0.Codes),.sl w4_0c1 0 p4_0.Threads.length,.osl 103 2 (eL kB p4_0.Boxes),.int .i64 p4_0.Turn,.int .i64 p4_0.Idle,.osl 3 1 (eL rI p4_0.Out)])(q4_0c1:σ.objs w4_0c1=some ⟨42,2,eL zX p4_0.Threads⟩)(d0_1:¬w4_0=w4_0c1):ACalls Tryz.prog G 56 [.int .i64 p0,.int .i64 p1,.int .i64 p2,.int .i64 p3,.clo 57 [] [.ptr w4_0 r4_0_ 0]] σ (fun v σ'=>∃M:Nat,σ.next≤M∧v=.tup [.int .i64 r.1,.int .i64 r.2.1,.bool r.2.2.1]∧σ'=hp σ.objs [(w4_0,some ⟨30,6,W4_0.set r4_0_ [.fsl (eL zA r.2.2.2.Codes),.osl 42 2 (eL zX r.2.2.2.Threads),.osl 103 2 (eL kB r.2.2.2.Boxes),.int .i64 r.2.2.2.Turn,.int .i64 r.2.2.2.Idle,.osl 3 1 (eL rI r.2.2.2.Out)]⟩),(w4_0c1,none)] M):=by
 refine fr1 ([(w4_0,some ⟨30,6,W4_0⟩),(w4_0c1,some ⟨42,2,eL zX p4_0.Threads⟩)]) (by simp[q4_0,q4_0c1]) (fun hlt=>?_) ⟨_,Tryz.func56,rfl,rfl⟩
 generalize σ.next=N0 at hlt ⊢
 have lw4_0:w4_0<N0:=hlt _ (.head _) rfl
 have lw4_0c1:w4_0c1<N0:=hlt _ (.tail _ (.head _)) rfl
 have gs_W4_0:∀x,(W4_0.set r4_0_ x)[r4_0_]? =some x:=gsetW g4_0
 rw[← kH g4_0]
 refine fnK tok Tryz.func56 Tryz.ntmps56 Tryz.results56 ?_
 simp only[argsA,Nat.reduceAdd,hpN]
 unfold kL at H
 refine Sx tok [] [0,1,2,3,4] (by
  intro K k
  have e0:=nQ w4_0 w4_0c1
  simp -dsimp -implicitDefEqProofs [e0,gs_W4_0]
  exact k) ?_
 refine Wsq [2,3] fun K1 hK1=>?_
 refine Wbl (Wth ?_)
 obtain⟨e1,hse1,H⟩:=bE H
 refine zS [0,1,2,3,4] (fun s a σ=>∃M1:Nat,N0≤M1∧a=[(0,.int .i64 s.1),(1,.int .i64 p1),(2,.int .i64 s.2.1),(3,.int .i64 s.2.2.1),(4,.clo 57 [] [.ptr w4_0 r4_0_ 0])]∧σ=hp E0 [(w4_0,some ⟨30,6,W4_0.set r4_0_ [.fsl (eL zA s.2.2.2.Codes),.osl 42 2 (eL zX s.2.2.2.Threads),.osl 103 2 (eL kB s.2.2.2.Boxes),.int .i64 s.2.2.2.Turn,.int .i64 s.2.2.2.Idle,.osl 3 1 (eL rI s.2.2.2.Out)]⟩)] M1) (fun e x a σ=>match e with|.inl s=>x=.exit 0∧Rc G 42 N0 (fun a σ=>∃M2:Nat,N0≤M2∧a=[(2,.int .i64 s.1),(3,.int .i64 s.2.1)]∧σ=hp E0 [(w4_0,some ⟨30,6,W4_0.set r4_0_ [.fsl (eL zA s.2.2.Codes),.osl 42 2 (eL zX s.2.2.Threads),.osl 103 2 (eL kB s.2.2.Boxes),.int .i64 s.2.2.Turn,.int .i64 s.2.2.Idle,.osl 3 1 (eL rI s.2.2.Out)]⟩)] M2) (AAct.keep a [2,3]) σ|.inr s=>x=.ret∧∃vs,resA T σ a [.tmp 10,.tmp 11,.tmp 12]=some vs∧∃M:Nat,N0≤M∧(tupA vs)=.tup [.int .i64 s.1,.int .i64 s.2.1,.bool s.2.2.1]∧σ=hp E0 [(w4_0,some ⟨30,6,W4_0.set r4_0_ [.fsl (eL zA s.2.2.2.Codes),.osl 42 2 (eL zX s.2.2.2.Threads),.osl 103 2 (eL kB s.2.2.2.Boxes),.int .i64 s.2.2.2.Turn,.int .i64 s.2.2.2.Idle,.osl 3 1 (eL rI s.2.2.2.Out)]⟩),(w4_0c1,none)] M) hse1 ?_ ?_ ?_
 ·refine Rc.kp [0,1,2,3,4] [(0,.int .i64 p0),(1,.int .i64 p1),(2,.int .i64 p2),(3,.int .i64 p3),(4,.clo 57 [] [.ptr w4_0 r4_0_ 0])] rfl ?_
  refine gP zK w4_0 r4_0_ 1 ?_ (hr:=by exact gs_W4_0 _)
  exact Rf ⟨N0+3,(by omega),rfl,rfl⟩
 ·clear H hse1
  rintro⟨s1,s2,s3,s4⟩ fl a σ H ⟨M1,fM1_0,rfl,rfl⟩ K2 O2 hK2 hO2
  unfold zV at H;dsimp only at H
  refine Wsq [0,1,2,3,4] fun K3 hK3=>?_
  obtain⟨g8,hg8,H⟩:=bE H
  refine Sx tok [] [0,1,2,3,4,22] (X:=[(0,.int .i64 s1),(1,.int .i64 p1),(2,.int .i64 s2),(3,.int .i64 s3),(4,.clo 57 [] [.ptr w4_0 r4_0_ 0]),(22,.bool g8)]) (Y:=hp E0 [(w4_0,some ⟨30,6,W4_0.set r4_0_ [.fsl (eL zA s4.Codes),.osl 42 2 (eL zX s4.Threads),.osl 103 2 (eL kB s4.Boxes),.int .i64 s4.Turn,.int .i64 s4.Idle,.osl 3 1 (eL rI s4.Out)]⟩)] (M1+7)) (by
   intro K k
   simp -dsimp -implicitDefEqProofs [gs_W4_0]
   cases hbg8:igt s1 0
   ·obtain rfl:=oi (ifF hbg8 hg8)
    try simp -dsimp -implicitDefEqProofs [gs_W4_0,hbg8]
    exact k
   obtain rfl:=oi (ifT hbg8 hg8)
   try simp -dsimp -implicitDefEqProofs [gs_W4_0,hbg8]
   exact k) ?_
  refine Ci H (fun H=>?_) fun H=>?_
  ·refine Wsk (Jn hK3 ?_)
   refine Wsq [0,1,2,3,4] fun K4 hK4=>?_
   refine Wbl (Wth ?_)
   obtain⟨r9,hr9,H⟩:=bE H
   obtain⟨r10,hr10,H⟩:=bE H
   refine Sm tok [] [0,1,4,13,14,15] (M1+21) (by
    intro K k
    simp -dsimp -implicitDefEqProofs [gs_W4_0]
    refine(c57 (Wf0:=W4_0.set r4_0_ [.fsl (eL zA s4.Codes),.osl 42 2 (eL zX s4.Threads),.osl 103 2 (eL kB s4.Boxes),.int .i64 s4.Turn,.int .i64 s4.Idle,.osl 3 1 (eL rI s4.Out)]) (rf0_:=r4_0_) (H:=hr9) (by simp[gs_W4_0]) (by simp[gs_W4_0])).mono ?_;rintro _ _ ⟨M3,fM3_0,rfl,rfl⟩;simp only[hpN] at fM3_0
    try simp -dsimp -implicitDefEqProofs [gs_W4_0,hoS,hoN]
    refine(c36 hr10).app ?_;try simp -dsimp -implicitDefEqProofs [gs_W4_0,hoS,hoN]
    exact k M3 (by omega)) fun M3 fM3_0=>?_
   refine Wsq [0,1,4,13,14] fun K5 hK5=>?_
   refine Sx tok [] [0,1,4,13,14,37] (by intro K k;simp -dsimp -implicitDefEqProofs [gs_W4_0];exact k) ?_
   refine Ci H (fun H=>?_) fun H=>?_
   ·refine Sx tok [] [10,11,12] (by intro K k;simp -dsimp -implicitDefEqProofs [gs_W4_0];exact k) ?_
    obtain rfl:=oi H
    refine Kp [10,11,12] ?_
    refine Wr (hO2 _ _ _ _ rfl ⟨rfl,?_⟩)
    refine⟨[.int .i64 0,.int .i64 0,.bool false],by simp[gs_W4_0],M3+5,by omega,?_,?_⟩
    ·simp[eN]
    symm;first|exact hp_tail (L:=[(w4_0,some ⟨30,6,W4_0.set r4_0_ [.fsl (eL zA r9.2.Codes),.osl 42 2 (eL zX r9.2.Threads),.osl 103 2 (eL kB r9.2.Boxes),.int .i64 r9.2.Turn,.int .i64 r9.2.Idle,.osl 3 1 (eL rI r9.2.Out)]⟩)])|(simp only[List.set_set];exact hp_tail (L:=[(w4_0,some ⟨30,6,W4_0.set r4_0_ [.fsl (eL zA r9.2.Codes),.osl 42 2 (eL zX r9.2.Threads),.osl 103 2 (eL kB r9.2.Boxes),.int .i64 r9.2.Turn,.int .i64 r9.2.Idle,.osl 3 1 (eL rI r9.2.Out)]⟩)]))
   refine Wsk (Jn hK5 ?_)
   refine Rt tok [] [0,1,2,3,4] (by intro K k;simp -dsimp -implicitDefEqProofs [gs_W4_0];exact k) fun a ha=>?_
   refine hK4 _ _ ?_;rw[ha]
   refine Rc.mk ?_
   refine Rt tok [] [0,1,2,3,4] (by intro K k;simp -dsimp -implicitDefEqProofs [gs_W4_0];exact k) fun a ha=>?_
   obtain rfl:=oi H
   refine hK2 _ _ _ rfl ?_;rw[ha]
   exact Rf ⟨M3+9,(by omega),rfl,rfl⟩
  obtain rfl:=oi H
  refine zJ (hO2 _ _ _ _ rfl ⟨rfl,?_⟩)
  refine Rc.rw (l:=[2,3]) (X:=[(2,.int .i64 s2),(3,.int .i64 s3)]) rfl ?_
  exact Rf ⟨M1+7,(by omega),rfl,rfl⟩
 intro x a σ hx
 rcases e1 with⟨y5,y6,y7⟩|r0
 ·obtain⟨rfl,b,τ,hr,M2,fM2_0,rfl,rfl⟩:=hx
  (try dsimp only at H)
  show K1 _ _
  refine hK1 _ _ (zK hr ?_)
  refine Rc.mk ?_
  refine Sx tok [] [10,11,12] (by intro K k;simp -dsimp -implicitDefEqProofs [gs_W4_0];exact k) ?_
  obtain rfl:=oi H
  refine Kp [10,11,12] ?_
  refine Wr ?_
  refine⟨[.int .i64 y5,.int .i64 y6,.bool true],by simp[gs_W4_0],M2+5,by omega,?_,?_⟩
  ·simp[eN]
  symm;first|exact hp_tail (L:=[(w4_0,some ⟨30,6,W4_0.set r4_0_ [.fsl (eL zA y7.Codes),.osl 42 2 (eL zX y7.Threads),.osl 103 2 (eL kB y7.Boxes),.int .i64 y7.Turn,.int .i64 y7.Idle,.osl 3 1 (eL rI y7.Out)]⟩)])|(simp only[List.set_set];exact hp_tail (L:=[(w4_0,some ⟨30,6,W4_0.set r4_0_ [.fsl (eL zA y7.Codes),.osl 42 2 (eL zX y7.Threads),.osl 103 2 (eL kB y7.Boxes),.int .i64 y7.Turn,.int .i64 y7.Idle,.osl 3 1 (eL rI y7.Out)]⟩)]))
 obtain⟨rfl,hx2⟩:=hx
 (try dsimp only at H)
 obtain rfl:=oi H;first|exact hx2|(simp only[List.set_set] at hx2 ⊢;exact hx2)

theorem c20 {p0:gCrew}{p1:Int}{r:gCrew×Bool}(H:pA p0 p1=some r):APure Tryz.prog G 20 [.agg [.fsl (eL zA p0.Codes),.fsl (eL zF p0.Threads),.fsl (eL rBox p0.Boxes),.int .i64 p0.Turn,.int .i64 p0.Idle,.fsl (eL rI p0.Out)],.int .i64 p1] (.tup [.agg [.fsl (eL zA r.1.Codes),.fsl (eL zF r.1.Threads),.fsl (eL rBox r.1.Boxes),.int .i64 r.1.Turn,.int .i64 r.1.Idle,.fsl (eL rI r.1.Out)],.bool r.2]):=by
 refine zE (fun N0=>?_) (by simp)
 refine fnK tok Tryz.func20 Tryz.ntmps20 Tryz.results20 ?_
 simp only[argsA,Nat.reduceAdd,hpN]
 unfold pA at H
 refine S0 tok [0] [1,2,4] ?_
 refine Wsq [1,2,4] fun K1 hK1=>?_
 refine gW Wre (N0+1) 0 0 ?_
 refine gW Wre (N0+1) 0 1 ?_
 refine gW Wre (N0+1) 0 2 ?_
 refine gW Wre (N0+1) 0 5 ?_
 obtain⟨r1,hr1,H⟩:=bE H
 obtain⟨g2,hg2,H⟩:=bE H
 obtain⟨g3,hg3,H⟩:=bE H
 refine Sx tok [] [1,2,4,19] (X:=[(1,.int .i64 p1),(2,.fptr [.fsl (eL zA p0.Codes),.fsl (eL zF p0.Threads),.fsl (eL rBox p0.Boxes),.int .i64 p0.Turn,.int .i64 p0.Idle,.fsl (eL rI p0.Out)] 0),(4,.ptr (N0+1) 0 0),(19,.bool g3)]) (Y:=hp E0 [(N0+1,some ⟨30,6,[[.fsl [],.fsl [],.fsl [],.int .i64 0,.int .i64 0,.fsl []]]⟩)] (N0+14)) (by
  intro K k
  simp -dsimp -implicitDefEqProofs
  refine(c32 hr1).app ?_;try simp -dsimp -implicitDefEqProofs
  cases hbg2:bnot r1
  ·obtain rfl:=oi (ifF hbg2 hg2)
   try simp -dsimp -implicitDefEqProofs [hbg2]
   cases hbg3:(ilt p1 0)
   ·obtain rfl:=oi (ifF hbg3 hg3)
    try simp -dsimp -implicitDefEqProofs [hbg2,hbg3]
    exact k
   obtain rfl:=oi (ifT hbg3 hg3)
   try simp -dsimp -implicitDefEqProofs [hbg2,hbg3]
   exact k
  obtain rfl:=oi (ifT hbg2 hg2)
  obtain rfl:=oi (ifT rfl hg3)
  try simp -dsimp -implicitDefEqProofs [hbg2]
  exact k) ?_
 refine Ci H (fun H=>?_) fun H=>?_
 ·refine S0 tok [] [4,5] ?_
  obtain rfl:=oi H
  refine Kp [4,5] ?_
  refine Wr ?_
  exact⟨[.agg [.fsl [],.fsl [],.fsl [],.int .i64 0,.int .i64 0,.fsl []],.bool false],by simp,4,by simp[eN]⟩
 refine Wsk (Jn hK1 ?_)
 obtain⟨r4,hr4,H⟩:=bE H
 obtain⟨r5,hr5,H⟩:=bE H
 obtain⟨r6,hr6,H⟩:=bE H
 refine AWP_syC tok tokM [9] [5,8,10,11] [0,1,2,3,4,6,7,5,8,9,10,11] [] [1,2,4,6] (fun a σ=>∃M1 o1:Nat,∃M2 o2:Nat,N0+26≤M1∧N0+26≤o1∧o1<M1∧M1≤M2∧M1≤o2∧o2<M2∧a=[(1,.int .i64 p1),(2,.fptr [.fsl (eL zA p0.Codes),.fsl (eL zF p0.Threads),.fsl (eL rBox p0.Boxes),.int .i64 p0.Turn,.int .i64 p0.Idle,.fsl (eL rI p0.Out)] 0),(4,.ptr (N0+1) 0 0),(6,.ptr (N0+24) 0 0)]∧σ=hp E0 [(N0+1,some ⟨30,6,[[.fsl [],.fsl [],.fsl [],.int .i64 0,.int .i64 0,.fsl []]]⟩),(o1,some ⟨103,2,eL kB r5⟩),(o2,some ⟨3,1,eL rI r6⟩),(N0+24,some ⟨30,6,[[.fsl (eL zA r4),.nilsl,.sl o1 0 r5.length,.int .i64 0,.int .i64 0,.sl o2 0 r6.length]]⟩)] M2) (by decide) (by kernel_rfl) (fun K hK=>?_) ?_
 ·simp only[pickL,zO,zQ]
  simp -dsimp -implicitDefEqProofs
  refine Pc.mk (c43 hr4) ?_;try simp -dsimp -implicitDefEqProofs
  refine(c54_o2 (H:=hr5)).mono ?_;rintro _ _ ⟨M1,o1,fM1_0,fM1_1,fM1_2,rfl,rfl⟩;simp only[hpN] at fM1_0 fM1_1 fM1_2
  have eM1_0:=nQ o1 (N0+1)
  have eM1_1:=nQ o1 (N0+24)
  try simp -dsimp -implicitDefEqProofs [eM1_0,eM1_1,hoS,hoN]
  refine(c55_o (H:=hr6)).mono ?_;rintro _ _ ⟨M2,o2,fM2_0,fM2_1,fM2_2,rfl,rfl⟩;simp only[hpN] at fM2_0 fM2_1 fM2_2
  have eM2_0:=nQ o2 (N0+1)
  have eM2_1:=nQ o2 (N0+24)
  have eM2_2:=nQ o2 o1
  try simp -dsimp -implicitDefEqProofs [eM1_0,eM1_1,hoS,hoN,eM2_0,eM2_1,eM2_2]
  exact hK _ _ ⟨M1,o1,M2,o2,(by omega),(by omega),(by omega),(by omega),(by omega),(by omega),rfl,rfl⟩
 rintro a σ ⟨M1,o1,M2,o2,fM1_0,fM1_1,fM1_2,fM2_0,fM2_1,fM2_2,rfl,rfl⟩
 refine Wsq [1,2,4,6] fun K2 hK2=>?_
 refine Sx tok [] [1,2,4,6,32,33,34] (by
  intro K k
  have e0:=nQ (N0+1) o1
  have e1:=nQ (N0+1) o2
  have e2:=nQ o1 o2
  have e3:=nQ o1 (N0+24)
  have e4:=nQ o2 (N0+24)
  simp -dsimp -implicitDefEqProofs [e0,e1,e2,e3,e4]
  exact k) ?_
 refine Wbl (Wth ?_)
 obtain⟨e1,hse1,H⟩:=bE H
 refine zS [1,2,4,6,32,33,34] (fun s a σ=>∃M3 o3 o4:Nat,N0≤M3∧N0≤o3∧o3<M3∧N0≤o4∧o4<M3∧¬o3=o4∧a=[(1,.int .i64 p1),(2,.fptr [.fsl (eL zA p0.Codes),.fsl (eL zF p0.Threads),.fsl (eL rBox p0.Boxes),.int .i64 p0.Turn,.int .i64 p0.Idle,.fsl (eL rI p0.Out)] 0),(4,.ptr o3 0 0),(6,.ptr o4 0 0),(32,.fsl (eL zF p0.Threads)),(33,.int .i64 (ilen p0.Threads)),(34,.int .i64 s.1)]∧σ=hp E0 [(o3,some ⟨30,6,[[.fsl (eL zA s.2.1.Codes),.fsl (eL zF s.2.1.Threads),.fsl (eL rBox s.2.1.Boxes),.int .i64 s.2.1.Turn,.int .i64 s.2.1.Idle,.fsl (eL rI s.2.1.Out)]]⟩),(o4,some ⟨30,6,[[.fsl (eL zA s.2.2.Codes),.osl 42 2 (eL zX s.2.2.Threads),.osl 103 2 (eL kB s.2.2.Boxes),.int .i64 s.2.2.Turn,.int .i64 s.2.2.Idle,.osl 3 1 (eL rI s.2.2.Out)]]⟩)] M3) (fun s x a σ=>x=.exit 0∧Rc G 67 N0 (fun a σ=>∃M4 o5 o6:Nat,N0≤M4∧N0≤o5∧o5<M4∧N0≤o6∧o6<M4∧¬o5=o6∧a=[(1,.int .i64 p1),(2,.fptr [.fsl (eL zA p0.Codes),.fsl (eL zF p0.Threads),.fsl (eL rBox p0.Boxes),.int .i64 p0.Turn,.int .i64 p0.Idle,.fsl (eL rI p0.Out)] 0),(4,.ptr o5 0 0),(6,.ptr o6 0 0)]∧σ=hp E0 [(o5,some ⟨30,6,[[.fsl (eL zA s.1.Codes),.fsl (eL zF s.1.Threads),.fsl (eL rBox s.1.Boxes),.int .i64 s.1.Turn,.int .i64 s.1.Idle,.fsl (eL rI s.1.Out)]]⟩),(o6,some ⟨30,6,[[.fsl (eL zA s.2.Codes),.osl 42 2 (eL zX s.2.Threads),.osl 103 2 (eL kB s.2.Boxes),.int .i64 s.2.Turn,.int .i64 s.2.Idle,.osl 3 1 (eL rI s.2.Out)]]⟩)] M4) (AAct.keep a [1,2,4,6]) σ) hse1 ?_ ?_ ?_
 ·refine Rc.kp [1,2,4,6,32,33,34] [(1,.int .i64 p1),(2,.fptr [.fsl (eL zA p0.Codes),.fsl (eL zF p0.Threads),.fsl (eL rBox p0.Boxes),.int .i64 p0.Turn,.int .i64 p0.Idle,.fsl (eL rI p0.Out)] 0),(4,.ptr (N0+1) 0 0),(6,.ptr (N0+24) 0 0),(32,.fsl (eL zF p0.Threads)),(33,.int .i64 (ilen p0.Threads)),(34,.int .i64 0)] rfl ?_
  refine gP0 zK (N0+24) 0 1 42 2 (eL zX ([]:List gThread)) ?_
  refine gP zK (N0+24) 0 2 ?_
  refine gP zK (N0+24) 0 5 ?_
  exact Rf ⟨M2+4,(N0+1),(N0+24),(by omega),(by omega),(by omega),(by omega),(by omega),(by omega),rfl,rfl⟩
 ·clear H hse1
  rintro⟨s7,s8,s9⟩ fl a σ H ⟨M3,o3,o4,fM3_0,fM3_1,fM3_2,fM3_3,fM3_4,fM3_5,rfl,rfl⟩ K3 O3 hK3 hO3
  unfold uH at H;dsimp only at H
  refine Sx tok [] [1,2,4,6,32,33,34,35] (by
   intro K k
   have e0:=nQ o3 o4
   simp -dsimp -implicitDefEqProofs [e0]
   exact k) ?_
  refine Wsq [1,2,4,6,32,33,34] fun K4 hK4=>?_
  refine Ci H (fun H=>?_) fun H=>?_
  ·refine Wsk (Jn hK4 ?_)
   refine Wsq [1,2,4,6,32,33,34] fun K5 hK5=>?_
   refine Wbl (Wth ?_)
   obtain⟨v12,hv12,H⟩:=bE H
   refine Sx tok [] [1,2,4,6,8,32,33,34] (by
    intro K k
    have e0:=nQ o3 o4
    have e1:=nQ o3 (M3+3)
    have e2:=nQ o4 (M3+3)
    simp -dsimp -implicitDefEqProofs [e0,e1,e2,ix27 hv12]
    exact k) ?_
   refine gU Wre o4 0 1 ?_
   obtain⟨r13,hr13,H⟩:=bE H
   obtain⟨l14,hl14,H⟩:=bE H
   have q0:∀(a0:Nat) (a1:Nat) (a2:Int) σ i,bsA T 27 true i 1 [(0,.agg [.sl a0 0 a1,.int .i64 a2])] σ=some (.fsl [[.sl a0 0 a1,.int .i64 a2]],σ):=fun _ _ _ _ _=>rfl
   refine AWP_ry tok tokM [8] [1,3,4,6,7,8,9,11] [0,2,5,1,3,6,4,7,8,9,10,11] [(4,[1,6]),(8,[1])] [1,2,4,6,32,33,34] (fun a σ=>∃M5 o7:Nat,M3+18≤M5∧M3+18≤o7∧o7<M5∧a=[(1,.int .i64 p1),(2,.fptr [.fsl (eL zA p0.Codes),.fsl (eL zF p0.Threads),.fsl (eL rBox p0.Boxes),.int .i64 p0.Turn,.int .i64 p0.Idle,.fsl (eL rI p0.Out)] 0),(4,.ptr o3 0 0),(6,.ptr o4 0 0),(32,.fsl (eL zF p0.Threads)),(33,.int .i64 (ilen p0.Threads)),(34,.int .i64 s7)]∧σ=hp E0 [(o3,some ⟨30,6,[[.fsl (eL zA s8.Codes),.fsl (eL zF s8.Threads),.fsl (eL rBox s8.Boxes),.int .i64 s8.Turn,.int .i64 s8.Idle,.fsl (eL rI s8.Out)]]⟩),(o4,some ⟨30,6,[[.fsl (eL zA s9.Codes),.sl (M3+15) 0 l14.length,.osl 103 2 (eL kB s9.Boxes),.int .i64 s9.Turn,.int .i64 s9.Idle,.osl 3 1 (eL rI s9.Out)]]⟩),(M3+3,some ⟨42,2,[[.fsl (eL rI v12.Regs),.int .i64 v12.Pc]]⟩),(o7,some ⟨3,1,eL rI r13⟩),(M3+15,some ⟨42,2,eL zX s9.Threads++[[.sl o7 0 r13.length,.int .i64 v12.Pc]]⟩)] M5) (by decide) (fun K hK=>?_) ?_
   ·simp only[pickL,zO,zQ]
    have e0:=nQ o3 o4
    have e1:=nQ o3 (M3+3)
    have e2:=nQ o3 (M3+5)
    have e3:=nQ o3 (M3+15)
    have e4:=nQ o4 (M3+3)
    have e5:=nQ o4 (M3+5)
    have e6:=nQ o4 (M3+15)
    simp -dsimp -implicitDefEqProofs [e0,e1,e2,e3,e4,e5,e6,q0,apr27 zX hl14]
    refine(c55_o (H:=hr13)).mono ?_;rintro _ _ ⟨M5,o7,fM5_0,fM5_1,fM5_2,rfl,rfl⟩;simp only[hpN] at fM5_0 fM5_1 fM5_2
    have eM5_0:=nQ o7 o3
    have eM5_1:=nQ o7 o4
    have eM5_2:=nQ o7 (M3+3)
    have eM5_3:=nQ o7 (M3+5)
    have eM5_4:=nQ o7 (M3+15)
    try simp -dsimp -implicitDefEqProofs [e0,e1,e2,e3,e4,e5,e6,q0,apr27 zX hl14,eM5_0,eM5_1,eM5_2,eM5_3,eM5_4,hoS,hoN]
    exact hK _ _ ⟨M5,o7,(by omega),(by omega),(by omega),rfl,rfl⟩
   rintro a σ ⟨M5,o7,fM5_0,fM5_1,fM5_2,ha,rfl⟩
   refine hK5 _ _ ?_;rw[ha]
   refine Rc.mk ?_
   refine gP Wre (M3+15) s9.Threads.length 0 ?_ (hr:=by exact fQ _ _ _)
   rw[show hp E0 [(o3,some ⟨30,6,[[.fsl (eL zA s8.Codes),.fsl (eL zF s8.Threads),.fsl (eL rBox s8.Boxes),.int .i64 s8.Turn,.int .i64 s8.Idle,.fsl (eL rI s8.Out)]]⟩),(o4,some ⟨30,6,[[.fsl (eL zA s9.Codes),.sl (M3+15) 0 l14.length,.osl 103 2 (eL kB s9.Boxes),.int .i64 s9.Turn,.int .i64 s9.Idle,.osl 3 1 (eL rI s9.Out)]]⟩),(M3+3,some ⟨42,2,[[.fsl (eL rI v12.Regs),.int .i64 v12.Pc]]⟩),(M3+15,some ⟨42,2,eL zX s9.Threads++[[.osl 3 1 (eL rI r13),.int .i64 v12.Pc]]⟩)] M5=hp E0 [(o3,some ⟨30,6,[[.fsl (eL zA s8.Codes),.fsl (eL zF s8.Threads),.fsl (eL rBox s8.Boxes),.int .i64 s8.Turn,.int .i64 s8.Idle,.fsl (eL rI s8.Out)]]⟩),(o4,some ⟨30,6,[[.fsl (eL zA s9.Codes),.sl (M3+15) 0 l14.length,.osl 103 2 (eL kB s9.Boxes),.int .i64 s9.Turn,.int .i64 s9.Idle,.osl 3 1 (eL rI s9.Out)]]⟩),(M3+3,some ⟨42,2,[[.fsl (eL rI v12.Regs),.int .i64 v12.Pc]]⟩),(M3+15,some ⟨42,2,eL zX l14⟩)] M5 from by rw[← fR (f:=zX) (c:=[.osl 3 1 (eL rI r13),.int .i64 v12.Pc]) hl14 rfl]]
   refine Rt tok [] [1,2,4,6,32,33,34] (by
    intro K k
    have e0:=nQ o3 o4
    have e1:=nQ o3 (M3+3)
    have e2:=nQ o3 (M3+15)
    have e3:=nQ o4 (M3+3)
    have e4:=nQ o4 (M3+15)
    simp -dsimp -implicitDefEqProofs [e0,e1,e2,e3,e4]
    exact k) fun a ha=>?_
   obtain rfl:=oi H
   refine hK3 _ _ _ rfl ?_;rw[ha]
   refine gP zK o4 0 1 ?_
   exact Rc.fin (zP (zP (AHeap.Sub.trans (AHeap.Sub.refl _) (zY rfl (by simp;try omega))))) ⟨M5+2,o3,o4,(by omega),(by omega),(by omega),(by omega),(by omega),(by omega),rfl,rfl⟩
  obtain rfl:=oi H
  refine zJ (hO3 _ _ _ _ rfl ⟨rfl,?_⟩)
  refine Rc.rw (l:=[1,2,4,6]) (X:=[(1,.int .i64 p1),(2,.fptr [.fsl (eL zA p0.Codes),.fsl (eL zF p0.Threads),.fsl (eL rBox p0.Boxes),.int .i64 p0.Turn,.int .i64 p0.Idle,.fsl (eL rI p0.Out)] 0),(4,.ptr o3 0 0),(6,.ptr o4 0 0)]) rfl ?_
  exact Rf ⟨M3+1,o3,o4,(by omega),(by omega),(by omega),(by omega),(by omega),(by omega),rfl,rfl⟩
 intro x a σ hx
 obtain⟨y10,y11⟩:=e1
 obtain⟨rfl,b,τ,hr,M4,o5,o6,fM4_0,fM4_1,fM4_2,fM4_3,fM4_4,fM4_5,rfl,rfl⟩:=hx
 (try dsimp only at H)
 show K2 _ _
 refine hK2 _ _ (zK hr ?_)
 refine Rc.mk ?_
 refine gU Wre o6 0 1 ?_
 obtain⟨r15,hr15,H⟩:=bE H
 refine Sm tok [] [4,6] (M4+19) (by
  intro K k
  have e0:=nQ o5 o6
  have e1:=nQ o5 M4
  have e2:=nQ o6 M4
  simp -dsimp -implicitDefEqProofs [e0,e1,e2]
  refine(c56_i_CrewRun_1_c4_0_1 (w4_0c1:=M4) (W4_0:=[[.fsl (eL zA y11.Codes),.sl M4 0 y11.Threads.length,.osl 103 2 (eL kB y11.Boxes),.int .i64 y11.Turn,.int .i64 y11.Idle,.osl 3 1 (eL rI y11.Out)]]) (r4_0_:=0) (H:=hr15) (by simp[e0,e1,e2]) (by simp[e0,e1,e2]) (by simp[e0,e1,e2]) (by simp[e0,e1,e2])).mono ?_;rintro _ _ ⟨M6,fM6_0,rfl,rfl⟩;simp only[hpN] at fM6_0
  try simp -dsimp -implicitDefEqProofs [e0,e1,e2,hoS,hoN]
  exact k M6 (by omega)) fun M6 fM6_0=>?_
 refine gU Wre o6 0 1 ?_
 refine gU Wre o6 0 2 ?_
 refine gU Wre o6 0 5 ?_
 refine Sx tok [] [4,5] (by
  intro K k
  have e0:=nQ o5 o6
  have e1:=nQ o5 M6
  have e2:=nQ o5 (M6+1)
  have e3:=nQ o5 (M6+2)
  have e4:=nQ o6 M6
  have e5:=nQ o6 (M6+1)
  have e6:=nQ o6 (M6+2)
  simp -dsimp -implicitDefEqProofs [e0,e1,e2,e3,e4,e5,e6]
  exact k) ?_
 obtain rfl:=oi H
 refine Kp [4,5] ?_
 have z0:=nQ o5 o6
 have z1:=nQ o5 M6
 have z2:=nQ o5 (M6+1)
 have z3:=nQ o5 (M6+2)
 have z4:=nQ o6 M6
 have z5:=nQ o6 (M6+1)
 have z6:=nQ o6 (M6+2)
 refine Wr ?_
 exact⟨[.agg [.fsl (eL zA r15.2.2.2.Codes),.sl M6 0 r15.2.2.2.Threads.length,.sl (M6+1) 0 r15.2.2.2.Boxes.length,.int .i64 r15.1,.int .i64 r15.2.1,.sl (M6+2) 0 r15.2.2.2.Out.length],.bool true],by simp[z0,z1,z2,z3,z4,z5,z6],4,by simp[eN,z0,z1,z2,z3,z4,z5,z6]⟩
end Go.Proofs.YtolmjhgondilhaaGreat
