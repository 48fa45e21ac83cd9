/- The contracts of functions of the program (CXReachRun): each computes what its mirror computes. No conditions. -/
import Derived.Test.YtolmjhgondilhaaGreatNCT4
set_option linter.unusedSimpArgs false
set_option linter.unusedVariables false
set_option maxRecDepth 20000
set_option maxHeartbeats 4000000
namespace Go.Proofs.YtolmjhgondilhaaGreat
open Go Go.Abs Go.RowKit

theorem c4 {p0:List Int}{p1:List Int}{r:Bool}(H:sJ p0 p1=some r):APure Tryz.prog G 4 [.fsl (eL rU8 p0),.fsl (eL rU8 p1)] (.bool r):=by
 refine zE (fun N0=>?_) (by simp)
 refine fnK tok Tryz.func4 Tryz.ntmps4 Tryz.results4 ?_
 simp only[argsA,Nat.reduceAdd,hpN]
 unfold sJ at H
 refine S0 tok [] [0,1] ?_
 refine Wsq [0,1] fun K1 hK1=>?_
 obtain⟨g1,hg1,H⟩:=bE H
 refine Sx tok [] [0,1,20] (X:=[(0,.fsl (eL rU8 p0)),(1,.fsl (eL rU8 p1)),(20,.bool g1)]) (Y:=hp E0 [] (N0+9)) (by
  intro K k
  simp -dsimp -implicitDefEqProofs
  cases hbg1:igt (ilen p0) 1048576
  ·obtain rfl:=oi (ifF hbg1 hg1)
   try simp -dsimp -implicitDefEqProofs [hbg1]
   exact k
  obtain rfl:=oi (ifT hbg1 hg1)
  try simp -dsimp -implicitDefEqProofs [hbg1]
  exact k) ?_
 refine Ci H (fun H=>?_) fun H=>?_
 ·refine S0 tok [] [4] ?_
  obtain rfl:=oi H;exact Wr ⟨_,rfl,4,by simp[eN]⟩
 refine Wsk (Jn hK1 ?_)
 obtain⟨r2,hr2,H⟩:=bE H
 refine Sx tok [] [1,5,6] (by intro K k;(repeat first|simp -dsimp -implicitDefEqProofs|refine(c12 hr2).app ?_);exact k) ?_
 obtain⟨r3,hr3,H⟩:=bE H
 refine Sx tok [] [1,5,6,7,8] (by intro K k;(repeat first|simp -dsimp -implicitDefEqProofs|refine(c13 hr3).app ?_);exact k) ?_
 obtain⟨r4,hr4,H⟩:=bE H
 refine Sx tok [] [1,5,6,7,8,9,10] (by intro K k;(repeat first|simp -dsimp -implicitDefEqProofs|refine(c14 hr4).app ?_);exact k) ?_
 refine Wsq [1,5,6] fun K2 hK2=>?_
 obtain⟨g6,hg6,H⟩:=bE H
 obtain⟨g7,hg7,H⟩:=bE H
 refine Sx tok [] [1,5,6,7,8,9,10,50] (X:=[(1,.fsl (eL rU8 p1)),(5,.fsl (eL rI r2.1)),(6,.fsl (eL zA r2.2)),(7,.ptr (N0+22) 0 0),(8,.bool r3.2),(9,.ptr (N0+31) 0 0),(10,.bool r4.2),(50,.bool g7)]) (Y:=hp E0 [(N0+22,some ⟨30,6,[[.fsl (eL zA r3.1.Codes),.fsl (eL zF r3.1.Threads),.fsl (eL rBox r3.1.Boxes),.int .i64 r3.1.Turn,.int .i64 r3.1.Idle,.fsl (eL rI r3.1.Out)]]⟩),(N0+31,some ⟨30,6,[[.fsl (eL zA r4.1.Codes),.fsl (eL zF r4.1.Threads),.fsl (eL rBox r4.1.Boxes),.int .i64 r4.1.Turn,.int .i64 r4.1.Idle,.fsl (eL rI r4.1.Out)]]⟩)] (N0+47)) (by
  intro K k
  simp -dsimp -implicitDefEqProofs
  cases hbg6:bneb r3.2 r4.2
  ·replace hg6:=ifF hbg6 hg6
   obtain⟨r5,hr5,hg6⟩:=bE hg6
   obtain rfl:=oi hg6
   try simp -dsimp -implicitDefEqProofs [hbg6]
   refine(c15 hr5).app ?_;try simp -dsimp -implicitDefEqProofs [hbg6]
   cases hbg7:(bnot r5)
   ·obtain rfl:=oi (ifF hbg7 hg7)
    try simp -dsimp -implicitDefEqProofs [hbg6,hbg7]
    exact k
   obtain rfl:=oi (ifT hbg7 hg7)
   try simp -dsimp -implicitDefEqProofs [hbg6,hbg7]
   exact k
  obtain rfl:=oi (ifT hbg6 hg6)
  obtain rfl:=oi (ifT rfl hg7)
  try simp -dsimp -implicitDefEqProofs [hbg6]
  exact k) ?_
 refine Ci H (fun H=>?_) fun H=>?_
 ·obtain⟨g9,hg9,H⟩:=bE H
  refine Sx tok [] [4] (X:=[(4,.bool g9)]) (Y:=hp E0 [(N0+22,some ⟨30,6,[[.fsl (eL zA r3.1.Codes),.fsl (eL zF r3.1.Threads),.fsl (eL rBox r3.1.Boxes),.int .i64 r3.1.Turn,.int .i64 r3.1.Idle,.fsl (eL rI r3.1.Out)]]⟩),(N0+31,some ⟨30,6,[[.fsl (eL zA r4.1.Codes),.fsl (eL zF r4.1.Threads),.fsl (eL rBox r4.1.Boxes),.int .i64 r4.1.Turn,.int .i64 r4.1.Idle,.fsl (eL rI r4.1.Out)]]⟩)] (N0+56)) (by
   intro K k
   simp -dsimp -implicitDefEqProofs
   cases hbg9:beqb r3.2 r4.2
   ·obtain rfl:=oi (ifF hbg9 hg9)
    try simp -dsimp -implicitDefEqProofs [hbg9]
    exact k
   replace hg9:=ifT hbg9 hg9
   obtain⟨r8,hr8,hg9⟩:=bE hg9
   obtain rfl:=oi hg9
   try simp -dsimp -implicitDefEqProofs [hbg9]
   refine(c15 hr8).app ?_;try simp -dsimp -implicitDefEqProofs [hbg9]
   exact k) ?_
  obtain rfl:=oi H;exact Wr ⟨_,rfl,4,by simp[eN]⟩
 refine Wsk (Jn hK2 ?_)
 obtain⟨v10,hv10,H⟩:=bE H
 obtain⟨r11,hr11,H⟩:=bE H
 refine Sx tok [] [6,11] (by intro K k;(repeat first|simp -dsimp -implicitDefEqProofs [hv10]|refine(c17 hr11).app ?_);exact k) ?_
 refine Wsq [] fun K3 hK3=>?_
 refine S0 tok [] [6,11,12] ?_
 refine Wbl (Wth ?_)
 obtain⟨e1,hse1,H⟩:=bE H
 refine zS [6,11,12] (fun s a σ=>∃M1 o1:Nat,N0≤M1∧N0≤o1∧o1<M1∧a=[(6,.fsl (eL zA r2.2)),(11,.ptr o1 0 0),(12,.int .i64 s.1)]∧σ=hp E0 [(o1,some ⟨30,6,[[.fsl (eL zA s.2.Codes),.fsl (eL zF s.2.Threads),.fsl (eL rBox s.2.Boxes),.int .i64 s.2.Turn,.int .i64 s.2.Idle,.fsl (eL rI s.2.Out)]]⟩)] M1) (fun e x a σ=>match e with|.inl s=>x=.exit 0∧Rc G 93 N0 (fun a σ=>∃M2:Nat,N0≤M2∧a=[]∧σ=hp E0 [] M2) (AAct.keep a []) σ|.inr s=>x=.ret∧∃vs,resA T σ a [.tmp 4]=some vs∧∃d,thawA (fun _=>true) σ d (tupA vs)=.bool s) hse1 ?_ ?_ ?_
 ·refine Rc.kp [6,11,12] [(6,.fsl (eL zA r2.2)),(11,.ptr (N0+53) 0 0),(12,.int .i64 0)] rfl ?_
  exact Rc.fin (AHeap.Sub.trans (AHeap.Sub.trans (zP (AHeap.Sub.refl _)) (zY rfl (by simp;try omega))) (zY rfl (by simp;try omega))) ⟨N0+56,(N0+53),(by omega),(by omega),(by omega),rfl,rfl⟩
 ·clear H hse1
  rintro⟨s12,s13⟩ fl a σ H ⟨M1,o1,fM1_0,fM1_1,fM1_2,rfl,rfl⟩ K4 O4 hK4 hO4
  unfold jD at H;dsimp only at H
  refine Wsq [6,11,12] fun K5 hK5=>?_
  refine S0 tok [] [6,11,12,68] ?_
  refine Ci H (fun H=>?_) fun H=>?_
  ·refine Wsk (Jn hK5 ?_)
   refine Wsq [6,11,12] fun K6 hK6=>?_
   refine Wbl (Wth ?_)
   obtain⟨g18,hg18,H⟩:=bE H
   refine mP tok tokM [] [1,13] [0,3,4,1,2,5,6,7,8,9,10,11,12,14,13,15,16,17,18,19,20,21] [6,11,12,92] (fun a σ=>a=[(6,.fsl (eL zA r2.2)),(11,.ptr o1 0 0),(12,.int .i64 s12),(92,.bool g18)]∧σ=hp E0 [(o1,some ⟨30,6,[[.fsl (eL zA s13.Codes),.fsl (eL zF s13.Threads),.fsl (eL rBox s13.Boxes),.int .i64 s13.Turn,.int .i64 s13.Idle,.fsl (eL rI s13.Out)]]⟩)] (M1+26)) (by decide) (fun K hK=>?_) ?_
   ·simp only[pickL,zO,zQ]
    simp -dsimp -implicitDefEqProofs
    cases hbg18:ine (ilen s13.Threads) (ilen r2.2)
    ·replace hg18:=ifF hbg18 hg18
     obtain⟨v14,hv14,hg18⟩:=bE hg18
     obtain⟨r15,hr15,hg18⟩:=bE hg18
     obtain⟨v16,hv16,hg18⟩:=bE hg18
     obtain⟨v17,hv17,hg18⟩:=bE hg18
     obtain rfl:=oi hg18
     try simp -dsimp -implicitDefEqProofs [hbg18,ix24 hv14,ix27 hv16,ix39 hv17]
     refine Pc.mk (c18 hr15) ?_;try simp -dsimp -implicitDefEqProofs [hbg18,ix24 hv14,ix27 hv16,ix39 hv17]
     exact hK _ _ ⟨rfl,rfl⟩
    obtain rfl:=oi (ifT hbg18 hg18)
    try simp -dsimp -implicitDefEqProofs [hbg18]
    exact hK _ _ ⟨rfl,rfl⟩
   rintro a σ ⟨rfl,rfl⟩
   refine Ci H (fun H=>?_) fun H=>?_
   ·refine S0 tok [] [4] ?_
    obtain rfl:=oi H
    refine Kp [4] ?_
    refine Wr (hO4 _ _ _ _ rfl ⟨rfl,?_⟩)
    exact⟨[.bool false],by simp,4,by simp[eN]⟩
   refine Wsk (Jn hK6 ?_)
   refine Rt0 tok [] [6,11,12] fun a ha=>?_
   obtain rfl:=oi H
   refine hK4 _ _ _ rfl ?_;rw[ha]
   exact Rf ⟨M1+29,o1,(by omega),(by omega),(by omega),rfl,rfl⟩
  obtain rfl:=oi H
  refine zJ (hO4 _ _ _ _ rfl ⟨rfl,?_⟩)
  refine Rc.rw (l:=[]) (X:=[]) rfl ?_
  exact Rc.fin (AHeap.Sub.trans (AHeap.Sub.refl _) (zY rfl (by simp;try omega))) ⟨M1+4,(by omega),rfl,rfl⟩
 intro x a σ hx
 rcases e1 with⟨⟩|r0
 ·obtain⟨rfl,b,τ,hr,M2,fM2_0,rfl,rfl⟩:=hx
  (try dsimp only at H)
  show K3 _ _
  refine hK3 _ _ (zK hr ?_)
  refine Rc.mk ?_
  refine S0 tok [] [4] ?_
  obtain rfl:=oi H;exact Wr ⟨_,rfl,4,by simp[eN]⟩
 obtain⟨rfl,hx2⟩:=hx
 (try dsimp only at H)
 obtain rfl:=oi H;first|exact hx2|(simp only[List.set_set] at hx2 ⊢;exact hx2)
end Go.Proofs.YtolmjhgondilhaaGreat
