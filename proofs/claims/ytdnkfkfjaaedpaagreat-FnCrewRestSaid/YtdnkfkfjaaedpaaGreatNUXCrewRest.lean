/- The contracts of functions of the program (UXCrewRest): each computes what its mirror computes. No conditions. -/
import Derived.Test.YtdnkfkfjaaedpaaGreatNUT4
set_option linter.unusedSimpArgs false
set_option linter.unusedVariables false
set_option maxRecDepth 20000
set_option maxHeartbeats 4000000
namespace Go.Proofs.YtdnkfkfjaaedpaaGreat
open Go Go.Abs Go.RowKit

theorem c14 {p0:List Int}{p1:List Int}{r:Bool}(H:sI p0 p1=some r):APure Tryz.prog G 14 [.fsl (eL rU8 p0),.fsl (eL rU8 p1)] (.bool r):=by
 refine zE (fun N0=>?_) (by simp)
 refine fnK tok Tryz.func14 Tryz.ntmps14 Tryz.results14 ?_
 simp only[argsA,Nat.reduceAdd,hpN]
 unfold sI at H
 refine S0 tok [] [0,1] ?_
 refine Wsq [0,1] fun K1 hK1=>?_
 obtain⟨g1,hg1,H⟩:=bE H
 refine Sx tok [] [0,1,26] (X:=[(0,.fsl (eL rU8 p0)),(1,.fsl (eL rU8 p1)),(26,.bool g1)]) (Y:=hp E0 [] (N0+9)) (by
  intro K k
  simp -dsimp -implicitDefEqProofs
  cases hbg1:igt (ilen p0) 1048576
  ·obtain rfl:=oi (ifF hbg1 hg1)
   try simp -dsimp -implicitDefEqProofs [hbg1]
   exact k
  obtain rfl:=oi (ifT hbg1 hg1)
  try simp -dsimp -implicitDefEqProofs [hbg1]
  exact k) ?_
 refine Ci H (fun H=>?_) fun H=>?_
 ·refine S0 tok [] [4] ?_
  obtain rfl:=oi H;exact Wr ⟨_,rfl,4,by simp[eN]⟩
 refine Wsk (Jn hK1 ?_)
 obtain⟨r2,hr2,H⟩:=bE H
 refine Sx tok [] [1,5,6] (by intro K k;(repeat first|simp -dsimp -implicitDefEqProofs|refine(c40 hr2).app ?_);exact k) ?_
 obtain⟨r3,hr3,H⟩:=bE H
 refine Sx tok [] [1,5,6,7,8] (by intro K k;(repeat first|simp -dsimp -implicitDefEqProofs|refine(c41 hr3).app ?_);exact k) ?_
 obtain⟨r4,hr4,H⟩:=bE H
 refine Sx tok [] [1,5,6,7,8,9,10] (by intro K k;(repeat first|simp -dsimp -implicitDefEqProofs|refine(c42 hr4).app ?_);exact k) ?_
 refine Wsq [1,5,6] fun K2 hK2=>?_
 obtain⟨g6,hg6,H⟩:=bE H
 obtain⟨g7,hg7,H⟩:=bE H
 refine Sx tok [] [1,5,6,7,8,9,10,56] (X:=[(1,.fsl (eL rU8 p1)),(5,.fsl (eL rI r2.1)),(6,.fsl (eL zA r2.2)),(7,.ptr (N0+22) 0 0),(8,.bool r3.2),(9,.ptr (N0+31) 0 0),(10,.bool r4.2),(56,.bool g7)]) (Y:=hp E0 [(N0+22,some ⟨59,6,[[.fsl (eL zA r3.1.Codes),.fsl (eL zF r3.1.Threads),.fsl (eL rBox r3.1.Boxes),.int .i64 r3.1.Turn,.int .i64 r3.1.Idle,.fsl (eL rI r3.1.Out)]]⟩),(N0+31,some ⟨59,6,[[.fsl (eL zA r4.1.Codes),.fsl (eL zF r4.1.Threads),.fsl (eL rBox r4.1.Boxes),.int .i64 r4.1.Turn,.int .i64 r4.1.Idle,.fsl (eL rI r4.1.Out)]]⟩)] (N0+47)) (by
  intro K k
  simp -dsimp -implicitDefEqProofs
  cases hbg6:bneb r3.2 r4.2
  ·replace hg6:=ifF hbg6 hg6
   obtain⟨r5,hr5,hg6⟩:=bE hg6
   obtain rfl:=oi hg6
   try simp -dsimp -implicitDefEqProofs [hbg6]
   refine(c43 hr5).app ?_;try simp -dsimp -implicitDefEqProofs [hbg6]
   cases hbg7:(bnot r5)
   ·obtain rfl:=oi (ifF hbg7 hg7)
    try simp -dsimp -implicitDefEqProofs [hbg6,hbg7]
    exact k
   obtain rfl:=oi (ifT hbg7 hg7)
   try simp -dsimp -implicitDefEqProofs [hbg6,hbg7]
   exact k
  obtain rfl:=oi (ifT hbg6 hg6)
  obtain rfl:=oi (ifT rfl hg7)
  try simp -dsimp -implicitDefEqProofs [hbg6]
  exact k) ?_
 refine Ci H (fun H=>?_) fun H=>?_
 ·obtain⟨g9,hg9,H⟩:=bE H
  refine Sx tok [] [4] (X:=[(4,.bool g9)]) (Y:=hp E0 [(N0+22,some ⟨59,6,[[.fsl (eL zA r3.1.Codes),.fsl (eL zF r3.1.Threads),.fsl (eL rBox r3.1.Boxes),.int .i64 r3.1.Turn,.int .i64 r3.1.Idle,.fsl (eL rI r3.1.Out)]]⟩),(N0+31,some ⟨59,6,[[.fsl (eL zA r4.1.Codes),.fsl (eL zF r4.1.Threads),.fsl (eL rBox r4.1.Boxes),.int .i64 r4.1.Turn,.int .i64 r4.1.Idle,.fsl (eL rI r4.1.Out)]]⟩)] (N0+56)) (by
   intro K k
   simp -dsimp -implicitDefEqProofs
   cases hbg9:beqb r3.2 r4.2
   ·obtain rfl:=oi (ifF hbg9 hg9)
    try simp -dsimp -implicitDefEqProofs [hbg9]
    exact k
   replace hg9:=ifT hbg9 hg9
   obtain⟨r8,hr8,hg9⟩:=bE hg9
   obtain rfl:=oi hg9
   try simp -dsimp -implicitDefEqProofs [hbg9]
   refine(c43 hr8).app ?_;try simp -dsimp -implicitDefEqProofs [hbg9]
   exact k) ?_
  obtain rfl:=oi H;exact Wr ⟨_,rfl,4,by simp[eN]⟩
 refine Wsk (Jn hK2 ?_)
 obtain⟨r10,hr10,H⟩:=bE H
 refine Sx tok [] [1,6,11] (by intro K k;(repeat first|simp -dsimp -implicitDefEqProofs|refine(c45 hr10).app ?_);exact k) ?_
 refine Wsq [1,11] fun K3 hK3=>?_
 refine S0 tok [] [1,6,11,73] ?_
 refine Ci H (fun H=>?_) fun H=>?_
 ·refine S0 tok [] [4] ?_
  obtain rfl:=oi H;exact Wr ⟨_,rfl,4,by simp[eN]⟩
 refine Wsk (Jn hK3 ?_)
 refine Wsq [1,11] fun K4 hK4=>?_
 refine S0 tok [] [1,11,12] ?_
 refine Wbl (Wth ?_)
 obtain⟨e1,hse1,H⟩:=bE H
 refine zS [1,11,12] (fun s a σ=>∃M1 o1:Nat,N0≤M1∧N0≤o1∧o1<M1∧a=[(1,.fsl (eL rU8 p1)),(11,.ptr o1 0 0),(12,.int .i64 s.1)]∧σ=hp E0 [(o1,some ⟨59,6,[[.fsl (eL zA s.2.Codes),.fsl (eL zF s.2.Threads),.fsl (eL rBox s.2.Boxes),.int .i64 s.2.Turn,.int .i64 s.2.Idle,.fsl (eL rI s.2.Out)]]⟩)] M1) (fun e x a σ=>match e with|.inl s=>x=.exit 0∧Rc G 126 N0 (fun a σ=>∃M2 o2:Nat,N0≤M2∧N0≤o2∧o2<M2∧a=[(1,.fsl (eL rU8 p1)),(11,.ptr o2 0 0)]∧σ=hp E0 [(o2,some ⟨59,6,[[.fsl (eL zA s.Codes),.fsl (eL zF s.Threads),.fsl (eL rBox s.Boxes),.int .i64 s.Turn,.int .i64 s.Idle,.fsl (eL rI s.Out)]]⟩)] M2) (AAct.keep a [1,11]) σ|.inr s=>x=.ret∧∃vs,resA T σ a [.tmp 4]=some vs∧∃d,thawA (fun _=>true) σ d (tupA vs)=.bool s) hse1 ?_ ?_ ?_
 ·refine Rc.kp [1,11,12] [(1,.fsl (eL rU8 p1)),(11,.ptr (N0+50) 0 0),(12,.int .i64 0)] rfl ?_
  exact Rc.fin (AHeap.Sub.trans (AHeap.Sub.trans (zQ (AHeap.Sub.refl _)) (zZ rfl (by simp;try omega))) (zZ rfl (by simp;try omega))) ⟨N0+59,(N0+50),(by omega),(by omega),(by omega),rfl,rfl⟩
 ·clear H hse1
  rintro⟨s11,s12⟩ fl a σ H ⟨M1,o1,fM1_0,fM1_1,fM1_2,rfl,rfl⟩ K5 O5 hK5 hO5
  unfold jE at H;dsimp only at H
  refine Wsq [1,11,12] fun K6 hK6=>?_
  refine S0 tok [] [1,11,12,84] ?_
  refine Ci H (fun H=>?_) fun H=>?_
  ·refine Wsk (Jn hK6 ?_)
   refine Wsq [1,11,12] fun K7 hK7=>?_
   refine Wbl (Wth ?_)
   obtain⟨v14,hv14,H⟩:=bE H
   obtain⟨v15,hv15,H⟩:=bE H
   obtain⟨r16,hr16,H⟩:=bE H
   refine Sd tok tokM [] [1,6,8,9,11,18,19] [0,2,5,7,10,1,3,4,6,8,9,11,12,13,14,15,16,17,18,19,20,21,22] [1,11,12,16] (by
    intro K k
    have e0:=nQ o1 (M1+23)
    simp only[pickL,zN,zO]
    repeat first|simp -dsimp -implicitDefEqProofs [e0,ix54 hv14,ix57 hv15]|refine Pc.mk (c24 hr16) ?_
    exact k) ?_
   obtain⟨g17,hg17,H⟩:=bE H
   refine Sx tok [] [1,11,12,110] (X:=[(1,.fsl (eL rU8 p1)),(11,.ptr o1 0 0),(12,.int .i64 s11),(110,.bool g17)]) (Y:=hp E0 [(o1,some ⟨59,6,[[.fsl (eL zA s12.Codes),.fsl (eL zF s12.Threads),.fsl (eL rBox s12.Boxes),.int .i64 s12.Turn,.int .i64 s12.Idle,.fsl (eL rI s12.Out)]]⟩),(M1+23,some ⟨26,2,[[.fsl (eL rI r16.1.Regs),.int .i64 r16.1.Pc]]⟩)] (M1+34)) (by
    intro K k
    have e0:=nQ o1 (M1+23)
    simp -dsimp -implicitDefEqProofs [e0]
    cases hbg17:ine r16.2.2.2 3
    ·obtain rfl:=oi (ifF hbg17 hg17)
     try simp -dsimp -implicitDefEqProofs [e0,hbg17]
     exact k
    obtain rfl:=oi (ifT hbg17 hg17)
    try simp -dsimp -implicitDefEqProofs [e0,hbg17]
    exact k) ?_
   refine Ci H (fun H=>?_) fun H=>?_
   ·refine Sx tok [] [4] (by
     intro K k
     have e0:=nQ o1 (M1+23)
     simp -dsimp -implicitDefEqProofs [e0]
     exact k) ?_
    obtain rfl:=oi H
    refine Kp [4] ?_
    have z0:=nQ o1 (M1+23)
    refine Wr (hO5 _ _ _ _ rfl ⟨rfl,?_⟩)
    exact⟨[.bool false],by simp[z0],4,by simp[eN,z0]⟩
   refine Wsk (Jn hK7 ?_)
   refine Rt tok [] [1,11,12] (by
    intro K k
    have e0:=nQ o1 (M1+23)
    simp -dsimp -implicitDefEqProofs [e0]
    exact k) fun a ha=>?_
   obtain rfl:=oi H
   refine hK5 _ _ _ rfl ?_;rw[ha]
   exact Rc.fin (zQ (AHeap.Sub.trans (AHeap.Sub.refl _) (zZ rfl (by simp;try omega)))) ⟨M1+37,o1,(by omega),(by omega),(by omega),rfl,rfl⟩
  obtain rfl:=oi H
  refine zK (hO5 _ _ _ _ rfl ⟨rfl,?_⟩)
  refine Rc.rw (l:=[1,11]) (X:=[(1,.fsl (eL rU8 p1)),(11,.ptr o1 0 0)]) rfl ?_
  exact Rf ⟨M1+5,o1,(by omega),(by omega),(by omega),rfl,rfl⟩
 intro x a σ hx
 rcases e1 with y13|r0
 ·obtain⟨rfl,b,τ,hr,M2,o2,fM2_0,fM2_1,fM2_2,rfl,rfl⟩:=hx
  (try dsimp only at H)
  show K4 _ _
  refine hK4 _ _ (zJ hr ?_)
  refine Rc.mk ?_
  obtain⟨v18,hv18,H⟩:=bE H
  obtain⟨r19,hr19,H⟩:=bE H
  refine Sx tok [] [11,17,18] (by
   intro K k
   have e0:=nQ o2 (M2+9)
   repeat first|simp -dsimp -implicitDefEqProofs [e0,hv18]|refine(c46 hr19).app ?_
   exact k) ?_
  obtain⟨g21,hg21,H⟩:=bE H
  refine Sx tok [] [4] (X:=[(4,.bool g21)]) (Y:=hp E0 [(o2,some ⟨59,6,[[.fsl (eL zA y13.Codes),.fsl (eL zF y13.Threads),.fsl (eL rBox y13.Boxes),.int .i64 y13.Turn,.int .i64 y13.Idle,.fsl (eL rI y13.Out)]]⟩),(M2+9,some ⟨59,6,[[.fsl (eL zA r19.1.Codes),.fsl (eL zF r19.1.Threads),.fsl (eL rBox r19.1.Boxes),.int .i64 r19.1.Turn,.int .i64 r19.1.Idle,.fsl (eL rI r19.1.Out)]]⟩)] (M2+19)) (by
   intro K k
   have e0:=nQ o2 (M2+9)
   simp -dsimp -implicitDefEqProofs [e0]
   cases hbg21:r19.2
   ·obtain rfl:=oi (ifF hbg21 hg21)
    try simp -dsimp -implicitDefEqProofs [e0,hbg21]
    exact k
   replace hg21:=ifT hbg21 hg21
   obtain⟨r20,hr20,hg21⟩:=bE hg21
   obtain rfl:=oi hg21
   try simp -dsimp -implicitDefEqProofs [e0,hbg21]
   refine(c43 hr20).app ?_;try simp -dsimp -implicitDefEqProofs [e0,hbg21]
   exact k) ?_
  obtain rfl:=oi H
  refine Kp [4] ?_
  have z1:=nQ o2 (M2+9)
  refine Wr ?_
  exact⟨[.bool g21],by simp[z1],4,by simp[eN,z1]⟩
 obtain⟨rfl,hx2⟩:=hx
 (try dsimp only at H)
 obtain rfl:=oi H;first|exact hx2|(simp only[List.set_set] at hx2 ⊢;exact hx2)
end Go.Proofs.YtdnkfkfjaaedpaaGreat
