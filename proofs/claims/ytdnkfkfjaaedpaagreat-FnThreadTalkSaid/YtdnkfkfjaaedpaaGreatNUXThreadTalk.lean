/- The contracts of functions of the program (UXThreadTalk): each computes what its mirror computes. No conditions. -/
import Derived.Test.YtdnkfkfjaaedpaaGreatNUNThreadTalk
import Derived.Test.YtdnkfkfjaaedpaaGreatNUT3
set_option linter.unusedSimpArgs false
set_option linter.unusedVariables false
set_option maxRecDepth 20000
set_option maxHeartbeats 4000000
namespace Go.Proofs.YtdnkfkfjaaedpaaGreat
open Go Go.Abs Go.RowKit

theorem c70 {p0:(List Int)}{r:(List Int)}(H:kG p0=some r):APure Tryz.prog G 70 [.fsl (eL rI p0)] (.fsl (eL rI r)):=by
 refine zB (fun N0=>?_) (by simp)
 refine fnK tok Tryz.func70 Tryz.ntmps70 Tryz.results70 ?_
 simp only[argsA,Nat.reduceAdd,hpN]
 unfold kG at H
 refine S0 tok [] [0] ?_
 refine Wsq [0] fun K1 hK1=>?_
 refine AWP_isnil tok [4,0] ([(0,.fsl (eL rI p0))]) rfl rfl (by decide) (by decide) (by decide) (fun _=>rfl) (fun n0=>?_) ?_
 ·replace n0:p0=[]:=encL_isnil n0
  replace H:(if true=true then   some ([]:List Int) else   (appx 8 ([]:List Int) p0).bind fun l2=>   some l2:Option ((List Int)))=some r:=by simpa [n0,appx] using H
  refine Cd (fun C2=>?_) fun C2=>?_
  ·replace H:=ifT C2 H
   refine S0 tok [] [2] ?_
   obtain rfl:=oi H;exact Wr ⟨_,rfl,4,by simp[eN]⟩
  replace H:=ifF C2 H
  refine Wsk (Jn hK1 ?_)
  obtain⟨l2,hl2,H⟩:=bE H
  have q2:∀σ i,bsA T 24 true i 0 [] σ=some (.esl,σ):=fun _ _=>rfl
  refine Sx tok [0,2] [2] (by intro K k;simp -dsimp -implicitDefEqProofs [q2,appf24 hl2];exact k) ?_
  obtain rfl:=oi H;exact Wr ⟨_,rfl,4,by simp[eN]⟩
 ·
  refine Cd (fun C1=>?_) fun C1=>?_
  ·replace H:=ifT C1 H
   refine S0 tok [] [2] ?_
   obtain rfl:=oi H;exact Wr ⟨_,rfl,4,by simp[eN]⟩
  replace H:=ifF C1 H
  refine Wsk (Jn hK1 ?_)
  obtain⟨l1,hl1,H⟩:=bE H
  have q1:∀σ i,bsA T 24 true i 0 [] σ=some (.esl,σ):=fun _ _=>rfl
  refine Sx tok [0,2] [2] (by intro K k;simp -dsimp -implicitDefEqProofs [q1,appf24 hl1];exact k) ?_
  obtain rfl:=oi H;exact Wr ⟨_,rfl,4,by simp[eN]⟩

theorem c32 {p0:gBox}{p1:Int}{r:gBox×Bool}(H:i_BoxPut p0 p1=some r):APure Tryz.prog G 32 [.agg [.int .i64 p0.Room,.fsl (eL rI p0.Items)],.int .i64 p1] (.tup [.agg [.int .i64 r.1.Room,.fsl (eL rI r.1.Items)],.bool r.2]):=by
 refine zB (fun N0=>?_) (by simp)
 refine fnK tok Tryz.func32 Tryz.ntmps32 Tryz.results32 ?_
 simp only[argsA,Nat.reduceAdd,hpN]
 unfold i_BoxPut at H
 refine S0 tok [0] [1,2,4] ?_
 refine Wsq [1,2,4] fun K1 hK1=>?_
 refine gW Wre (N0+1) 0 1 ?_
 obtain⟨r1,hr1,H⟩:=bE H
 obtain⟨g3,hg3,H⟩:=bE H
 obtain⟨g4,hg4,H⟩:=bE H
 refine Sx tok [] [1,2,4,21] (X:=[(1,.int .i64 p1),(2,.fptr [.int .i64 p0.Room,.fsl (eL rI p0.Items)] 0),(4,.ptr (N0+1) 0 0),(21,.bool g4)]) (Y:=hp E0 [(N0+1,some ⟨40,2,[[.int .i64 0,.fsl []]]⟩)] (N0+19)) (by
  intro K k
  simp -dsimp -implicitDefEqProofs
  refine(c29 hr1).app ?_;try simp -dsimp -implicitDefEqProofs
  cases hbg3:bnot r1
  ·replace hg3:=ifF hbg3 hg3
   obtain⟨r2,hr2,hg3⟩:=bE hg3
   obtain rfl:=oi hg3
   try simp -dsimp -implicitDefEqProofs [hbg3]
   refine(c81 hr2).app ?_;try simp -dsimp -implicitDefEqProofs [hbg3]
   cases hbg4:(bnot r2)
   ·obtain rfl:=oi (ifF hbg4 hg4)
    try simp -dsimp -implicitDefEqProofs [hbg3,hbg4]
    exact k
   obtain rfl:=oi (ifT hbg4 hg4)
   try simp -dsimp -implicitDefEqProofs [hbg3,hbg4]
   exact k
  obtain rfl:=oi (ifT hbg3 hg3)
  obtain rfl:=oi (ifT rfl hg4)
  try simp -dsimp -implicitDefEqProofs [hbg3]
  exact k) ?_
 refine Cd (fun C1=>?_) fun C1=>?_
 ·replace H:=ifT C1 H
  refine S0 tok [] [4,5] ?_
  obtain rfl:=oi H
  refine Kp [4,5] ?_
  refine Wr ?_
  exact⟨[.agg [.int .i64 0,.fsl []],.bool false],by simp,4,by simp[eN]⟩
 replace H:=ifF C1 H
 refine Wsk (Jn hK1 ?_)
 obtain⟨r5,hr5,H⟩:=bE H
 obtain⟨l6,hl6,H⟩:=bE H
 have q0:∀σ i,bsA T 24 true i 1 [(0,.int .i64 p1)] σ=some (.fsl (eL rI ([p1]:List Int)),σ):=fun _ _=>rfl
 refine AWP_sd tok tokM [6] [4,7,9] [0,1,2,3,5,6,4,7,8,9,10] [4,5] (fun a σ=>∃M1 o1:Nat,N0+30≤M1∧N0+30≤o1∧o1<M1∧a=[(4,.ptr (N0+1) 0 0),(5,.bool true)]∧σ=hp E0 [(N0+1,some ⟨40,2,[[.int .i64 p0.Room,.sl (N0+26) 0 l6.length]]⟩),(N0+26,some ⟨3,1,eL rI l6⟩)] M1) (by decide) (fun K hK=>?_) ?_
 ·simp only[pickL,zH,zJ]
  simp -dsimp -implicitDefEqProofs [q0,app24 hl6]
  refine(c70_o (H:=hr5)).mono ?_;rintro _ _ ⟨M1,o1,fM1_0,fM1_1,fM1_2,rfl,rfl⟩;simp only[hpN] at fM1_0 fM1_1 fM1_2
  have eM1_0:=nQ o1 (N0+1)
  have eM1_1:=nQ o1 (N0+26)
  try simp -dsimp -implicitDefEqProofs [q0,app24 hl6,eM1_0,eM1_1,hoS,hoN]
  exact hK _ _ ⟨M1,o1,(by omega),(by omega),(by omega),rfl,rfl⟩
 rintro a σ ⟨M1,o1,fM1_0,fM1_1,fM1_2,rfl,rfl⟩
 obtain rfl:=oi H
 refine Kp [4,5] ?_
 refine Wr ?_
 exact⟨[.agg [.int .i64 p0.Room,.sl (N0+26) 0 l6.length],.bool true],by simp,4,by simp[eN]⟩

theorem c34 {p0:(List gBox)}{p1:(List gBox)}{p2:Int}{r:Bool}(H:l_sameElse p0 p1 p2=some r):APure Tryz.prog G 34 [.fsl (eL rBox p0),.fsl (eL rBox p1),.int .i64 p2] (.bool r):=by
 refine zB (fun N0=>?_) (by simp)
 refine fnK tok Tryz.func34 Tryz.ntmps34 Tryz.results34 ?_
 simp only[argsA,Nat.reduceAdd,hpN]
 unfold l_sameElse at H
 refine S0 tok [] [0,1,2] ?_
 refine Wsq [0,1,2] fun K1 hK1=>?_
 refine S0 tok [] [0,1,2,12] ?_
 refine Cd (fun C1=>?_) fun C1=>?_
 ·replace H:=ifT C1 H
  refine S0 tok [] [6] ?_
  obtain rfl:=oi H;exact Wr ⟨_,rfl,4,by simp[eN]⟩
 replace H:=ifF C1 H
 refine Wsk (Jn hK1 ?_)
 refine Wsq [] fun K2 hK2=>?_
 refine S0 tok [] [0,1,2,7] ?_
 refine Wbl (Wth ?_)
 obtain⟨e1,hse1,H⟩:=bE H
 refine zU [0,1,2,7] (fun s a σ=>∃M1:Nat,N0≤M1∧a=[(0,.fsl (eL rBox p0)),(1,.fsl (eL rBox p1)),(2,.int .i64 p2),(7,.int .i64 s)]∧σ=hp E0 [] M1) (fun e x a σ=>match e with|.inl s=>x=.exit 0∧Rc G 34 N0 (fun a σ=>∃M2:Nat,N0≤M2∧a=[]∧σ=hp E0 [] M2) (AAct.keep a []) σ|.inr s=>x=.ret∧∃vs,resA T σ a [.tmp 6]=some vs∧∃d,thawA (fun _=>true) σ d (tupA vs)=.bool s) hse1 ?_ ?_ ?_
 ·refine Rc.kp [0,1,2,7] [(0,.fsl (eL rBox p0)),(1,.fsl (eL rBox p1)),(2,.int .i64 p2),(7,.int .i64 0)] rfl ?_
  exact Rf ⟨N0+7,(by omega),rfl,rfl⟩
 ·clear H hse1
  rintro s1 fl a σ H ⟨M1,fM1_0,rfl,rfl⟩ K3 O3 hK3 hO3
  unfold xZ at H;dsimp only at H
  refine Wsq [0,1,2,7] fun K4 hK4=>?_
  refine S0 tok [] [0,1,2,7,16] ?_
  refine Cd (fun C2=>?_) fun C2=>?_
  ·replace H:=ifT C2 H
   refine Wsk (Jn hK4 ?_)
   refine Wsq [0,1,2,7] fun K5 hK5=>?_
   refine Wbl (Wth ?_)
   obtain⟨g5,hg5,H⟩:=bE H
   refine AWP_sd tok tokM [] [] [0,1,2,3,4,5,6,7,8,9,10,11,12,13,14] [0,1,2,7,33] (fun a σ=>a=[(0,.fsl (eL rBox p0)),(1,.fsl (eL rBox p1)),(2,.int .i64 p2),(7,.int .i64 s1),(33,.bool g5)]∧σ=hp E0 [] (M1+19)) (by decide) (fun K hK=>?_) ?_
   ·simp only[pickL,zH,zJ]
    simp -dsimp -implicitDefEqProofs
    cases hbg5:ine s1 p2
    ·obtain rfl:=oi (ifF hbg5 hg5)
     try simp -dsimp -implicitDefEqProofs [hbg5]
     exact hK _ _ ⟨rfl,rfl⟩
    replace hg5:=ifT hbg5 hg5
    obtain⟨v2,hv2,hg5⟩:=bE hg5
    obtain⟨v3,hv3,hg5⟩:=bE hg5
    obtain⟨r4,hr4,hg5⟩:=bE hg5
    obtain rfl:=oi hg5
    try simp -dsimp -implicitDefEqProofs [hbg5,ix27 hv2,ix27 hv3]
    refine Pc.mk (c33 hr4) ?_;try simp -dsimp -implicitDefEqProofs [hbg5,ix27 hv2,ix27 hv3]
    exact hK _ _ ⟨rfl,rfl⟩
   rintro a σ ⟨rfl,rfl⟩
   refine Cd (fun C3=>?_) fun C3=>?_
   ·replace H:=ifT C3 H
    refine S0 tok [] [6] ?_
    obtain rfl:=oi H
    refine Kp [6] ?_
    refine Wr (hO3 _ _ _ _ rfl ⟨rfl,?_⟩)
    exact⟨[.bool false],by simp,4,by simp[eN]⟩
   replace H:=ifF C3 H
   refine Wsk (Jn hK5 ?_)
   refine Rt0 tok [] [0,1,2,7] fun a ha=>?_
   obtain rfl:=oi H
   refine hK3 _ _ _ rfl ?_;rw[ha]
   exact Rf ⟨M1+22,(by omega),rfl,rfl⟩
  obtain rfl:=oi (ifF C2 H)
  refine zM (hO3 _ _ _ _ rfl ⟨rfl,?_⟩)
  refine Rc.rw (l:=[]) (X:=[]) rfl ?_
  exact Rf ⟨M1+4,(by omega),rfl,rfl⟩
 intro x a σ hx
 rcases e1 with⟨⟩|r0
 ·obtain⟨rfl,b,τ,hr,M2,fM2_0,rfl,rfl⟩:=hx
  (try dsimp only at H)
  show K2 _ _
  refine hK2 _ _ (zL hr ?_)
  refine Rc.mk ?_
  refine S0 tok [] [6] ?_
  obtain rfl:=oi H;exact Wr ⟨_,rfl,4,by simp[eN]⟩
 obtain⟨rfl,hx2⟩:=hx
 (try dsimp only at H)
 obtain rfl:=oi H;first|exact hx2|(simp only[List.set_set] at hx2 ⊢;exact hx2)

theorem c35 {p0:gBox}{r:gBox×Int×Bool}(H:i_BoxTake p0=some r):APure Tryz.prog G 35 [.agg [.int .i64 p0.Room,.fsl (eL rI p0.Items)]] (.tup [.agg [.int .i64 r.1.Room,.fsl (eL rI r.1.Items)],.int .i64 r.2.1,.bool r.2.2]):=by
 refine zB (fun N0=>?_) (by simp)
 refine fnK tok Tryz.func35 Tryz.ntmps35 Tryz.results35 ?_
 simp only[argsA,Nat.reduceAdd,hpN]
 unfold i_BoxTake at H
 refine S0 tok [0] [1,2] ?_
 refine Wsq [1,2] fun K1 hK1=>?_
 refine gW Wre (N0+1) 0 1 ?_
 obtain⟨r1,hr1,H⟩:=bE H
 obtain⟨g2,hg2,H⟩:=bE H
 refine Sx tok [] [1,2,13] (X:=[(1,.fptr [.int .i64 p0.Room,.fsl (eL rI p0.Items)] 0),(2,.ptr (N0+1) 0 0),(13,.bool g2)]) (Y:=hp E0 [(N0+1,some ⟨40,2,[[.int .i64 0,.fsl []]]⟩)] (N0+13)) (by
  intro K k
  simp -dsimp -implicitDefEqProofs
  refine(c29 hr1).app ?_;try simp -dsimp -implicitDefEqProofs
  cases hbg2:bnot r1
  ·obtain rfl:=oi (ifF hbg2 hg2)
   try simp -dsimp -implicitDefEqProofs [hbg2]
   exact k
  obtain rfl:=oi (ifT hbg2 hg2)
  try simp -dsimp -implicitDefEqProofs [hbg2]
  exact k) ?_
 refine Cd (fun C1=>?_) fun C1=>?_
 ·replace H:=ifT C1 H
  refine S0 tok [] [2,3,4] ?_
  obtain rfl:=oi H
  refine Kp [2,3,4] ?_
  refine Wr ?_
  exact⟨[.agg [.int .i64 0,.fsl []],.int .i64 0,.bool false],by simp,4,by simp[eN]⟩
 replace H:=ifF C1 H
 refine Wsk (Jn hK1 ?_)
 obtain⟨l3,hl3,H⟩:=bE H
 obtain⟨r4,hr4,H⟩:=bE H
 obtain⟨v5,hv5,H⟩:=bE H
 refine Sd tok tokM [] [11] [0,1,2,3,4,5,6,7,8,9,10,11,12,13] [2,3,4] (by
  intro K k
  simp only[pickL,zH,zJ]
  repeat first|simp -dsimp -implicitDefEqProofs [cutl_24 hl3,ix24 hv5]|refine Pc.mk (c70 hr4) ?_
  exact k) ?_
 obtain rfl:=oi H
 refine Kp [2,3,4] ?_
 refine Wr ?_
 exact⟨[.agg [.int .i64 p0.Room,.fsl (eL rI r4)],.int .i64 v5,.bool true],by simp,4,by simp[eN]⟩

theorem c10 {p0:(List Int)}{r:Bool}(H:wS p0=some r):APure Tryz.prog G 10 [.fsl (eL rU8 p0)] (.bool r):=by
 refine zB (fun N0=>?_) (by simp)
 refine fnK tok Tryz.func10 Tryz.ntmps10 Tryz.results10 ?_
 simp only[argsA,Nat.reduceAdd,hpN]
 unfold wS at H
 refine S0 tok [] [0] ?_
 refine Wsq [0] fun K1 hK1=>?_
 refine S0 tok [] [0,22] ?_
 refine Cd (fun C1=>?_) fun C1=>?_
 ·replace H:=ifT C1 H
  refine S0 tok [] [2] ?_
  obtain rfl:=oi H;exact Wr ⟨_,rfl,4,by simp[eN]⟩
 replace H:=ifF C1 H
 refine Wsk (Jn hK1 ?_)
 obtain⟨r1,hr1,H⟩:=bE H
 refine Sx tok [] [3,4,5] (by intro K k;(repeat first|simp -dsimp -implicitDefEqProofs|refine(c23 hr1).app ?_);exact k) ?_
 obtain⟨r2,hr2,H⟩:=bE H
 refine Sx tok [] [3,4,5,6,7,8,9] (by intro K k;(repeat first|simp -dsimp -implicitDefEqProofs|refine(c24 hr2).app ?_);exact k) ?_
 obtain⟨r3,hr3,H⟩:=bE H
 refine Sx tok [] [3,4,5,6,7,8,9,10,11,12,13] (by intro K k;(repeat first|simp -dsimp -implicitDefEqProofs|refine(c25 hr3).app ?_);exact k) ?_
 refine Wsq [3,4,5,6,7,9] fun K2 hK2=>?_
 obtain⟨g5,hg5,H⟩:=bE H
 obtain⟨g7,hg7,H⟩:=bE H
 obtain⟨g9,hg9,H⟩:=bE H
 refine Sx tok [] [3,4,5,6,7,9,67] (X:=[(3,.fsl (eL rQuad r1.1)),(4,.ptr (N0+10) 0 0),(5,.fsl (eL rBox r1.2.2)),(6,.ptr (N0+23) 0 0),(7,.fsl (eL rBox r2.2.1)),(9,.int .i64 r2.2.2.2),(67,.bool g9)]) (Y:=hp E0 [(N0+10,some ⟨26,2,[[.fsl (eL rI r1.2.1.Regs),.int .i64 r1.2.1.Pc]]⟩),(N0+23,some ⟨26,2,[[.fsl (eL rI r2.1.Regs),.int .i64 r2.1.Pc]]⟩),(N0+37,some ⟨26,2,[[.fsl (eL rI r3.1.Regs),.int .i64 r3.1.Pc]]⟩)] (N0+63)) (by
  intro K k
  simp -dsimp -implicitDefEqProofs
  cases hbg5:ine r2.2.2.2 r3.2.2.2
  ·replace hg5:=ifF hbg5 hg5
   obtain⟨r4,hr4,hg5⟩:=bE hg5
   obtain rfl:=oi hg5
   try simp -dsimp -implicitDefEqProofs [hbg5]
   refine(c26 hr4).app ?_;try simp -dsimp -implicitDefEqProofs [hbg5]
   cases hbg7:(bnot r4)
   ·replace hg7:=ifF hbg7 hg7
    obtain⟨r6,hr6,hg7⟩:=bE hg7
    obtain rfl:=oi hg7
    try simp -dsimp -implicitDefEqProofs [hbg5,hbg7]
    refine(c27 hr6).app ?_;try simp -dsimp -implicitDefEqProofs [hbg5,hbg7]
    cases hbg9:(bnot r6)
    ·replace hg9:=ifF hbg9 hg9
     obtain⟨r8,hr8,hg9⟩:=bE hg9
     obtain rfl:=oi hg9
     try simp -dsimp -implicitDefEqProofs [hbg5,hbg7,hbg9]
     refine(c28 hr8).app ?_;try simp -dsimp -implicitDefEqProofs [hbg5,hbg7,hbg9]
     exact k
    obtain rfl:=oi (ifT hbg9 hg9)
    try simp -dsimp -implicitDefEqProofs [hbg5,hbg7,hbg9]
    exact k
   obtain rfl:=oi (ifT hbg7 hg7)
   obtain rfl:=oi (ifT rfl hg9)
   try simp -dsimp -implicitDefEqProofs [hbg5,hbg7]
   exact k
  obtain rfl:=oi (ifT hbg5 hg5)
  obtain rfl:=oi (ifT rfl hg7)
  obtain rfl:=oi (ifT rfl hg9)
  try simp -dsimp -implicitDefEqProofs [hbg5]
  exact k) ?_
 refine Cd (fun C2=>?_) fun C2=>?_
 ·replace H:=ifT C2 H
  refine S0 tok [] [2] ?_
  obtain rfl:=oi H;exact Wr ⟨_,rfl,4,by simp[eN]⟩
 replace H:=ifF C2 H
 refine Wsk (Jn hK2 ?_)
 refine Wsq [3,4,5,6,7] fun K3 hK3=>?_
 obtain⟨g12,hg12,H⟩:=bE H
 refine Sx tok [] [3,4,5,6,7,87] (X:=[(3,.fsl (eL rQuad r1.1)),(4,.ptr (N0+10) 0 0),(5,.fsl (eL rBox r1.2.2)),(6,.ptr (N0+23) 0 0),(7,.fsl (eL rBox r2.2.1)),(87,.bool g12)]) (Y:=hp E0 [(N0+10,some ⟨26,2,[[.fsl (eL rI r1.2.1.Regs),.int .i64 r1.2.1.Pc]]⟩),(N0+23,some ⟨26,2,[[.fsl (eL rI r2.1.Regs),.int .i64 r2.1.Pc]]⟩),(N0+37,some ⟨26,2,[[.fsl (eL rI r3.1.Regs),.int .i64 r3.1.Pc]]⟩)] (N0+83)) (by
  intro K k
  simp -dsimp -implicitDefEqProofs
  cases hbg12:ine r2.2.2.2 1
  ·replace hg12:=ifF hbg12 hg12
   obtain⟨v10,hv10,hg12⟩:=bE hg12
   obtain⟨g11,hg11,hg12⟩:=bE hg12
   obtain rfl:=oi hg12
   try simp -dsimp -implicitDefEqProofs [hbg12,ix23 hv10]
   cases hbg11:ine v10.Op 6
   ·obtain rfl:=oi (ifF hbg11 hg11)
    try simp -dsimp -implicitDefEqProofs [hbg12,ix23 hv10,hbg11]
    exact k
   obtain rfl:=oi (ifT hbg11 hg11)
   try simp -dsimp -implicitDefEqProofs [hbg12,ix23 hv10,hbg11]
   exact k
  obtain rfl:=oi (ifT hbg12 hg12)
  try simp -dsimp -implicitDefEqProofs [hbg12]
  exact k) ?_
 refine Cd (fun C3=>?_) fun C3=>?_
 ·replace H:=ifT C3 H
  refine S0 tok [] [2] ?_
  obtain rfl:=oi H;exact Wr ⟨_,rfl,4,by simp[eN]⟩
 replace H:=ifF C3 H
 refine Wsk (Jn hK3 ?_)
 obtain⟨v13,hv13,H⟩:=bE H
 refine Sx tok [] [4,5,6,7,14] (by intro K k;simp -dsimp -implicitDefEqProofs [ix23 hv13];exact k) ?_
 refine Wsq [5,6,7,14] fun K4 hK4=>?_
 refine S0 tok [] [4,5,6,7,14,95] ?_
 refine Cd (fun C4=>?_) fun C4=>?_
 ·replace H:=ifT C4 H
  obtain⟨v14,hv14,H⟩:=bE H
  obtain⟨v15,hv15,H⟩:=bE H
  obtain⟨r16,hr16,H⟩:=bE H
  refine Sd tok tokM [] [2,6,8,9,10,15,16] [0,1,5,7,2,3,4,6,8,9,10,11,12,13,14,15,16,17] [5,7,14,15,16] (by
   intro K k
   simp only[pickL,zH,zJ]
   repeat first|simp -dsimp -implicitDefEqProofs [ix27 hv14,ix24 hv15]|refine Pc.mk (c32 hr16) ?_
   exact k) ?_
  obtain⟨g19,hg19,H⟩:=bE H
  obtain⟨g21,hg21,H⟩:=bE H
  refine AWP_sd tok tokM [] [4,7,14] [0,1,2,3,4,5,6,7,8,9,10,11,12,13,14,15,16,17] [2] (fun a σ=>a=[(2,.bool g21)]∧σ=hp E0 [(N0+10,some ⟨26,2,[[.fsl (eL rI r1.2.1.Regs),.int .i64 r1.2.1.Pc]]⟩),(N0+23,some ⟨26,2,[[.fsl (eL rI r2.1.Regs),.int .i64 r2.1.Pc]]⟩),(N0+37,some ⟨26,2,[[.fsl (eL rI r3.1.Regs),.int .i64 r3.1.Pc]]⟩),(N0+88,some ⟨36,5,[[.int .i64 v13.Op,.int .i64 v13.Dst,.int .i64 v13.A,.int .i64 v13.B,.int .i64 v13.N]]⟩),(N0+108,some ⟨40,2,[[.int .i64 r16.1.Room,.fsl (eL rI r16.1.Items)]]⟩)] (N0+129)) (by decide) (fun K hK=>?_) ?_
  ·simp only[pickL,zH,zJ]
   simp -dsimp -implicitDefEqProofs
   cases hbg19:r16.2
   ·obtain rfl:=oi (ifF hbg19 hg19)
    obtain rfl:=oi (ifF rfl hg21)
    try simp -dsimp -implicitDefEqProofs [hbg19]
    exact hK _ _ ⟨rfl,rfl⟩
   replace hg19:=ifT hbg19 hg19
   obtain⟨v17,hv17,hg19⟩:=bE hg19
   obtain⟨r18,hr18,hg19⟩:=bE hg19
   obtain rfl:=oi hg19
   try simp -dsimp -implicitDefEqProofs [hbg19,ix27 hv17]
   refine Pc.mk (c33 hr18) ?_;try simp -dsimp -implicitDefEqProofs [hbg19,ix27 hv17]
   cases hbg21:r18
   ·obtain rfl:=oi (ifF hbg21 hg21)
    try simp -dsimp -implicitDefEqProofs [hbg19,ix27 hv17,hbg21]
    exact hK _ _ ⟨rfl,rfl⟩
   replace hg21:=ifT hbg21 hg21
   obtain⟨r20,hr20,hg21⟩:=bE hg21
   obtain rfl:=oi hg21
   try simp -dsimp -implicitDefEqProofs [hbg19,ix27 hv17,hbg21]
   refine Pc.mk (c34 hr20) ?_;try simp -dsimp -implicitDefEqProofs [hbg19,ix27 hv17,hbg21]
   exact hK _ _ ⟨rfl,rfl⟩
  rintro a σ ⟨rfl,rfl⟩
  obtain rfl:=oi H;exact Wr ⟨_,rfl,4,by simp[eN]⟩
 replace H:=ifF C4 H
 refine Wsk (Jn hK4 ?_)
 obtain⟨v22,hv22,H⟩:=bE H
 obtain⟨r23,hr23,H⟩:=bE H
 refine Sx tok [] [5,6,7,14,17,18,19] (by intro K k;(repeat first|simp -dsimp -implicitDefEqProofs [ix27 hv22]|refine(c35 hr23).app ?_);exact k) ?_
 obtain⟨g26,hg26,H⟩:=bE H
 obtain⟨g28,hg28,H⟩:=bE H
 obtain⟨g30,hg30,H⟩:=bE H
 refine AWP_sd tok tokM [] [4,7,14,19,21] [0,1,2,3,4,5,6,7,8,9,10,11,12,13,14,15,16,17,18,20,24,19,21,22,23,25,26,27] [2] (fun a σ=>a=[(2,.bool g30)]∧σ=hp E0 [(N0+10,some ⟨26,2,[[.fsl (eL rI r1.2.1.Regs),.int .i64 r1.2.1.Pc]]⟩),(N0+23,some ⟨26,2,[[.fsl (eL rI r2.1.Regs),.int .i64 r2.1.Pc]]⟩),(N0+37,some ⟨26,2,[[.fsl (eL rI r3.1.Regs),.int .i64 r3.1.Pc]]⟩),(N0+88,some ⟨36,5,[[.int .i64 v13.Op,.int .i64 v13.Dst,.int .i64 v13.A,.int .i64 v13.B,.int .i64 v13.N]]⟩),(N0+103,some ⟨40,2,[[.int .i64 r23.1.Room,.fsl (eL rI r23.1.Items)]]⟩)] (N0+135)) (by decide) (fun K hK=>?_) ?_
 ·simp only[pickL,zH,zJ]
  simp -dsimp -implicitDefEqProofs
  cases hbg26:r23.2.2
  ·obtain rfl:=oi (ifF hbg26 hg26)
   obtain rfl:=oi (ifF rfl hg28)
   obtain rfl:=oi (ifF rfl hg30)
   try simp -dsimp -implicitDefEqProofs [hbg26]
   exact hK _ _ ⟨rfl,rfl⟩
  replace hg26:=ifT hbg26 hg26
  obtain⟨v24,hv24,hg26⟩:=bE hg26
  obtain⟨r25,hr25,hg26⟩:=bE hg26
  obtain rfl:=oi hg26
  try simp -dsimp -implicitDefEqProofs [hbg26,ix27 hv24]
  refine Pc.mk (c33 hr25) ?_;try simp -dsimp -implicitDefEqProofs [hbg26,ix27 hv24]
  cases hbg28:r25
  ·obtain rfl:=oi (ifF hbg28 hg28)
   obtain rfl:=oi (ifF rfl hg30)
   try simp -dsimp -implicitDefEqProofs [hbg26,ix27 hv24,hbg28]
   exact hK _ _ ⟨rfl,rfl⟩
  replace hg28:=ifT hbg28 hg28
  obtain⟨r27,hr27,hg28⟩:=bE hg28
  obtain rfl:=oi hg28
  try simp -dsimp -implicitDefEqProofs [hbg26,ix27 hv24,hbg28]
  refine Pc.mk (c34 hr27) ?_;try simp -dsimp -implicitDefEqProofs [hbg26,ix27 hv24,hbg28]
  cases hbg30:r27
  ·obtain rfl:=oi (ifF hbg30 hg30)
   try simp -dsimp -implicitDefEqProofs [hbg26,ix27 hv24,hbg28,hbg30]
   exact hK _ _ ⟨rfl,rfl⟩
  replace hg30:=ifT hbg30 hg30
  obtain⟨v29,hv29,hg30⟩:=bE hg30
  obtain rfl:=oi hg30
  try simp -dsimp -implicitDefEqProofs [hbg26,ix27 hv24,hbg28,hbg30,ix24 hv29]
  exact hK _ _ ⟨rfl,rfl⟩
 rintro a σ ⟨rfl,rfl⟩
 obtain rfl:=oi H;exact Wr ⟨_,rfl,4,by simp[eN]⟩
end Go.Proofs.YtdnkfkfjaaedpaaGreat
