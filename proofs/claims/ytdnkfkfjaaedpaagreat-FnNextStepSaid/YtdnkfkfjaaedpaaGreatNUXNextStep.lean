/- The contracts of functions of the program (UXNextStep): each computes what its mirror computes. No conditions. -/
import Derived.Test.YtdnkfkfjaaedpaaGreatNUNNextStep
import Derived.Test.YtdnkfkfjaaedpaaGreatNUT3
set_option linter.unusedSimpArgs false
set_option linter.unusedVariables false
set_option maxRecDepth 20000
set_option maxHeartbeats 4000000
namespace Go.Proofs.YtdnkfkfjaaedpaaGreat
open Go Go.Abs Go.RowKit

theorem c83 {p0:gQuad} {p1:Int} {r:(List Int)} (H:i_nextOf p0 p1=some r):APure Tryz.prog G 83 [.agg [.int .i64 p0.Op,.int .i64 p0.Dst,.int .i64 p0.A,.int .i64 p0.B,.int .i64 p0.N],.int .i64 p1] (.fsl (eL rI r)):=by
 refine APure_fn (fun N0=>?_) (by simp)
 refine fnK tok Tryz.func83 Tryz.ntmps83 Tryz.results83 ?_
 simp only[argsA,Nat.reduceAdd,hpN]
 unfold i_nextOf at H
 refine S0 tok [0] [1,2] ?_
 refine Wsq [1] fun K1 hK1=>?_
 refine Wbl (Wth ?_)
 refine S0 tok [] [1,2,5] ?_
 refine Cd (fun C1=>?_) fun C1=>?_
 ·replace H:=ifT C1 H
  refine S0 tok [] [4] ?_
  obtain rfl:=oi H;exact Wr ⟨_,rfl,4,by simp[eN]⟩
 ·replace H:=ifF C1 H
  refine S0 tok [] [1,2,9] ?_
  refine Cd (fun C2=>?_) fun C2=>?_
  ·replace H:=ifT C2 H
   have q0:∀σ i,bsA T 24 true i 1 [(0,.int .i64 p0.N)] σ=some (.fsl (eL rI ([p0.N]:List Int)),σ):=fun _ _=>rfl
   refine Sx tok [2] [4] (by intro K k;simp -dsimp -implicitDefEqProofs [q0];exact k) ?_
   obtain rfl:=oi H;exact Wr ⟨_,rfl,4,by simp[eN]⟩
  ·replace H:=ifF C2 H
   obtain⟨g1,hg1,H⟩:=bE H
   refine Sx tok [] [1,2,16] (X:=[(1,.int .i64 p1),(2,.fptr [.int .i64 p0.Op,.int .i64 p0.Dst,.int .i64 p0.A,.int .i64 p0.B,.int .i64 p0.N] 0),(16,.bool g1)]) (Y:=hp E0 [] (N0+21)) (by
    intro K k
    simp -dsimp -implicitDefEqProofs
    cases hbg1:ieq p0.Op 5
    ·obtain rfl:=oi (ifF hbg1 hg1)
     try simp -dsimp -implicitDefEqProofs [hbg1]
     exact k
    ·obtain rfl:=oi (ifT hbg1 hg1)
     try simp -dsimp -implicitDefEqProofs [hbg1]
     exact k) ?_
   refine Cd (fun C3=>?_) fun C3=>?_
   ·replace H:=ifT C3 H
    have q1:∀σ i,bsA T 24 true i 2 [(0,.int .i64 p0.N),(1,.int .i64 (iadd .i64 p1 1))] σ=some (.fsl (eL rI ([p0.N,iadd .i64 p1 1]:List Int)),σ):=fun _ _=>rfl
    refine Sx tok [4] [4] (by intro K k;simp -dsimp -implicitDefEqProofs [q1];exact k) ?_
    obtain rfl:=oi H;exact Wr ⟨_,rfl,4,by simp[eN]⟩
   ·replace H:=ifF C3 H
    obtain⟨g2,hg2,H⟩:=bE H
    refine Sx tok [] [1,2,32] (X:=[(1,.int .i64 p1),(2,.fptr [.int .i64 p0.Op,.int .i64 p0.Dst,.int .i64 p0.A,.int .i64 p0.B,.int .i64 p0.N] 0),(32,.bool g2)]) (Y:=hp E0 [] (N0+32)) (by
     intro K k
     simp -dsimp -implicitDefEqProofs
     cases hbg2:ieq p0.Op 5
     ·obtain rfl:=oi (ifF hbg2 hg2)
      try simp -dsimp -implicitDefEqProofs [hbg2]
      exact k
     ·obtain rfl:=oi (ifT hbg2 hg2)
      try simp -dsimp -implicitDefEqProofs [hbg2]
      exact k) ?_
    refine Cd (fun C4=>?_) fun C4=>?_
    ·replace H:=ifT C4 H
     have q2:∀σ i,bsA T 24 true i 2 [(0,.int .i64 (iadd .i64 p1 1)),(1,.int .i64 p0.N)] σ=some (.fsl (eL rI ([iadd .i64 p1 1,p0.N]:List Int)),σ):=fun _ _=>rfl
     refine Sx tok [4] [4] (by intro K k;simp -dsimp -implicitDefEqProofs [q2];exact k) ?_
     obtain rfl:=oi H;exact Wr ⟨_,rfl,4,by simp[eN]⟩
    ·replace H:=ifF C4 H
     refine Wsk (Jn hK1 ?_)
     have q3:∀σ i,bsA T 24 true i 1 [(0,.int .i64 (iadd .i64 p1 1))] σ=some (.fsl (eL rI ([iadd .i64 p1 1]:List Int)),σ):=fun _ _=>rfl
     refine Sx tok [2] [4] (by intro K k;simp -dsimp -implicitDefEqProofs [q3];exact k) ?_
     obtain rfl:=oi H;exact Wr ⟨_,rfl,4,by simp[eN]⟩

theorem c37 {p0:(List gQuad)} {p1:Int} {r:(List Int)} (H:i_CodeNext p0 p1=some r):APure Tryz.prog G 37 [.fsl (eL rQuad p0),.int .i64 p1] (.fsl (eL rI r)):=by
 refine APure_fn (fun N0=>?_) (by simp)
 refine fnK tok Tryz.func37 Tryz.ntmps37 Tryz.results37 ?_
 simp only[argsA,Nat.reduceAdd,hpN]
 unfold i_CodeNext at H
 refine S0 tok [] [0,1] ?_
 refine Wsq [0,1] fun K1 hK1=>?_
 obtain⟨r1,hr1,H⟩:=bE H
 obtain⟨g2,hg2,H⟩:=bE H
 obtain⟨g3,hg3,H⟩:=bE H
 refine Sx tok [] [0,1,17] (X:=[(0,.fsl (eL rQuad p0)),(1,.int .i64 p1),(17,.bool g3)]) (Y:=hp E0 [] (N0+14)) (by
  intro K k
  simp -dsimp -implicitDefEqProofs
  refine(c78 hr1).app ?_;try simp -dsimp -implicitDefEqProofs
  cases hbg2:bnot r1
  ·obtain rfl:=oi (ifF hbg2 hg2)
   try simp -dsimp -implicitDefEqProofs [hbg2]
   cases hbg3:(ilt p1 0)
   ·obtain rfl:=oi (ifF hbg3 hg3)
    try simp -dsimp -implicitDefEqProofs [hbg2,hbg3]
    exact k
   ·obtain rfl:=oi (ifT hbg3 hg3)
    try simp -dsimp -implicitDefEqProofs [hbg2,hbg3]
    exact k
  ·obtain rfl:=oi (ifT hbg2 hg2)
   obtain rfl:=oi (ifT rfl hg3)
   try simp -dsimp -implicitDefEqProofs [hbg2]
   exact k) ?_
 refine Cd (fun C1=>?_) fun C1=>?_
 ·replace H:=ifT C1 H
  refine S0 tok [] [4] ?_
  obtain rfl:=oi H;exact Wr ⟨_,rfl,4,by simp[eN]⟩
 ·replace H:=ifF C1 H
  refine Wsk (Jn hK1 ?_)
  obtain⟨v4,hv4,H⟩:=bE H
  obtain⟨r5,hr5,H⟩:=bE H
  refine Sx tok [] [4] (by intro K k;(repeat first|simp -dsimp -implicitDefEqProofs [ix23 hv4]|refine(c83 hr5).app ?_);exact k) ?_
  obtain rfl:=oi H;exact Wr ⟨_,rfl,4,by simp[eN]⟩

theorem c36 {p0:(List Int)} {p1:Int} {r:Bool} (H:l_hasInt p0 p1=some r):APure Tryz.prog G 36 [.fsl (eL rI p0),.int .i64 p1] (.bool r):=by
 refine APure_fn (fun N0=>?_) (by simp)
 refine fnK tok Tryz.func36 Tryz.ntmps36 Tryz.results36 ?_
 simp only[argsA,Nat.reduceAdd,hpN]
 unfold l_hasInt at H
 refine S0 tok [] [0,1] ?_
 refine Wsq [] fun K1 hK1=>?_
 refine S0 tok [] [0,1,5] ?_
 refine Wbl (Wth ?_)
 obtain⟨e1,hse1,H⟩:=bE H
 refine AWP_lp [0,1,5] (fun s a σ=>∃M1:Nat,N0≤M1∧a=[(0,.fsl (eL rI p0)),(1,.int .i64 p1),(5,.int .i64 s)]∧σ=hp E0 [] M1) (fun e x a σ=>match e with|.inl s=>x=.exit 0∧Rc G 18 N0 (fun a σ=>∃M2:Nat,N0≤M2∧a=[]∧σ=hp E0 [] M2) (AAct.keep a []) σ|.inr s=>x=.ret∧∃vs,resA T σ a [.tmp 4]=some vs∧∃d,thawA (fun _=>true) σ d (tupA vs)=.bool s) hse1 ?_ ?_ ?_
 ·refine Rc.kp [0,1,5] [(0,.fsl (eL rI p0)),(1,.int .i64 p1),(5,.int .i64 0)] rfl ?_
  exact Rf ⟨N0+2,(by omega),rfl,rfl⟩
 ·clear H hse1
  rintro s1 fl a σ H ⟨M1,fM1_0,rfl,rfl⟩ K2 O2 hK2 hO2
  unfold l_hasInt_L1 at H;dsimp only at H
  refine Wsq [0,1,5] fun K3 hK3=>?_
  refine S0 tok [] [0,1,5,9] ?_
  refine Cd (fun C1=>?_) fun C1=>?_
  ·replace H:=ifT C1 H
   refine Wsk (Jn hK3 ?_)
   refine Wsq [0,1,5] fun K4 hK4=>?_
   refine Wbl (Wth ?_)
   obtain⟨v2,hv2,H⟩:=bE H
   refine Sx tok [] [0,1,5,17] (by intro K k;simp -dsimp -implicitDefEqProofs [ix24 hv2];exact k) ?_
   refine Cd (fun C2=>?_) fun C2=>?_
   ·replace H:=ifT C2 H
    refine S0 tok [] [4] ?_
    obtain rfl:=oi H
    refine Kp [4] ?_
    refine Wr (hO2 _ _ _ _ rfl ⟨rfl,?_⟩)
    exact⟨[.bool true],by simp,4,by simp[eN]⟩
   ·replace H:=ifF C2 H
    refine Wsk (Jn hK4 ?_)
    refine Rt0 tok [] [0,1,5] fun a ha=>?_
    obtain rfl:=oi H
    refine hK2 _ _ _ rfl ?_;rw[ha]
    exact Rf ⟨M1+13,(by omega),rfl,rfl⟩
  ·obtain rfl:=oi (ifF C1 H)
   refine AWP_exit (hO2 _ _ _ _ rfl ⟨rfl,?_⟩)
   refine Rc.rw (l:=[]) (X:=[]) rfl ?_
   exact Rf ⟨M1+4,(by omega),rfl,rfl⟩
 ·intro x a σ hx
  rcases e1 with⟨⟩|r0
  ·obtain⟨rfl,b,τ,hr,M2,fM2_0,rfl,rfl⟩:=hx
   (try dsimp only at H)
   show K1 _ _
   refine hK1 _ _ (Rc_ref hr ?_)
   refine Rc.mk ?_
   refine S0 tok [] [4] ?_
   obtain rfl:=oi H;exact Wr ⟨_,rfl,4,by simp[eN]⟩
  ·obtain⟨rfl,hx2⟩:=hx
   (try dsimp only at H)
   obtain rfl:=oi H;first|exact hx2|(simp only[List.set_set] at hx2 ⊢;exact hx2)

theorem c11 {p0:(List Int)} {r:Bool} (H:l_FnNextStep p0=some r):APure Tryz.prog G 11 [.fsl (eL rU8 p0)] (.bool r):=by
 refine APure_fn (fun N0=>?_) (by simp)
 refine fnK tok Tryz.func11 Tryz.ntmps11 Tryz.results11 ?_
 simp only[argsA,Nat.reduceAdd,hpN]
 unfold l_FnNextStep at H
 refine S0 tok [] [0] ?_
 refine Wsq [0] fun K1 hK1=>?_
 refine S0 tok [] [0,16] ?_
 refine Cd (fun C1=>?_) fun C1=>?_
 ·replace H:=ifT C1 H
  refine S0 tok [] [2] ?_
  obtain rfl:=oi H;exact Wr ⟨_,rfl,4,by simp[eN]⟩
 ·replace H:=ifF C1 H
  refine Wsk (Jn hK1 ?_)
  obtain⟨r1,hr1,H⟩:=bE H
  refine Sx tok [] [3,4,5] (by intro K k;(repeat first|simp -dsimp -implicitDefEqProofs|refine(c23 hr1).app ?_);exact k) ?_
  obtain⟨r2,hr2,H⟩:=bE H
  refine Sx tok [] [3,4,5,6,7,8,9] (by intro K k;(repeat first|simp -dsimp -implicitDefEqProofs|refine(c24 hr2).app ?_);exact k) ?_
  obtain⟨r3,hr3,H⟩:=bE H
  refine Sx tok [] [3,4,6,7,8,9,10,11,12,13] (by intro K k;(repeat first|simp -dsimp -implicitDefEqProofs|refine(c25 hr3).app ?_);exact k) ?_
  refine Wsq [3,4,6,9] fun K2 hK2=>?_
  obtain⟨g5,hg5,H⟩:=bE H
  obtain⟨g7,hg7,H⟩:=bE H
  obtain⟨g9,hg9,H⟩:=bE H
  refine Sx tok [] [3,4,6,9,61] (X:=[(3,.fsl (eL rQuad r1.1)),(4,.ptr (N0+10) 0 0),(6,.ptr (N0+23) 0 0),(9,.int .i64 r2.2.2.2),(61,.bool g9)]) (Y:=hp E0 [(N0+10,some ⟨26,2,[[.fsl (eL rI r1.2.1.Regs),.int .i64 r1.2.1.Pc]]⟩),(N0+23,some ⟨26,2,[[.fsl (eL rI r2.1.Regs),.int .i64 r2.1.Pc]]⟩),(N0+37,some ⟨26,2,[[.fsl (eL rI r3.1.Regs),.int .i64 r3.1.Pc]]⟩)] (N0+63)) (by
   intro K k
   simp -dsimp -implicitDefEqProofs
   cases hbg5:ine r2.2.2.2 r3.2.2.2
   ·replace hg5:=ifF hbg5 hg5
    obtain⟨r4,hr4,hg5⟩:=bE hg5
    obtain rfl:=oi hg5
    try simp -dsimp -implicitDefEqProofs [hbg5]
    refine(c26 hr4).app ?_;try simp -dsimp -implicitDefEqProofs [hbg5]
    cases hbg7:(bnot r4)
    ·replace hg7:=ifF hbg7 hg7
     obtain⟨r6,hr6,hg7⟩:=bE hg7
     obtain rfl:=oi hg7
     try simp -dsimp -implicitDefEqProofs [hbg5,hbg7]
     refine(c27 hr6).app ?_;try simp -dsimp -implicitDefEqProofs [hbg5,hbg7]
     cases hbg9:(bnot r6)
     ·replace hg9:=ifF hbg9 hg9
      obtain⟨r8,hr8,hg9⟩:=bE hg9
      obtain rfl:=oi hg9
      try simp -dsimp -implicitDefEqProofs [hbg5,hbg7,hbg9]
      refine(c28 hr8).app ?_;try simp -dsimp -implicitDefEqProofs [hbg5,hbg7,hbg9]
      exact k
     ·obtain rfl:=oi (ifT hbg9 hg9)
      try simp -dsimp -implicitDefEqProofs [hbg5,hbg7,hbg9]
      exact k
    ·obtain rfl:=oi (ifT hbg7 hg7)
     obtain rfl:=oi (ifT rfl hg9)
     try simp -dsimp -implicitDefEqProofs [hbg5,hbg7]
     exact k
   ·obtain rfl:=oi (ifT hbg5 hg5)
    obtain rfl:=oi (ifT rfl hg7)
    obtain rfl:=oi (ifT rfl hg9)
    try simp -dsimp -implicitDefEqProofs [hbg5]
    exact k) ?_
  refine Cd (fun C2=>?_) fun C2=>?_
  ·replace H:=ifT C2 H
   refine S0 tok [] [2] ?_
   obtain rfl:=oi H;exact Wr ⟨_,rfl,4,by simp[eN]⟩
  ·replace H:=ifF C2 H
   refine Wsk (Jn hK2 ?_)
   refine Wsq [3,4,6] fun K3 hK3=>?_
   obtain⟨g10,hg10,H⟩:=bE H
   refine Sx tok [] [3,4,6,67] (X:=[(3,.fsl (eL rQuad r1.1)),(4,.ptr (N0+10) 0 0),(6,.ptr (N0+23) 0 0),(67,.bool g10)]) (Y:=hp E0 [(N0+10,some ⟨26,2,[[.fsl (eL rI r1.2.1.Regs),.int .i64 r1.2.1.Pc]]⟩),(N0+23,some ⟨26,2,[[.fsl (eL rI r2.1.Regs),.int .i64 r2.1.Pc]]⟩),(N0+37,some ⟨26,2,[[.fsl (eL rI r3.1.Regs),.int .i64 r3.1.Pc]]⟩)] (N0+69)) (by
    intro K k
    simp -dsimp -implicitDefEqProofs
    cases hbg10:ine r2.2.2.2 1
    ·obtain rfl:=oi (ifF hbg10 hg10)
     try simp -dsimp -implicitDefEqProofs [hbg10]
     exact k
    ·obtain rfl:=oi (ifT hbg10 hg10)
     try simp -dsimp -implicitDefEqProofs [hbg10]
     exact k) ?_
   refine Cd (fun C3=>?_) fun C3=>?_
   ·replace H:=ifT C3 H
    refine S0 tok [] [2] ?_
    obtain rfl:=oi H;exact Wr ⟨_,rfl,4,by simp[eN]⟩
   ·replace H:=ifF C3 H
    refine Wsk (Jn hK3 ?_)
    obtain⟨r11,hr11,H⟩:=bE H
    obtain⟨r12,hr12,H⟩:=bE H
    refine Sd tok tokM [] [2,5] [0,1,4,2,3,5,6,7] [2] (by
     intro K k
     simp only[pickL,nthO_succ,nthO_zero]
     repeat first|simp -dsimp -implicitDefEqProofs|refine Pc.mk (c37 hr11) ?_|refine Pc.mk (c36 hr12) ?_
     exact k) ?_
    obtain rfl:=oi H;exact Wr ⟨_,rfl,4,by simp[eN]⟩
end Go.Proofs.YtdnkfkfjaaedpaaGreat
