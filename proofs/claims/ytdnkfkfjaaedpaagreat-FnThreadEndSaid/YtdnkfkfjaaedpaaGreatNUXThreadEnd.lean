/- The contracts of functions of the program (UXThreadEnd): each computes what its mirror computes. No conditions. -/
import Derived.Test.YtdnkfkfjaaedpaaGreatNUNThreadEnd
import Derived.Test.YtdnkfkfjaaedpaaGreatNUT3
set_option linter.unusedSimpArgs false
set_option linter.unusedVariables false
set_option maxRecDepth 20000
set_option maxHeartbeats 4000000
namespace Go.Proofs.YtdnkfkfjaaedpaaGreat
open Go Go.Abs Go.RowKit

theorem c3 {p0:(List Int)} {r:Bool} (H:l_FnThreadEnd p0=some r):APure Tryz.prog G 3 [.fsl (eL rU8 p0)] (.bool r):=by
 refine APure_fn (fun N0=>?_) (by simp)
 refine fnK tok Tryz.func3 Tryz.ntmps3 Tryz.results3 ?_
 simp only[argsA,Nat.reduceAdd,hpN]
 unfold l_FnThreadEnd at H
 refine S0 tok [] [0] ?_
 refine Wsq [0] fun K1 hK1=>?_
 refine S0 tok [] [0,17] ?_
 refine Cd (fun C1=>?_) fun C1=>?_
 ·replace H:=ifT C1 H
  refine S0 tok [] [2] ?_
  obtain rfl:=oi H;exact Wr ⟨_,rfl,4,by simp[eN]⟩
 ·replace H:=ifF C1 H
  refine Wsk (Jn hK1 ?_)
  obtain⟨r1,hr1,H⟩:=bE H
  refine Sx tok [] [3,4,5] (by intro K k;(repeat first|simp -dsimp -implicitDefEqProofs|refine(c23 hr1).app ?_);exact k) ?_
  obtain⟨r2,hr2,H⟩:=bE H
  refine Sx tok [] [3,4,5,6,7,8,9] (by intro K k;(repeat first|simp -dsimp -implicitDefEqProofs|refine(c24 hr2).app ?_);exact k) ?_
  obtain⟨r3,hr3,H⟩:=bE H
  refine Sx tok [] [3,4,6,7,8,9,10,11,12,13] (by intro K k;(repeat first|simp -dsimp -implicitDefEqProofs|refine(c25 hr3).app ?_);exact k) ?_
  refine Wsq [3,4,8,9] fun K2 hK2=>?_
  obtain⟨g5,hg5,H⟩:=bE H
  obtain⟨g7,hg7,H⟩:=bE H
  obtain⟨g9,hg9,H⟩:=bE H
  refine Sx tok [] [3,4,8,9,62] (X:=[(3,.fsl (eL rQuad r1.1)),(4,.ptr (N0+10) 0 0),(8,.fsl (eL rI r2.2.2.1)),(9,.int .i64 r2.2.2.2),(62,.bool g9)]) (Y:=hp E0 [(N0+10,some ⟨26,2,[[.fsl (eL rI r1.2.1.Regs),.int .i64 r1.2.1.Pc]]⟩),(N0+23,some ⟨26,2,[[.fsl (eL rI r2.1.Regs),.int .i64 r2.1.Pc]]⟩),(N0+37,some ⟨26,2,[[.fsl (eL rI r3.1.Regs),.int .i64 r3.1.Pc]]⟩)] (N0+63)) (by
   intro K k
   simp -dsimp -implicitDefEqProofs
   cases hbg5:ine r2.2.2.2 r3.2.2.2
   ·replace hg5:=ifF hbg5 hg5
    obtain⟨r4,hr4,hg5⟩:=bE hg5
    obtain rfl:=oi hg5
    try simp -dsimp -implicitDefEqProofs [hbg5]
    refine(c26 hr4).app ?_;try simp -dsimp -implicitDefEqProofs [hbg5]
    cases hbg7:(bnot r4)
    ·replace hg7:=ifF hbg7 hg7
     obtain⟨r6,hr6,hg7⟩:=bE hg7
     obtain rfl:=oi hg7
     try simp -dsimp -implicitDefEqProofs [hbg5,hbg7]
     refine(c27 hr6).app ?_;try simp -dsimp -implicitDefEqProofs [hbg5,hbg7]
     cases hbg9:(bnot r6)
     ·replace hg9:=ifF hbg9 hg9
      obtain⟨r8,hr8,hg9⟩:=bE hg9
      obtain rfl:=oi hg9
      try simp -dsimp -implicitDefEqProofs [hbg5,hbg7,hbg9]
      refine(c28 hr8).app ?_;try simp -dsimp -implicitDefEqProofs [hbg5,hbg7,hbg9]
      exact k
     ·obtain rfl:=oi (ifT hbg9 hg9)
      try simp -dsimp -implicitDefEqProofs [hbg5,hbg7,hbg9]
      exact k
    ·obtain rfl:=oi (ifT hbg7 hg7)
     obtain rfl:=oi (ifT rfl hg9)
     try simp -dsimp -implicitDefEqProofs [hbg5,hbg7]
     exact k
   ·obtain rfl:=oi (ifT hbg5 hg5)
    obtain rfl:=oi (ifT rfl hg7)
    obtain rfl:=oi (ifT rfl hg9)
    try simp -dsimp -implicitDefEqProofs [hbg5]
    exact k) ?_
  refine Cd (fun C2=>?_) fun C2=>?_
  ·replace H:=ifT C2 H
   refine S0 tok [] [2] ?_
   obtain rfl:=oi H;exact Wr ⟨_,rfl,4,by simp[eN]⟩
  ·replace H:=ifF C2 H
   refine Wsk (Jn hK2 ?_)
   refine Wsq [3,4,8,9] fun K3 hK3=>?_
   refine S0 tok [] [3,4,8,9,64] ?_
   refine Cd (fun C3=>?_) fun C3=>?_
   ·replace H:=ifT C3 H
    refine S0 tok [] [2] ?_
    obtain rfl:=oi H;exact Wr ⟨_,rfl,4,by simp[eN]⟩
   ·replace H:=ifF C3 H
    refine Wsk (Jn hK3 ?_)
    obtain⟨v10,hv10,H⟩:=bE H
    refine Sx tok [] [8,9,14] (by intro K k;simp -dsimp -implicitDefEqProofs [ix23 hv10];exact k) ?_
    obtain⟨g11,hg11,H⟩:=bE H
    obtain⟨g12,hg12,H⟩:=bE H
    refine Sx tok [] [2] (X:=[(2,.bool g12)]) (Y:=hp E0 [(N0+10,some ⟨26,2,[[.fsl (eL rI r1.2.1.Regs),.int .i64 r1.2.1.Pc]]⟩),(N0+23,some ⟨26,2,[[.fsl (eL rI r2.1.Regs),.int .i64 r2.1.Pc]]⟩),(N0+37,some ⟨26,2,[[.fsl (eL rI r3.1.Regs),.int .i64 r3.1.Pc]]⟩),(N0+70,some ⟨36,5,[[.int .i64 v10.Op,.int .i64 v10.Dst,.int .i64 v10.A,.int .i64 v10.B,.int .i64 v10.N]]⟩)] (N0+96)) (by
     intro K k
     simp -dsimp -implicitDefEqProofs
     cases hbg11:beqb (ieq r2.2.2.2 4) (ieq v10.Op 10)
     ·obtain rfl:=oi (ifF hbg11 hg11)
      obtain rfl:=oi (ifF rfl hg12)
      try simp -dsimp -implicitDefEqProofs [hbg11]
      exact k
     ·obtain rfl:=oi (ifT hbg11 hg11)
      try simp -dsimp -implicitDefEqProofs [hbg11]
      cases hbg12:(beqb (ieq r2.2.2.2 2) (ieq v10.Op 8))
      ·obtain rfl:=oi (ifF hbg12 hg12)
       try simp -dsimp -implicitDefEqProofs [hbg11,hbg12]
       exact k
      ·obtain rfl:=oi (ifT hbg12 hg12)
       try simp -dsimp -implicitDefEqProofs [hbg11,hbg12]
       exact k) ?_
    obtain rfl:=oi H;exact Wr ⟨_,rfl,4,by simp[eN]⟩
end Go.Proofs.YtdnkfkfjaaedpaaGreat
