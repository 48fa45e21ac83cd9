/- The contracts of functions of the program (UXThreadBin): each computes what its mirror computes. No conditions. -/
import Derived.Test.YtdnkfkfjaaedpaaGreatNUNThreadBin
import Derived.Test.YtdnkfkfjaaedpaaGreatNUT3
set_option linter.unusedSimpArgs false
set_option linter.unusedVariables false
set_option maxRecDepth 20000
set_option maxHeartbeats 4000000
namespace Go.Proofs.YtdnkfkfjaaedpaaGreat
open Go Go.Abs Go.RowKit

theorem c31 {p0:Int} {p1:Int} {p2:Int} {r:Int×Bool} (H:i_Apply p0 p1 p2=some r):APure Tryz.prog G 31 [.int .i64 p0,.int .i64 p1,.int .i64 p2] (.tup [.int .i64 r.1,.bool r.2]):=by
 refine APure_fn (fun N0=>?_) (by simp)
 refine fnK tok Tryz.func31 Tryz.ntmps31 Tryz.results31 ?_
 simp only[argsA,Nat.reduceAdd,hpN]
 unfold i_Apply at H
 refine S0 tok [] [0,1,2] ?_
 refine Wsq [0,1,2] fun K1 hK1=>?_
 obtain⟨r1,hr1,H⟩:=bE H
 obtain⟨g3,hg3,H⟩:=bE H
 obtain⟨g5,hg5,H⟩:=bE H
 refine Sx tok [] [0,1,2,20] (X:=[(0,.int .i64 p0),(1,.int .i64 p1),(2,.int .i64 p2),(20,.bool g5)]) (Y:=hp E0 [] (N0+15)) (by
  intro K k
  simp -dsimp -implicitDefEqProofs
  refine(c80 hr1).app ?_;try simp -dsimp -implicitDefEqProofs
  cases hbg3:bnot r1
  ·replace hg3:=ifF hbg3 hg3
   obtain⟨r2,hr2,hg3⟩:=bE hg3
   obtain rfl:=oi hg3
   try simp -dsimp -implicitDefEqProofs [hbg3]
   refine(c81 hr2).app ?_;try simp -dsimp -implicitDefEqProofs [hbg3]
   cases hbg5:(bnot r2)
   ·replace hg5:=ifF hbg5 hg5
    obtain⟨r4,hr4,hg5⟩:=bE hg5
    obtain rfl:=oi hg5
    try simp -dsimp -implicitDefEqProofs [hbg3,hbg5]
    refine(c81 hr4).app ?_;try simp -dsimp -implicitDefEqProofs [hbg3,hbg5]
    exact k
   ·obtain rfl:=oi (ifT hbg5 hg5)
    try simp -dsimp -implicitDefEqProofs [hbg3,hbg5]
    exact k
  ·obtain rfl:=oi (ifT hbg3 hg3)
   obtain rfl:=oi (ifT rfl hg5)
   try simp -dsimp -implicitDefEqProofs [hbg3]
   exact k) ?_
 refine Cd (fun C1=>?_) fun C1=>?_
 ·replace H:=ifT C1 H
  refine S0 tok [] [6,7] ?_
  obtain rfl:=oi H;exact Wr ⟨_,rfl,4,by simp[eN]⟩
 ·replace H:=ifF C1 H
  refine Wsk (Jn hK1 ?_)
  obtain⟨r6,hr6,H⟩:=bE H
  refine Sx tok [] [6,7] (by intro K k;(repeat first|simp -dsimp -implicitDefEqProofs|refine(c82 hr6).app ?_);exact k) ?_
  obtain rfl:=oi H;exact Wr ⟨_,rfl,4,by simp[eN]⟩

theorem c9 {p0:(List Int)} {r:Bool} (H:l_FnThreadBin p0=some r):APure Tryz.prog G 9 [.fsl (eL rU8 p0)] (.bool r):=by
 refine APure_fn (fun N0=>?_) (by simp)
 refine fnK tok Tryz.func9 Tryz.ntmps9 Tryz.results9 ?_
 simp only[argsA,Nat.reduceAdd,hpN]
 unfold l_FnThreadBin at H
 refine S0 tok [] [0] ?_
 refine Wsq [0] fun K1 hK1=>?_
 refine S0 tok [] [0,19] ?_
 refine Cd (fun C1=>?_) fun C1=>?_
 ·replace H:=ifT C1 H
  refine S0 tok [] [2] ?_
  obtain rfl:=oi H;exact Wr ⟨_,rfl,4,by simp[eN]⟩
 ·replace H:=ifF C1 H
  refine Wsk (Jn hK1 ?_)
  obtain⟨r1,hr1,H⟩:=bE H
  refine Sx tok [] [3,4,5] (by intro K k;(repeat first|simp -dsimp -implicitDefEqProofs|refine(c23 hr1).app ?_);exact k) ?_
  obtain⟨r2,hr2,H⟩:=bE H
  refine Sx tok [] [3,4,5,6,7,8,9] (by intro K k;(repeat first|simp -dsimp -implicitDefEqProofs|refine(c24 hr2).app ?_);exact k) ?_
  obtain⟨r3,hr3,H⟩:=bE H
  refine Sx tok [] [3,4,6,7,8,9,10,11,12,13] (by intro K k;(repeat first|simp -dsimp -implicitDefEqProofs|refine(c25 hr3).app ?_);exact k) ?_
  refine Wsq [3,4,6,9] fun K2 hK2=>?_
  obtain⟨g5,hg5,H⟩:=bE H
  obtain⟨g7,hg7,H⟩:=bE H
  obtain⟨g9,hg9,H⟩:=bE H
  refine Sx tok [] [3,4,6,9,64] (X:=[(3,.fsl (eL rQuad r1.1)),(4,.ptr (N0+10) 0 0),(6,.ptr (N0+23) 0 0),(9,.int .i64 r2.2.2.2),(64,.bool g9)]) (Y:=hp E0 [(N0+10,some ⟨26,2,[[.fsl (eL rI r1.2.1.Regs),.int .i64 r1.2.1.Pc]]⟩),(N0+23,some ⟨26,2,[[.fsl (eL rI r2.1.Regs),.int .i64 r2.1.Pc]]⟩),(N0+37,some ⟨26,2,[[.fsl (eL rI r3.1.Regs),.int .i64 r3.1.Pc]]⟩)] (N0+63)) (by
   intro K k
   simp -dsimp -implicitDefEqProofs
   cases hbg5:ine r2.2.2.2 r3.2.2.2
   ·replace hg5:=ifF hbg5 hg5
    obtain⟨r4,hr4,hg5⟩:=bE hg5
    obtain rfl:=oi hg5
    try simp -dsimp -implicitDefEqProofs [hbg5]
    refine(c26 hr4).app ?_;try simp -dsimp -implicitDefEqProofs [hbg5]
    cases hbg7:(bnot r4)
    ·replace hg7:=ifF hbg7 hg7
     obtain⟨r6,hr6,hg7⟩:=bE hg7
     obtain rfl:=oi hg7
     try simp -dsimp -implicitDefEqProofs [hbg5,hbg7]
     refine(c27 hr6).app ?_;try simp -dsimp -implicitDefEqProofs [hbg5,hbg7]
     cases hbg9:(bnot r6)
     ·replace hg9:=ifF hbg9 hg9
      obtain⟨r8,hr8,hg9⟩:=bE hg9
      obtain rfl:=oi hg9
      try simp -dsimp -implicitDefEqProofs [hbg5,hbg7,hbg9]
      refine(c28 hr8).app ?_;try simp -dsimp -implicitDefEqProofs [hbg5,hbg7,hbg9]
      exact k
     ·obtain rfl:=oi (ifT hbg9 hg9)
      try simp -dsimp -implicitDefEqProofs [hbg5,hbg7,hbg9]
      exact k
    ·obtain rfl:=oi (ifT hbg7 hg7)
     obtain rfl:=oi (ifT rfl hg9)
     try simp -dsimp -implicitDefEqProofs [hbg5,hbg7]
     exact k
   ·obtain rfl:=oi (ifT hbg5 hg5)
    obtain rfl:=oi (ifT rfl hg7)
    obtain rfl:=oi (ifT rfl hg9)
    try simp -dsimp -implicitDefEqProofs [hbg5]
    exact k) ?_
  refine Cd (fun C2=>?_) fun C2=>?_
  ·replace H:=ifT C2 H
   refine S0 tok [] [2] ?_
   obtain rfl:=oi H;exact Wr ⟨_,rfl,4,by simp[eN]⟩
  ·replace H:=ifF C2 H
   refine Wsk (Jn hK2 ?_)
   refine Wsq [3,4,6,9] fun K3 hK3=>?_
   obtain⟨g11,hg11,H⟩:=bE H
   refine Sx tok [] [3,4,6,9,75] (X:=[(3,.fsl (eL rQuad r1.1)),(4,.ptr (N0+10) 0 0),(6,.ptr (N0+23) 0 0),(9,.int .i64 r2.2.2.2),(75,.bool g11)]) (Y:=hp E0 [(N0+10,some ⟨26,2,[[.fsl (eL rI r1.2.1.Regs),.int .i64 r1.2.1.Pc]]⟩),(N0+23,some ⟨26,2,[[.fsl (eL rI r2.1.Regs),.int .i64 r2.1.Pc]]⟩),(N0+37,some ⟨26,2,[[.fsl (eL rI r3.1.Regs),.int .i64 r3.1.Pc]]⟩)] (N0+74)) (by
    intro K k
    simp -dsimp -implicitDefEqProofs
    cases hbg11:ieq r2.2.2.2 0
    ·replace hg11:=ifF hbg11 hg11
     obtain⟨v10,hv10,hg11⟩:=bE hg11
     obtain rfl:=oi hg11
     try simp -dsimp -implicitDefEqProofs [hbg11,ix23 hv10]
     exact k
    ·obtain rfl:=oi (ifT hbg11 hg11)
     try simp -dsimp -implicitDefEqProofs [hbg11]
     exact k) ?_
   refine Cd (fun C3=>?_) fun C3=>?_
   ·replace H:=ifT C3 H
    refine S0 tok [] [2] ?_
    obtain rfl:=oi H;exact Wr ⟨_,rfl,4,by simp[eN]⟩
   ·replace H:=ifF C3 H
    refine Wsk (Jn hK3 ?_)
    obtain⟨v12,hv12,H⟩:=bE H
    refine Sx tok [] [4,6,9,14] (by intro K k;simp -dsimp -implicitDefEqProofs [ix23 hv12];exact k) ?_
    obtain⟨v13,hv13,H⟩:=bE H
    obtain⟨v14,hv14,H⟩:=bE H
    obtain⟨r15,hr15,H⟩:=bE H
    refine Sd tok tokM [] [1,3,5,6,7,9,11,12,13] [0,2,4,8,10,1,3,5,6,7,9,11,12,13,14,15,16,17,18,19] [4,6,9,14,15,16] (by
     intro K k
     simp only[pickL,nthO_succ,nthO_zero]
     repeat first|simp -dsimp -implicitDefEqProofs [ix24 hv13,ix24 hv14]|refine Pc.mk (c31 hr15) ?_
     exact k) ?_
    obtain⟨g16,hg16,H⟩:=bE H
    obtain⟨g18,hg18,H⟩:=bE H
    obtain⟨g19,hg19,H⟩:=bE H
    refine Sx tok [] [2] (X:=[(2,.bool g19)]) (Y:=hp E0 [(N0+10,some ⟨26,2,[[.fsl (eL rI r1.2.1.Regs),.int .i64 r1.2.1.Pc]]⟩),(N0+23,some ⟨26,2,[[.fsl (eL rI r2.1.Regs),.int .i64 r2.1.Pc]]⟩),(N0+37,some ⟨26,2,[[.fsl (eL rI r3.1.Regs),.int .i64 r3.1.Pc]]⟩),(N0+79,some ⟨36,5,[[.int .i64 v12.Op,.int .i64 v12.Dst,.int .i64 v12.A,.int .i64 v12.B,.int .i64 v12.N]]⟩)] (N0+125)) (by
     intro K k
     simp -dsimp -implicitDefEqProofs
     cases hbg16:r15.2
     ·obtain rfl:=oi (ifF hbg16 hg16)
      obtain rfl:=oi (ifF rfl hg18)
      obtain rfl:=oi (ifF rfl hg19)
      try simp -dsimp -implicitDefEqProofs [hbg16]
      exact k
     ·obtain rfl:=oi (ifT hbg16 hg16)
      try simp -dsimp -implicitDefEqProofs [hbg16]
      cases hbg18:(ieq r2.2.2.2 1)
      ·obtain rfl:=oi (ifF hbg18 hg18)
       obtain rfl:=oi (ifF rfl hg19)
       try simp -dsimp -implicitDefEqProofs [hbg16,hbg18]
       exact k
      ·replace hg18:=ifT hbg18 hg18
       obtain⟨v17,hv17,hg18⟩:=bE hg18
       obtain rfl:=oi hg18
       try simp -dsimp -implicitDefEqProofs [hbg16,hbg18,ix24 hv17]
       cases hbg19:(ieq v17 r15.1)
       ·obtain rfl:=oi (ifF hbg19 hg19)
        try simp -dsimp -implicitDefEqProofs [hbg16,hbg18,ix24 hv17,hbg19]
        exact k
       ·obtain rfl:=oi (ifT hbg19 hg19)
        try simp -dsimp -implicitDefEqProofs [hbg16,hbg18,ix24 hv17,hbg19]
        exact k) ?_
    obtain rfl:=oi H;exact Wr ⟨_,rfl,4,by simp[eN]⟩
end Go.Proofs.YtdnkfkfjaaedpaaGreat
