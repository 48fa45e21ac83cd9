/- The contracts of functions of the program (UXThreadJump): each computes what its mirror computes. No conditions. -/
import Derived.Test.YtdnkfkfjaaedpaaGreatNUNThreadJump
import Derived.Test.YtdnkfkfjaaedpaaGreatNUT3
set_option linter.unusedSimpArgs false
set_option linter.unusedVariables false
set_option maxRecDepth 20000
set_option maxHeartbeats 4000000
namespace Go.Proofs.YtdnkfkfjaaedpaaGreat
open Go Go.Abs Go.RowKit

theorem c4 {p0:(List Int)} {r:Bool} (H:l_FnThreadJump p0=some r):APure Tryz.prog G 4 [.fsl (eL rU8 p0)] (.bool r):=by
 refine APure_fn (fun N0=>?_) (by simp)
 refine fnK tok Tryz.func4 Tryz.ntmps4 Tryz.results4 ?_
 simp only[argsA,Nat.reduceAdd,hpN]
 unfold l_FnThreadJump at H
 refine S0 tok [] [0] ?_
 refine Wsq [0] fun K1 hK1=>?_
 refine S0 tok [] [0,19] ?_
 refine Cd (fun C1=>?_) fun C1=>?_
 ·replace H:=ifT C1 H
  refine S0 tok [] [2] ?_
  obtain rfl:=oi H;exact Wr ⟨_,rfl,4,by simp[eN]⟩
 ·replace H:=ifF C1 H
  refine Wsk (Jn hK1 ?_)
  obtain⟨r1,hr1,H⟩:=bE H
  refine Sx tok [] [3,4,5] (by intro K k;(repeat first|simp -dsimp -implicitDefEqProofs|refine(c23 hr1).app ?_);exact k) ?_
  obtain⟨r2,hr2,H⟩:=bE H
  refine Sx tok [] [3,4,5,6,7,8,9] (by intro K k;(repeat first|simp -dsimp -implicitDefEqProofs|refine(c24 hr2).app ?_);exact k) ?_
  obtain⟨r3,hr3,H⟩:=bE H
  refine Sx tok [] [3,4,5,6,7,8,9,10,11,12,13] (by intro K k;(repeat first|simp -dsimp -implicitDefEqProofs|refine(c25 hr3).app ?_);exact k) ?_
  refine Wsq [3,4,5,6,7,9] fun K2 hK2=>?_
  obtain⟨g5,hg5,H⟩:=bE H
  obtain⟨g7,hg7,H⟩:=bE H
  obtain⟨g9,hg9,H⟩:=bE H
  refine Sx tok [] [3,4,5,6,7,9,64] (X:=[(3,.fsl (eL rQuad r1.1)),(4,.ptr (N0+10) 0 0),(5,.fsl (eL rBox r1.2.2)),(6,.ptr (N0+23) 0 0),(7,.fsl (eL rBox r2.2.1)),(9,.int .i64 r2.2.2.2),(64,.bool g9)]) (Y:=hp E0 [(N0+10,some ⟨26,2,[[.fsl (eL rI r1.2.1.Regs),.int .i64 r1.2.1.Pc]]⟩),(N0+23,some ⟨26,2,[[.fsl (eL rI r2.1.Regs),.int .i64 r2.1.Pc]]⟩),(N0+37,some ⟨26,2,[[.fsl (eL rI r3.1.Regs),.int .i64 r3.1.Pc]]⟩)] (N0+63)) (by
   intro K k
   simp -dsimp -implicitDefEqProofs
   cases hbg5:ine r2.2.2.2 r3.2.2.2
   ·replace hg5:=ifF hbg5 hg5
    obtain⟨r4,hr4,hg5⟩:=bE hg5
    obtain rfl:=oi hg5
    try simp -dsimp -implicitDefEqProofs [hbg5]
    refine(c26 hr4).app ?_;try simp -dsimp -implicitDefEqProofs [hbg5]
    cases hbg7:(bnot r4)
    ·replace hg7:=ifF hbg7 hg7
     obtain⟨r6,hr6,hg7⟩:=bE hg7
     obtain rfl:=oi hg7
     try simp -dsimp -implicitDefEqProofs [hbg5,hbg7]
     refine(c27 hr6).app ?_;try simp -dsimp -implicitDefEqProofs [hbg5,hbg7]
     cases hbg9:(bnot r6)
     ·replace hg9:=ifF hbg9 hg9
      obtain⟨r8,hr8,hg9⟩:=bE hg9
      obtain rfl:=oi hg9
      try simp -dsimp -implicitDefEqProofs [hbg5,hbg7,hbg9]
      refine(c28 hr8).app ?_;try simp -dsimp -implicitDefEqProofs [hbg5,hbg7,hbg9]
      exact k
     ·obtain rfl:=oi (ifT hbg9 hg9)
      try simp -dsimp -implicitDefEqProofs [hbg5,hbg7,hbg9]
      exact k
    ·obtain rfl:=oi (ifT hbg7 hg7)
     obtain rfl:=oi (ifT rfl hg9)
     try simp -dsimp -implicitDefEqProofs [hbg5,hbg7]
     exact k
   ·obtain rfl:=oi (ifT hbg5 hg5)
    obtain rfl:=oi (ifT rfl hg7)
    obtain rfl:=oi (ifT rfl hg9)
    try simp -dsimp -implicitDefEqProofs [hbg5]
    exact k) ?_
  refine Cd (fun C2=>?_) fun C2=>?_
  ·replace H:=ifT C2 H
   refine S0 tok [] [2] ?_
   obtain rfl:=oi H;exact Wr ⟨_,rfl,4,by simp[eN]⟩
  ·replace H:=ifF C2 H
   refine Wsk (Jn hK2 ?_)
   refine Wsq [3,4,5,6,7,9] fun K3 hK3=>?_
   obtain⟨g12,hg12,H⟩:=bE H
   refine Sx tok [] [3,4,5,6,7,9,84] (X:=[(3,.fsl (eL rQuad r1.1)),(4,.ptr (N0+10) 0 0),(5,.fsl (eL rBox r1.2.2)),(6,.ptr (N0+23) 0 0),(7,.fsl (eL rBox r2.2.1)),(9,.int .i64 r2.2.2.2),(84,.bool g12)]) (Y:=hp E0 [(N0+10,some ⟨26,2,[[.fsl (eL rI r1.2.1.Regs),.int .i64 r1.2.1.Pc]]⟩),(N0+23,some ⟨26,2,[[.fsl (eL rI r2.1.Regs),.int .i64 r2.1.Pc]]⟩),(N0+37,some ⟨26,2,[[.fsl (eL rI r3.1.Regs),.int .i64 r3.1.Pc]]⟩)] (N0+83)) (by
    intro K k
    simp -dsimp -implicitDefEqProofs
    cases hbg12:ieq r2.2.2.2 0
    ·replace hg12:=ifF hbg12 hg12
     obtain⟨v10,hv10,hg12⟩:=bE hg12
     obtain⟨g11,hg11,hg12⟩:=bE hg12
     obtain rfl:=oi hg12
     try simp -dsimp -implicitDefEqProofs [hbg12,ix23 hv10]
     cases hbg11:ine v10.Op 4
     ·obtain rfl:=oi (ifF hbg11 hg11)
      try simp -dsimp -implicitDefEqProofs [hbg12,ix23 hv10,hbg11]
      exact k
     ·obtain rfl:=oi (ifT hbg11 hg11)
      try simp -dsimp -implicitDefEqProofs [hbg12,ix23 hv10,hbg11]
      exact k
    ·obtain rfl:=oi (ifT hbg12 hg12)
     try simp -dsimp -implicitDefEqProofs [hbg12]
     exact k) ?_
   refine Cd (fun C3=>?_) fun C3=>?_
   ·replace H:=ifT C3 H
    refine S0 tok [] [2] ?_
    obtain rfl:=oi H;exact Wr ⟨_,rfl,4,by simp[eN]⟩
   ·replace H:=ifF C3 H
    refine Wsk (Jn hK3 ?_)
    obtain⟨v13,hv13,H⟩:=bE H
    refine Sx tok [] [4,5,6,7,9,14] (by intro K k;simp -dsimp -implicitDefEqProofs [ix23 hv13];exact k) ?_
    obtain⟨g15,hg15,H⟩:=bE H
    refine Sx tok [] [4,5,6,7,9,14,15] (X:=[(4,.ptr (N0+10) 0 0),(5,.fsl (eL rBox r1.2.2)),(6,.ptr (N0+23) 0 0),(7,.fsl (eL rBox r2.2.1)),(9,.int .i64 r2.2.2.2),(14,.ptr (N0+88) 0 0),(15,.bool g15)]) (Y:=hp E0 [(N0+10,some ⟨26,2,[[.fsl (eL rI r1.2.1.Regs),.int .i64 r1.2.1.Pc]]⟩),(N0+23,some ⟨26,2,[[.fsl (eL rI r2.1.Regs),.int .i64 r2.1.Pc]]⟩),(N0+37,some ⟨26,2,[[.fsl (eL rI r3.1.Regs),.int .i64 r3.1.Pc]]⟩),(N0+88,some ⟨36,5,[[.int .i64 v13.Op,.int .i64 v13.Dst,.int .i64 v13.A,.int .i64 v13.B,.int .i64 v13.N]]⟩)] (N0+103)) (by
     intro K k
     simp -dsimp -implicitDefEqProofs
     cases hbg15:ieq v13.Op 4
     ·replace hg15:=ifF hbg15 hg15
      obtain⟨v14,hv14,hg15⟩:=bE hg15
      obtain rfl:=oi hg15
      try simp -dsimp -implicitDefEqProofs [hbg15,ix24 hv14]
      exact k
     ·obtain rfl:=oi (ifT hbg15 hg15)
      try simp -dsimp -implicitDefEqProofs [hbg15]
      exact k) ?_
    refine S0 tok [] [4,5,6,7,9,14,15,16] ?_
    obtain⟨g19,hg19,H⟩:=bE H
    obtain⟨g21,hg21,H⟩:=bE H
    obtain⟨g23,hg23,H⟩:=bE H
    refine Sx tok [] [2] (X:=[(2,.bool g23)]) (Y:=hp E0 [(N0+10,some ⟨26,2,[[.fsl (eL rI r1.2.1.Regs),.int .i64 r1.2.1.Pc]]⟩),(N0+23,some ⟨26,2,[[.fsl (eL rI r2.1.Regs),.int .i64 r2.1.Pc]]⟩),(N0+37,some ⟨26,2,[[.fsl (eL rI r3.1.Regs),.int .i64 r3.1.Pc]]⟩),(N0+88,some ⟨36,5,[[.int .i64 v13.Op,.int .i64 v13.Dst,.int .i64 v13.A,.int .i64 v13.B,.int .i64 v13.N]]⟩)] (N0+142)) (by
     intro K k
     simp -dsimp -implicitDefEqProofs
     cases hbg19:ieq r2.2.2.2 1
     ·obtain rfl:=oi (ifF hbg19 hg19)
      obtain rfl:=oi (ifF rfl hg21)
      obtain rfl:=oi (ifF rfl hg23)
      try simp -dsimp -implicitDefEqProofs [hbg19]
      exact k
     ·replace hg19:=ifT hbg19 hg19
      obtain⟨g16,hg16,hg19⟩:=bE hg19
      obtain⟨g18,hg18,hg19⟩:=bE hg19
      obtain rfl:=oi hg19
      try simp -dsimp -implicitDefEqProofs [hbg19]
      cases hbg16:g15
      ·obtain rfl:=oi (ifF hbg16 hg16)
       try simp -dsimp -implicitDefEqProofs [hbg19,hbg16]
       replace hg18:=ifF rfl hg18
       obtain⟨g17,hg17,hg18⟩:=bE hg18
       obtain rfl:=oi hg18
       try simp -dsimp -implicitDefEqProofs [hbg19,hbg16]
       replace hg17:=ifT (by rw[hbg16];rfl) hg17
       obtain rfl:=oi hg17
       try simp -dsimp -implicitDefEqProofs [hbg19,hbg16,bnotF,bnotT]
       cases hbg21:(ieq r2.1.Pc (iadd .i64 r1.2.1.Pc 1))
       ·obtain rfl:=oi (ifF hbg21 hg21)
        obtain rfl:=oi (ifF rfl hg23)
        try simp -dsimp -implicitDefEqProofs [hbg19,hbg16,bnotF,bnotT,hbg21]
        exact k
       ·replace hg21:=ifT hbg21 hg21
        obtain⟨r20,hr20,hg21⟩:=bE hg21
        obtain rfl:=oi hg21
        try simp -dsimp -implicitDefEqProofs [hbg19,hbg16,bnotF,bnotT,hbg21]
        refine(c28 hr20).app ?_;try simp -dsimp -implicitDefEqProofs [hbg19,hbg16,bnotF,bnotT,hbg21]
        cases hbg23:r20
        ·obtain rfl:=oi (ifF hbg23 hg23)
         try simp -dsimp -implicitDefEqProofs [hbg19,hbg16,bnotF,bnotT,hbg21,hbg23]
         exact k
        ·replace hg23:=ifT hbg23 hg23
         obtain⟨r22,hr22,hg23⟩:=bE hg23
         obtain rfl:=oi hg23
         try simp -dsimp -implicitDefEqProofs [hbg19,hbg16,bnotF,bnotT,hbg21,hbg23]
         refine(c27 hr22).app ?_;try simp -dsimp -implicitDefEqProofs [hbg19,hbg16,bnotF,bnotT,hbg21,hbg23]
         exact k
      ·obtain rfl:=oi (ifT hbg16 hg16)
       try simp -dsimp -implicitDefEqProofs [hbg19,hbg16]
       cases hbg18:(ieq r2.1.Pc v13.N)
       ·replace hg18:=ifF hbg18 hg18
        obtain⟨g17,hg17,hg18⟩:=bE hg18
        obtain rfl:=oi hg18
        try simp -dsimp -implicitDefEqProofs [hbg19,hbg16,hbg18]
        replace hg17:=ifF (by rw[hbg16];rfl) hg17
        obtain rfl:=oi hg17
        obtain rfl:=oi (ifF rfl hg21)
        obtain rfl:=oi (ifF rfl hg23)
        try simp -dsimp -implicitDefEqProofs [hbg19,hbg16,hbg18,bnotF,bnotT]
        exact k
       ·obtain rfl:=oi (ifT hbg18 hg18)
        try simp -dsimp -implicitDefEqProofs [hbg19,hbg16,hbg18]
        replace hg21:=ifT rfl hg21
        obtain⟨r20,hr20,hg21⟩:=bE hg21
        obtain rfl:=oi hg21
        try simp -dsimp -implicitDefEqProofs [hbg19,hbg16,hbg18]
        refine(c28 hr20).app ?_;try simp -dsimp -implicitDefEqProofs [hbg19,hbg16,hbg18]
        cases hbg23:r20
        ·obtain rfl:=oi (ifF hbg23 hg23)
         try simp -dsimp -implicitDefEqProofs [hbg19,hbg16,hbg18,hbg23]
         exact k
        ·replace hg23:=ifT hbg23 hg23
         obtain⟨r22,hr22,hg23⟩:=bE hg23
         obtain rfl:=oi hg23
         try simp -dsimp -implicitDefEqProofs [hbg19,hbg16,hbg18,hbg23]
         refine(c27 hr22).app ?_;try simp -dsimp -implicitDefEqProofs [hbg19,hbg16,hbg18,hbg23]
         exact k) ?_
    obtain rfl:=oi H;exact Wr ⟨_,rfl,4,by simp[eN]⟩
end Go.Proofs.YtdnkfkfjaaedpaaGreat
