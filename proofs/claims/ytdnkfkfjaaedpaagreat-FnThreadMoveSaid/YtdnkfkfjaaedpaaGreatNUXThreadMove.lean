/- The contracts of functions of the program (UXThreadMove): each computes what its mirror computes. No conditions. -/
import Derived.Test.YtdnkfkfjaaedpaaGreatNUNThreadMove
import Derived.Test.YtdnkfkfjaaedpaaGreatNUT3
set_option linter.unusedSimpArgs false
set_option linter.unusedVariables false
set_option maxRecDepth 20000
set_option maxHeartbeats 4000000
namespace Go.Proofs.YtdnkfkfjaaedpaaGreat
open Go Go.Abs Go.RowKit

theorem c5 {p0:(List Int)} {r:Bool} (H:l_FnThreadMove p0=some r):APure Tryz.prog G 5 [.fsl (eL rU8 p0)] (.bool r):=by
 refine APure_fn (fun N0=>?_) (by simp)
 refine fnK tok Tryz.func5 Tryz.ntmps5 Tryz.results5 ?_
 simp only[argsA,Nat.reduceAdd,hpN]
 unfold l_FnThreadMove at H
 refine S0 tok [] [0] ?_
 refine Wsq [0] fun K1 hK1=>?_
 refine S0 tok [] [0,18] ?_
 refine Cd (fun C1=>?_) fun C1=>?_
 ·replace H:=ifT C1 H
  refine S0 tok [] [2] ?_
  obtain rfl:=oi H;exact Wr ⟨_,rfl,4,by simp[eN]⟩
 ·replace H:=ifF C1 H
  refine Wsk (Jn hK1 ?_)
  obtain⟨r1,hr1,H⟩:=bE H
  refine Sx tok [] [3,4,5] (by intro K k;(repeat first|simp -dsimp -implicitDefEqProofs|refine(c23 hr1).app ?_);exact k) ?_
  obtain⟨r2,hr2,H⟩:=bE H
  refine Sx tok [] [3,4,5,6,7,8,9] (by intro K k;(repeat first|simp -dsimp -implicitDefEqProofs|refine(c24 hr2).app ?_);exact k) ?_
  obtain⟨r3,hr3,H⟩:=bE H
  refine Sx tok [] [3,4,5,6,7,8,9,10,11,12,13] (by intro K k;(repeat first|simp -dsimp -implicitDefEqProofs|refine(c25 hr3).app ?_);exact k) ?_
  refine Wsq [3,4,5,6,7,9] fun K2 hK2=>?_
  obtain⟨g5,hg5,H⟩:=bE H
  obtain⟨g7,hg7,H⟩:=bE H
  obtain⟨g9,hg9,H⟩:=bE H
  refine Sx tok [] [3,4,5,6,7,9,63] (X:=[(3,.fsl (eL rQuad r1.1)),(4,.ptr (N0+10) 0 0),(5,.fsl (eL rBox r1.2.2)),(6,.ptr (N0+23) 0 0),(7,.fsl (eL rBox r2.2.1)),(9,.int .i64 r2.2.2.2),(63,.bool g9)]) (Y:=hp E0 [(N0+10,some ⟨26,2,[[.fsl (eL rI r1.2.1.Regs),.int .i64 r1.2.1.Pc]]⟩),(N0+23,some ⟨26,2,[[.fsl (eL rI r2.1.Regs),.int .i64 r2.1.Pc]]⟩),(N0+37,some ⟨26,2,[[.fsl (eL rI r3.1.Regs),.int .i64 r3.1.Pc]]⟩)] (N0+63)) (by
   intro K k
   simp -dsimp -implicitDefEqProofs
   cases hbg5:ine r2.2.2.2 r3.2.2.2
   ·replace hg5:=ifF hbg5 hg5
    obtain⟨r4,hr4,hg5⟩:=bE hg5
    obtain rfl:=oi hg5
    try simp -dsimp -implicitDefEqProofs [hbg5]
    refine(c26 hr4).app ?_;try simp -dsimp -implicitDefEqProofs [hbg5]
    cases hbg7:(bnot r4)
    ·replace hg7:=ifF hbg7 hg7
     obtain⟨r6,hr6,hg7⟩:=bE hg7
     obtain rfl:=oi hg7
     try simp -dsimp -implicitDefEqProofs [hbg5,hbg7]
     refine(c27 hr6).app ?_;try simp -dsimp -implicitDefEqProofs [hbg5,hbg7]
     cases hbg9:(bnot r6)
     ·replace hg9:=ifF hbg9 hg9
      obtain⟨r8,hr8,hg9⟩:=bE hg9
      obtain rfl:=oi hg9
      try simp -dsimp -implicitDefEqProofs [hbg5,hbg7,hbg9]
      refine(c28 hr8).app ?_;try simp -dsimp -implicitDefEqProofs [hbg5,hbg7,hbg9]
      exact k
     ·obtain rfl:=oi (ifT hbg9 hg9)
      try simp -dsimp -implicitDefEqProofs [hbg5,hbg7,hbg9]
      exact k
    ·obtain rfl:=oi (ifT hbg7 hg7)
     obtain rfl:=oi (ifT rfl hg9)
     try simp -dsimp -implicitDefEqProofs [hbg5,hbg7]
     exact k
   ·obtain rfl:=oi (ifT hbg5 hg5)
    obtain rfl:=oi (ifT rfl hg7)
    obtain rfl:=oi (ifT rfl hg9)
    try simp -dsimp -implicitDefEqProofs [hbg5]
    exact k) ?_
  refine Cd (fun C2=>?_) fun C2=>?_
  ·replace H:=ifT C2 H
   refine S0 tok [] [2] ?_
   obtain rfl:=oi H;exact Wr ⟨_,rfl,4,by simp[eN]⟩
  ·replace H:=ifF C2 H
   refine Wsk (Jn hK2 ?_)
   refine Wsq [3,4,5,6,7,9] fun K3 hK3=>?_
   obtain⟨g11,hg11,H⟩:=bE H
   refine Sx tok [] [3,4,5,6,7,9,74] (X:=[(3,.fsl (eL rQuad r1.1)),(4,.ptr (N0+10) 0 0),(5,.fsl (eL rBox r1.2.2)),(6,.ptr (N0+23) 0 0),(7,.fsl (eL rBox r2.2.1)),(9,.int .i64 r2.2.2.2),(74,.bool g11)]) (Y:=hp E0 [(N0+10,some ⟨26,2,[[.fsl (eL rI r1.2.1.Regs),.int .i64 r1.2.1.Pc]]⟩),(N0+23,some ⟨26,2,[[.fsl (eL rI r2.1.Regs),.int .i64 r2.1.Pc]]⟩),(N0+37,some ⟨26,2,[[.fsl (eL rI r3.1.Regs),.int .i64 r3.1.Pc]]⟩)] (N0+74)) (by
    intro K k
    simp -dsimp -implicitDefEqProofs
    cases hbg11:ieq r2.2.2.2 0
    ·replace hg11:=ifF hbg11 hg11
     obtain⟨v10,hv10,hg11⟩:=bE hg11
     obtain rfl:=oi hg11
     try simp -dsimp -implicitDefEqProofs [hbg11,ix23 hv10]
     exact k
    ·obtain rfl:=oi (ifT hbg11 hg11)
     try simp -dsimp -implicitDefEqProofs [hbg11]
     exact k) ?_
   refine Cd (fun C3=>?_) fun C3=>?_
   ·replace H:=ifT C3 H
    refine S0 tok [] [2] ?_
    obtain rfl:=oi H;exact Wr ⟨_,rfl,4,by simp[eN]⟩
   ·replace H:=ifF C3 H
    refine Wsk (Jn hK3 ?_)
    obtain⟨v12,hv12,H⟩:=bE H
    refine Sx tok [] [4,5,6,7,9,14] (by intro K k;simp -dsimp -implicitDefEqProofs [ix23 hv12];exact k) ?_
    refine S0 tok [] [4,5,6,7,9,14,15] ?_
    obtain⟨j1,hj1,H⟩:=bE H
    refine AWP_seq (AWP_named fun K4 hK4=>?_)
    have hJ1:∀a σ,Rc G 116 N0 (fun a σ=>∃M1:Nat,N0≤M1∧N0+10<M1∧N0+23<M1∧N0+79<M1∧a=[(4,.ptr (N0+10) 0 0),(5,.fsl (eL rBox r1.2.2)),(6,.ptr (N0+23) 0 0),(7,.fsl (eL rBox r2.2.1)),(9,.int .i64 r2.2.2.2),(14,.ptr (N0+79) 0 0),(15,.int .i64 j1)]∧σ=hp E0 [(N0+10,some ⟨26,2,[[.fsl (eL rI r1.2.1.Regs),.int .i64 r1.2.1.Pc]]⟩),(N0+23,some ⟨26,2,[[.fsl (eL rI r2.1.Regs),.int .i64 r2.1.Pc]]⟩),(N0+79,some ⟨36,5,[[.int .i64 v12.Op,.int .i64 v12.Dst,.int .i64 v12.A,.int .i64 v12.B,.int .i64 v12.N]]⟩)] M1) (a.keep [4,5,6,7,9,14,15]) σ→K4 a σ:=by
     rintro a σ ⟨b,τ,hr,M1,fM1_0,fM1_1,fM1_2,fM1_3,rfl,rfl⟩
     refine hK4 _ _ (AWP_keep [4,5,6,7,9,14,15] (Wre hr ?_))
     obtain⟨g15,hg15,H⟩:=bE H
     obtain⟨g16,hg16,H⟩:=bE H
     obtain⟨g18,hg18,H⟩:=bE H
     refine Sx tok [] [2] (X:=[(2,.bool g18)]) (Y:=hp E0 [(N0+10,some ⟨26,2,[[.fsl (eL rI r1.2.1.Regs),.int .i64 r1.2.1.Pc]]⟩),(N0+23,some ⟨26,2,[[.fsl (eL rI r2.1.Regs),.int .i64 r2.1.Pc]]⟩),(N0+79,some ⟨36,5,[[.int .i64 v12.Op,.int .i64 v12.Dst,.int .i64 v12.A,.int .i64 v12.B,.int .i64 v12.N]]⟩)] (M1+26)) (by
      intro K k
      simp -dsimp -implicitDefEqProofs
      cases hbg15:ieq r2.2.2.2 1
      ·obtain rfl:=oi (ifF hbg15 hg15)
       obtain rfl:=oi (ifF rfl hg16)
       obtain rfl:=oi (ifF rfl hg18)
       try simp -dsimp -implicitDefEqProofs [hbg15]
       exact k
      ·replace hg15:=ifT hbg15 hg15
       obtain⟨v14,hv14,hg15⟩:=bE hg15
       obtain rfl:=oi hg15
       try simp -dsimp -implicitDefEqProofs [hbg15,ix24 hv14]
       cases hbg16:(ieq v14 j1)
       ·obtain rfl:=oi (ifF hbg16 hg16)
        obtain rfl:=oi (ifF rfl hg18)
        try simp -dsimp -implicitDefEqProofs [hbg15,ix24 hv14,hbg16]
        exact k
       ·obtain rfl:=oi (ifT hbg16 hg16)
        try simp -dsimp -implicitDefEqProofs [hbg15,ix24 hv14,hbg16]
        cases hbg18:(ieq r2.1.Pc (iadd .i64 r1.2.1.Pc 1))
        ·obtain rfl:=oi (ifF hbg18 hg18)
         try simp -dsimp -implicitDefEqProofs [hbg15,ix24 hv14,hbg16,hbg18]
         exact k
        ·replace hg18:=ifT hbg18 hg18
         obtain⟨r17,hr17,hg18⟩:=bE hg18
         obtain rfl:=oi hg18
         try simp -dsimp -implicitDefEqProofs [hbg15,ix24 hv14,hbg16,hbg18]
         refine(c27 hr17).app ?_;try simp -dsimp -implicitDefEqProofs [hbg15,ix24 hv14,hbg16,hbg18]
         exact k) ?_
     obtain rfl:=oi H;exact Wr ⟨_,rfl,4,by simp[eN]⟩
    replace H:=hj1
    refine S0 tok [] [4,5,6,7,9,14,15,84] ?_
    refine Cd (fun C4=>?_) fun C4=>?_
    ·replace H:=ifT C4 H
     obtain⟨v19,hv19,H⟩:=bE H
     refine Rt tok [] [4,5,6,7,9,14,15] (by intro K k;simp -dsimp -implicitDefEqProofs [ix24 hv19];exact k) fun a ha=>?_
     obtain rfl:=oi H
     refine hJ1 _ _ ?_;rw[ha]
     exact Rc.fin (hp_skip (hp_skip (AHeap.Sub.trans (hp_skip (AHeap.Sub.refl _)) (hp_drop rfl (by simp;try omega))))) ⟨N0+94,(by omega),(by omega),(by omega),(by omega),rfl,rfl⟩
    ·replace H:=ifF C4 H
     refine Wsk ?_
     show K4 _ _
     refine kE [4,5,6,7,9,14,15] fun a' ha=>?_
     obtain rfl:=oi H
     refine hJ1 _ _ ?_;rw[ha]
     exact Rc.fin (hp_skip (hp_skip (AHeap.Sub.trans (hp_skip (AHeap.Sub.refl _)) (hp_drop rfl (by simp;try omega))))) ⟨N0+87,(by omega),(by omega),(by omega),(by omega),rfl,rfl⟩
end Go.Proofs.YtdnkfkfjaaedpaaGreat
