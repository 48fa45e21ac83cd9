/- The contracts of functions of the program, part 2: each computes what its mirror computes. No conditions. -/
import Derived.Test.YtlcilhmkbmgkeaaGreatDoorNZT1
set_option linter.unusedSimpArgs false
set_option linter.unusedVariables false
set_option maxRecDepth 20000
set_option maxHeartbeats 4000000
namespace Go.Proofs.YtlcilhmkbmgkeaaGreatDoor
open Go Go.Abs Go.RowKit

theorem c222 {p0:Int} {p1:(List Int)} {r:Bool} (H:s_l33Any p0 p1=some r):APure Tryz.prog G 222 [.int .i64 p0,.fsl (encL rI p1)] (.bool r):=by
 refine APure_fn (fun N0=>?_) (by simp)
 refine fnK tok Tryz.func222 Tryz.ntmps222 Tryz.results222 ?_
 simp only[argsA,Nat.reduceAdd,hp_next]
 unfold s_l33Any at H
 refine S0 tok [] [0,1] ?_
 obtain⟨r1,hr1,H⟩:=bindE H
 refine Sx tok [] [4] (by intro K k;(repeat first|simp -dsimp -implicitDefEqProofs|refine(c228 hr1).app ?_);exact k) ?_
 obtain rfl:=oi H;exact AWP_ret ⟨_,rfl,4,by simp[encL_nil]⟩
theorem c209 {p0:gQuad} {p1:gFact} {p2:gFact} {r:gQuad} (H:s_l33Bin p0 p1 p2=some r):APure Tryz.prog G 209 [.agg [.int .i64 p0.Op,.int .i64 p0.Dst,.int .i64 p0.A,.int .i64 p0.B,.int .i64 p0.N],.agg [.int .i64 p1.Kind,.int .i64 p1.N],.agg [.int .i64 p2.Kind,.int .i64 p2.N]] (.agg [.int .i64 r.Op,.int .i64 r.Dst,.int .i64 r.A,.int .i64 r.B,.int .i64 r.N]):=by
 refine APure_fn (fun N0=>?_) (by simp)
 refine fnK tok Tryz.func209 Tryz.ntmps209 Tryz.results209 ?_
 simp only[argsA,Nat.reduceAdd,hp_next]
 unfold s_l33Bin at H
 refine S0 tok [0,1,2] [3,4,5,6] ?_
 obtain⟨r1,hr1,H⟩:=bindE H
 refine Sx tok [] [3,4,5,6,7] (by intro K k;(repeat first|simp -dsimp -implicitDefEqProofs|refine(c221 hr1).app ?_);exact k) ?_
 refine AWP_sq [3,6] fun K1 hK1=>?_
 refine AWP_block (AWP_thenB ?_)
 refine S0 tok [] [3,4,5,6,7,12] ?_
 refine Cd (fun C1=>?_) fun C1=>?_
 ·replace H:=ifT C1 H
  refine S0 tok [] [6] ?_
  obtain rfl:=oi H
  refine Kp [6] ?_
  refine AWP_ret ?_
  exact⟨[.agg [.int .i64 1,.int .i64 p0.Dst,.int .i64 0,.int .i64 0,.int .i64 r1.N]],by simp,4,by simp[encL_nil]⟩
 ·replace H:=ifF C1 H
  obtain⟨r2,hr2,H⟩:=bindE H
  obtain⟨g4,hg4,H⟩:=bindE H
  refine Sx tok [5] [3,4,5,6,21] (X:=[(3,.fptr [.int .i64 p0.Op,.int .i64 p0.Dst,.int .i64 p0.A,.int .i64 p0.B,.int .i64 p0.N] 0),(4,.fptr [.int .i64 p1.Kind,.int .i64 p1.N] 0),(5,.fptr [.int .i64 p2.Kind,.int .i64 p2.N] 0),(6,.ptr (N0+3) 0 0),(21,.bool g4)]) (Y:=hp E0 [(N0+3,some ⟨48,5,[[.int .i64 0,.int .i64 0,.int .i64 0,.int .i64 0,.int .i64 0]]⟩),(N0+8,some ⟨212,2,[[.int .i64 r1.Kind,.int .i64 r1.N]]⟩)] (N0+23)) (by
   intro K k
   simp -dsimp -implicitDefEqProofs
   refine(c210 hr2).app ?_;try simp -dsimp -implicitDefEqProofs
   cases hbg4:r2
   ·obtain rfl:=oi (ifF hbg4 hg4)
    try simp -dsimp -implicitDefEqProofs [hbg4]
    exact k
   ·replace hg4:=ifT hbg4 hg4
    obtain⟨r3,hr3,hg4⟩:=bindE hg4
    have q0:∀σ i,buildSliceA T 24 true i 6 [(0,.int .i64 1),(1,.int .i64 2),(2,.int .i64 6),(3,.int .i64 7),(4,.int .i64 8),(5,.int .i64 9)] σ=some (.fsl (encL rI ([1,2,6,7,8,9]:List Int)),σ):=fun _ _=>rfl
    obtain rfl:=oi hg4
    try simp -dsimp -implicitDefEqProofs [hbg4,q0]
    refine(c222 hr3).app ?_;try simp -dsimp -implicitDefEqProofs [hbg4,q0]
    exact k) ?_
  refine Cd (fun C2=>?_) fun C2=>?_
  ·replace H:=ifT C2 H
   refine S0 tok [] [6] ?_
   obtain rfl:=oi H
   refine Kp [6] ?_
   refine AWP_ret ?_
   exact⟨[.agg [.int .i64 2,.int .i64 p0.Dst,.int .i64 p0.A,.int .i64 0,.int .i64 0]],by simp,4,by simp[encL_nil]⟩
  ·replace H:=ifF C2 H
   obtain⟨r5,hr5,H⟩:=bindE H
   obtain⟨g7,hg7,H⟩:=bindE H
   refine Sx tok [5] [3,4,5,6,35] (X:=[(3,.fptr [.int .i64 p0.Op,.int .i64 p0.Dst,.int .i64 p0.A,.int .i64 p0.B,.int .i64 p0.N] 0),(4,.fptr [.int .i64 p1.Kind,.int .i64 p1.N] 0),(5,.fptr [.int .i64 p2.Kind,.int .i64 p2.N] 0),(6,.ptr (N0+3) 0 0),(35,.bool g7)]) (Y:=hp E0 [(N0+3,some ⟨48,5,[[.int .i64 0,.int .i64 0,.int .i64 0,.int .i64 0,.int .i64 0]]⟩),(N0+8,some ⟨212,2,[[.int .i64 r1.Kind,.int .i64 r1.N]]⟩)] (N0+32)) (by
    intro K k
    simp -dsimp -implicitDefEqProofs
    refine(c210 hr5).app ?_;try simp -dsimp -implicitDefEqProofs
    cases hbg7:r5
    ·obtain rfl:=oi (ifF hbg7 hg7)
     try simp -dsimp -implicitDefEqProofs [hbg7]
     exact k
    ·replace hg7:=ifT hbg7 hg7
     obtain⟨r6,hr6,hg7⟩:=bindE hg7
     have q1:∀σ i,buildSliceA T 24 true i 2 [(0,.int .i64 10),(1,.int .i64 11)] σ=some (.fsl (encL rI ([10,11]:List Int)),σ):=fun _ _=>rfl
     obtain rfl:=oi hg7
     try simp -dsimp -implicitDefEqProofs [hbg7,q1]
     refine(c222 hr6).app ?_;try simp -dsimp -implicitDefEqProofs [hbg7,q1]
     exact k) ?_
   refine Cd (fun C3=>?_) fun C3=>?_
   ·replace H:=ifT C3 H
    refine S0 tok [] [6] ?_
    obtain rfl:=oi H
    refine Kp [6] ?_
    refine AWP_ret ?_
    exact⟨[.agg [.int .i64 2,.int .i64 p0.Dst,.int .i64 p0.A,.int .i64 0,.int .i64 0]],by simp,4,by simp[encL_nil]⟩
   ·replace H:=ifF C3 H
    obtain⟨r8,hr8,H⟩:=bindE H
    obtain⟨g10,hg10,H⟩:=bindE H
    refine Sx tok [5] [3,4,5,6,49] (X:=[(3,.fptr [.int .i64 p0.Op,.int .i64 p0.Dst,.int .i64 p0.A,.int .i64 p0.B,.int .i64 p0.N] 0),(4,.fptr [.int .i64 p1.Kind,.int .i64 p1.N] 0),(5,.fptr [.int .i64 p2.Kind,.int .i64 p2.N] 0),(6,.ptr (N0+3) 0 0),(49,.bool g10)]) (Y:=hp E0 [(N0+3,some ⟨48,5,[[.int .i64 0,.int .i64 0,.int .i64 0,.int .i64 0,.int .i64 0]]⟩),(N0+8,some ⟨212,2,[[.int .i64 r1.Kind,.int .i64 r1.N]]⟩)] (N0+41)) (by
     intro K k
     simp -dsimp -implicitDefEqProofs
     refine(c210 hr8).app ?_;try simp -dsimp -implicitDefEqProofs
     cases hbg10:r8
     ·obtain rfl:=oi (ifF hbg10 hg10)
      try simp -dsimp -implicitDefEqProofs [hbg10]
      exact k
     ·replace hg10:=ifT hbg10 hg10
      obtain⟨r9,hr9,hg10⟩:=bindE hg10
      have q2:∀σ i,buildSliceA T 24 true i 3 [(0,.int .i64 1),(1,.int .i64 2),(2,.int .i64 8)] σ=some (.fsl (encL rI ([1,2,8]:List Int)),σ):=fun _ _=>rfl
      obtain rfl:=oi hg10
      try simp -dsimp -implicitDefEqProofs [hbg10,q2]
      refine(c222 hr9).app ?_;try simp -dsimp -implicitDefEqProofs [hbg10,q2]
      exact k) ?_
    refine Cd (fun C4=>?_) fun C4=>?_
    ·replace H:=ifT C4 H
     refine S0 tok [] [6] ?_
     obtain rfl:=oi H
     refine Kp [6] ?_
     refine AWP_ret ?_
     exact⟨[.agg [.int .i64 2,.int .i64 p0.Dst,.int .i64 p0.B,.int .i64 0,.int .i64 0]],by simp,4,by simp[encL_nil]⟩
    ·replace H:=ifF C4 H
     obtain⟨r11,hr11,H⟩:=bindE H
     obtain⟨g12,hg12,H⟩:=bindE H
     refine Sx tok [] [3,4,5,6,63] (X:=[(3,.fptr [.int .i64 p0.Op,.int .i64 p0.Dst,.int .i64 p0.A,.int .i64 p0.B,.int .i64 p0.N] 0),(4,.fptr [.int .i64 p1.Kind,.int .i64 p1.N] 0),(5,.fptr [.int .i64 p2.Kind,.int .i64 p2.N] 0),(6,.ptr (N0+3) 0 0),(63,.bool g12)]) (Y:=hp E0 [(N0+3,some ⟨48,5,[[.int .i64 0,.int .i64 0,.int .i64 0,.int .i64 0,.int .i64 0]]⟩),(N0+8,some ⟨212,2,[[.int .i64 r1.Kind,.int .i64 r1.N]]⟩)] (N0+49)) (by
      intro K k
      simp -dsimp -implicitDefEqProofs
      refine(c210 hr11).app ?_;try simp -dsimp -implicitDefEqProofs
      cases hbg12:r11
      ·obtain rfl:=oi (ifF hbg12 hg12)
       try simp -dsimp -implicitDefEqProofs [hbg12]
       exact k
      ·obtain rfl:=oi (ifT hbg12 hg12)
       try simp -dsimp -implicitDefEqProofs [hbg12]
       exact k) ?_
     refine Cd (fun C5=>?_) fun C5=>?_
     ·replace H:=ifT C5 H
      refine S0 tok [] [6] ?_
      obtain rfl:=oi H
      refine Kp [6] ?_
      refine AWP_ret ?_
      exact⟨[.agg [.int .i64 2,.int .i64 p0.Dst,.int .i64 p0.B,.int .i64 0,.int .i64 0]],by simp,4,by simp[encL_nil]⟩
     ·replace H:=ifF C5 H
      obtain⟨g13,hg13,H⟩:=bindE H
      obtain⟨g15,hg15,H⟩:=bindE H
      refine Sx tok [9] [3,6,76] (X:=[(3,.fptr [.int .i64 p0.Op,.int .i64 p0.Dst,.int .i64 p0.A,.int .i64 p0.B,.int .i64 p0.N] 0),(6,.ptr (N0+3) 0 0),(76,.bool g15)]) (Y:=hp E0 [(N0+3,some ⟨48,5,[[.int .i64 0,.int .i64 0,.int .i64 0,.int .i64 0,.int .i64 0]]⟩),(N0+8,some ⟨212,2,[[.int .i64 r1.Kind,.int .i64 r1.N]]⟩)] (N0+62)) (by
       intro K k
       simp -dsimp -implicitDefEqProofs
       refine(c210 hr8).app ?_;try simp -dsimp -implicitDefEqProofs
       cases hbg13:r8
       ·obtain rfl:=oi (ifF hbg13 hg13)
        try simp -dsimp -implicitDefEqProofs [hbg13]
        refine(c210 hr2).app ?_;try simp -dsimp -implicitDefEqProofs [hbg13]
        cases hbg15:r2
        ·obtain rfl:=oi (ifF hbg15 hg15)
         try simp -dsimp -implicitDefEqProofs [hbg13,hbg15]
         exact k
        ·replace hg15:=ifT hbg15 hg15
         obtain⟨r14,hr14,hg15⟩:=bindE hg15
         have q3:∀σ i,buildSliceA T 24 true i 2 [(0,.int .i64 3),(1,.int .i64 10)] σ=some (.fsl (encL rI ([3,10]:List Int)),σ):=fun _ _=>rfl
         obtain rfl:=oi hg15
         try simp -dsimp -implicitDefEqProofs [hbg13,hbg15,q3]
         refine(c222 hr14).app ?_;try simp -dsimp -implicitDefEqProofs [hbg13,hbg15,q3]
         exact k
       ·obtain rfl:=oi (ifT hbg13 hg13)
        try simp -dsimp -implicitDefEqProofs [hbg13]
        replace hg15:=ifT rfl hg15
        obtain⟨r14,hr14,hg15⟩:=bindE hg15
        have q3:∀σ i,buildSliceA T 24 true i 2 [(0,.int .i64 3),(1,.int .i64 10)] σ=some (.fsl (encL rI ([3,10]:List Int)),σ):=fun _ _=>rfl
        obtain rfl:=oi hg15
        try simp -dsimp -implicitDefEqProofs [hbg13,q3]
        refine(c222 hr14).app ?_;try simp -dsimp -implicitDefEqProofs [hbg13,q3]
        exact k) ?_
      refine Cd (fun C6=>?_) fun C6=>?_
      ·replace H:=ifT C6 H
       refine S0 tok [] [6] ?_
       obtain rfl:=oi H
       refine Kp [6] ?_
       refine AWP_ret ?_
       exact⟨[.agg [.int .i64 1,.int .i64 p0.Dst,.int .i64 0,.int .i64 0,.int .i64 0]],by simp,4,by simp[encL_nil]⟩
      ·replace H:=ifF C6 H
       refine AWP_skip (Jn hK1 ?_)
       refine S0 tok [] [6] ?_
       obtain rfl:=oi H
       refine Kp [6] ?_
       refine AWP_ret ?_
       exact⟨[.agg [.int .i64 p0.Op,.int .i64 p0.Dst,.int .i64 p0.A,.int .i64 p0.B,.int .i64 p0.N]],by simp,4,by simp[encL_nil]⟩
theorem c191 {p0:gQuad} {p1:(List gFact)} {p2:Int} {r:gQuad} (H:s_l33Fold p0 p1 p2=some r):APure Tryz.prog G 191 [.agg [.int .i64 p0.Op,.int .i64 p0.Dst,.int .i64 p0.A,.int .i64 p0.B,.int .i64 p0.N],.fsl (encL rFact p1),.int .i64 p2] (.agg [.int .i64 r.Op,.int .i64 r.Dst,.int .i64 r.A,.int .i64 r.B,.int .i64 r.N]):=by
 refine APure_fn (fun N0=>?_) (by simp)
 refine fnK tok Tryz.func191 Tryz.ntmps191 Tryz.results191 ?_
 simp only[argsA,Nat.reduceAdd,hp_next]
 unfold s_l33Fold at H
 refine S0 tok [0] [1,2,3,6] ?_
 refine AWP_sq [1,2,3,6] fun K1 hK1=>?_
 obtain⟨v1,hv1,H⟩:=bindE H
 refine Sx tok [] [1,2,3,6,11] (by intro K k;simp -dsimp -implicitDefEqProofs [ix193 hv1];exact k) ?_
 refine Cd (fun C1=>?_) fun C1=>?_
 ·replace H:=ifT C1 H
  refine S0 tok [] [6] ?_
  obtain rfl:=oi H
  refine Kp [6] ?_
  refine AWP_ret ?_
  exact⟨[.agg [.int .i64 p0.Op,.int .i64 p0.Dst,.int .i64 p0.A,.int .i64 p0.B,.int .i64 p0.N]],by simp,4,by simp[encL_nil]⟩
 ·replace H:=ifF C1 H
  refine AWP_skip (Jn hK1 ?_)
  refine AWP_sq [3,6] fun K2 hK2=>?_
  refine S0 tok [] [1,2,3,6,14] ?_
  refine AWP_block (AWP_thenB ?_)
  refine S0 tok [] [1,2,3,6,14,15] ?_
  refine Cd (fun C2=>?_) fun C2=>?_
  ·replace H:=ifT C2 H
   obtain⟨v2,hv2,H⟩:=bindE H
   refine Sx tok [] [1,3,6,23] (by intro K k;simp -dsimp -implicitDefEqProofs [ix193 hv2];exact k) ?_
   refine Cd (fun C3=>?_) fun C3=>?_
   ·replace H:=ifT C3 H
    refine Sd tok tokM [] [9] [0,1,2,3,4,5,6,7,8,9] [6] (by
     intro K k
     simp only[pickL,nthO_succ,nthO_zero]
     simp -dsimp -implicitDefEqProofs [ix193 hv2]
     exact k) ?_
    obtain rfl:=oi H
    refine Kp [6] ?_
    refine AWP_ret ?_
    exact⟨[.agg [.int .i64 1,.int .i64 p0.Dst,.int .i64 0,.int .i64 0,.int .i64 v2.N]],by simp,4,by simp[encL_nil]⟩
   ·replace H:=ifF C3 H
    refine AWP_skip (Jn hK2 ?_)
    refine S0 tok [] [6] ?_
    obtain rfl:=oi H
    refine Kp [6] ?_
    refine AWP_ret ?_
    exact⟨[.agg [.int .i64 p0.Op,.int .i64 p0.Dst,.int .i64 p0.A,.int .i64 p0.B,.int .i64 p0.N]],by simp,4,by simp[encL_nil]⟩
  ·replace H:=ifF C2 H
   refine S0 tok [] [1,2,3,6,14,33] ?_
   refine Cd (fun C4=>?_) fun C4=>?_
   ·replace H:=ifT C4 H
    obtain⟨v3,hv3,H⟩:=bindE H
    obtain⟨v4,hv4,H⟩:=bindE H
    obtain⟨r5,hr5,H⟩:=bindE H
    refine Sd tok tokM [] [12] [0,1,2,3,4,5,6,7,8,9,10,11,12] [6] (by
     intro K k
     simp only[pickL,nthO_succ,nthO_zero]
     repeat first|simp -dsimp -implicitDefEqProofs [ix193 hv3,ix193 hv4]|refine Pc.mk (c209 hr5) ?_
     exact k) ?_
    obtain rfl:=oi H
    refine Kp [6] ?_
    refine AWP_ret ?_
    exact⟨[.agg [.int .i64 r5.Op,.int .i64 r5.Dst,.int .i64 r5.A,.int .i64 r5.B,.int .i64 r5.N]],by simp,4,by simp[encL_nil]⟩
   ·replace H:=ifF C4 H
    refine S0 tok [] [1,2,3,6,47] ?_
    refine Cd (fun C5=>?_) fun C5=>?_
    ·replace H:=ifT C5 H
     refine AWP_sq [1,2,3,6] fun K3 hK3=>?_
     obtain⟨v6,hv6,H⟩:=bindE H
     obtain⟨r7,hr7,H⟩:=bindE H
     refine Sx tok [] [1,2,3,6,54] (by intro K k;(repeat first|simp -dsimp -implicitDefEqProofs [ix193 hv6]|refine(c210 hr7).app ?_);exact k) ?_
     refine Cd (fun C6=>?_) fun C6=>?_
     ·replace H:=ifT C6 H
      refine S0 tok [] [6] ?_
      obtain rfl:=oi H
      refine Kp [6] ?_
      refine AWP_ret ?_
      exact⟨[.agg [.int .i64 4,.int .i64 0,.int .i64 0,.int .i64 0,.int .i64 p0.N]],by simp,4,by simp[encL_nil]⟩
     ·replace H:=ifF C6 H
      refine AWP_skip (Jn hK3 ?_)
      refine Sx tok [] [2,3,6,64] (by intro K k;simp -dsimp -implicitDefEqProofs [ix193 hv6];exact k) ?_
      refine Cd (fun C7=>?_) fun C7=>?_
      ·replace H:=ifT C7 H
       refine S0 tok [] [6] ?_
       obtain rfl:=oi H
       refine Kp [6] ?_
       refine AWP_ret ?_
       exact⟨[.agg [.int .i64 4,.int .i64 0,.int .i64 0,.int .i64 0,.int .i64 (iadd .i64 p2 1)]],by simp,4,by simp[encL_nil]⟩
      ·replace H:=ifF C7 H
       refine AWP_skip (Jn hK2 ?_)
       refine S0 tok [] [6] ?_
       obtain rfl:=oi H
       refine Kp [6] ?_
       refine AWP_ret ?_
       exact⟨[.agg [.int .i64 p0.Op,.int .i64 p0.Dst,.int .i64 p0.A,.int .i64 p0.B,.int .i64 p0.N]],by simp,4,by simp[encL_nil]⟩
    ·replace H:=ifF C5 H
     refine AWP_skip (Jn hK2 ?_)
     refine S0 tok [] [6] ?_
     obtain rfl:=oi H
     refine Kp [6] ?_
     refine AWP_ret ?_
     exact⟨[.agg [.int .i64 p0.Op,.int .i64 p0.Dst,.int .i64 p0.A,.int .i64 p0.B,.int .i64 p0.N]],by simp,4,by simp[encL_nil]⟩
theorem c176 {p0:(List gQuad)} {r:(List gQuad)×Bool} (H:s_FoldCode p0=some r):APure Tryz.prog G 176 [.fsl (encL rQuad p0)] (.tup [.fsl (encL rQuad r.1),.bool r.2]):=by
 refine APure_fn (fun N0=>?_) (by simp)
 refine fnK tok Tryz.func176 Tryz.ntmps176 Tryz.results176 ?_
 simp only[argsA,Nat.reduceAdd,hp_next]
 unfold s_FoldCode at H
 refine S0 tok [] [0] ?_
 have q0:∀σ i,buildSliceA T 39 true i 0 [] σ=some (.esl,σ):=fun _ _=>rfl
 refine Sx tok [0] [0,4] (by intro K k;simp -dsimp -implicitDefEqProofs [q0];exact k) ?_
 refine AWP_sq [0,4] fun K1 hK1=>?_
 obtain⟨r1,hr1,H⟩:=bindE H
 refine Sx tok [] [0,4,10] (by intro K k;(repeat first|simp -dsimp -implicitDefEqProofs|refine(c47 hr1).app ?_);exact k) ?_
 refine Cd (fun C1=>?_) fun C1=>?_
 ·replace H:=ifT C1 H
  refine S0 tok [] [2,3] ?_
  obtain rfl:=oi H;exact AWP_ret ⟨_,rfl,4,by simp[encL_nil]⟩
 ·replace H:=ifF C1 H
  refine AWP_skip (Jn hK1 ?_)
  obtain⟨r2,hr2,H⟩:=bindE H
  refine Sx tok [] [0,4,5] (by intro K k;(repeat first|simp -dsimp -implicitDefEqProofs|refine(c190 hr2).app ?_);exact k) ?_
  refine AWP_sq [4] fun K2 hK2=>?_
  refine S0 tok [] [0,4,5,6] ?_
  refine AWP_block (AWP_thenB ?_)
  obtain⟨e1,hse1,H⟩:=bindE H
  refine AWP_lp [0,4,5,6] (fun s a σ=>∃M1 o1:Nat,N0≤M1∧N0≤o1∧o1<M1∧a=[(0,.fsl (encL rQuad p0)),(4,.sl o1 0 s.2.length),(5,.fsl (encL rL_Fact r2)),(6,.int .i64 s.1)]∧σ=hp E0 [(o1,some ⟨48,5,encL rQuad s.2⟩)] M1) (fun s x a σ=>x=.exit 0∧Rc G 34 N0 (fun a σ=>∃M2 o2:Nat,N0≤M2∧N0≤o2∧o2<M2∧a=[(4,.sl o2 0 s.length)]∧σ=hp E0 [(o2,some ⟨48,5,encL rQuad s⟩)] M2) (AAct.keep a [4]) σ) hse1 ?_ ?_ ?_
  ·refine Rc.kp [0,4,5,6] [(0,.fsl (encL rQuad p0)),(4,.esl),(5,.fsl (encL rL_Fact r2)),(6,.int .i64 0)] rfl ?_
   refine gNilS Rc_ref 4 48 5 [(N0+11,some ⟨48,5,encL rQuad ([]:List gQuad)⟩)] [(0,.fsl (encL rQuad p0)),(4,.sl (N0+11) 0 ([]:List gQuad).length),(5,.fsl (encL rL_Fact r2)),(6,.int .i64 0)] (by simp(disch:=omega)) (by simp(disch:=omega) [encL_nil]) [0,4,5,6] rfl ?_
   exact Rf ⟨N0+12,(N0+11),(by omega),(by omega),(by omega),rfl,rfl⟩
  ·clear H hse1
   rintro⟨s3,s4⟩ fl a σ H ⟨M1,o1,fM1_0,fM1_1,fM1_2,rfl,rfl⟩ K3 O3 hK3 hO3
   unfold s_FoldCode_L1 at H;dsimp only at H
   refine AWP_sq [0,4,5,6] fun K4 hK4=>?_
   refine S0 tok [] [0,4,5,6,17] ?_
   refine Cd (fun C2=>?_) fun C2=>?_
   ·replace H:=ifT C2 H
    refine AWP_skip (Jn hK4 ?_)
    refine AWP_sq [0,4,5,6] fun K5 hK5=>?_
    refine AWP_block (AWP_thenB ?_)
    obtain⟨v6,hv6,H⟩:=bindE H
    obtain⟨v7,hv7,H⟩:=bindE H
    obtain⟨r8,hr8,H⟩:=bindE H
    obtain⟨l9,hl9,H⟩:=bindE H
    have q1:∀σ i,buildSliceA T 39 true i 1 [(0,.agg [.int .i64 r8.Op,.int .i64 r8.Dst,.int .i64 r8.A,.int .i64 r8.B,.int .i64 r8.N])] σ=some (.fsl (encL rQuad ([r8]:List gQuad)),σ):=fun _ _=>rfl
    refine AWP_rd tok tokM [11] [12] [0,1,2,3,4,5,6,7,8,9,10,11,12,13] [0,4,5,6] (fun a σ=>a=[(0,.fsl (encL rQuad p0)),(4,.sl (M1+16) 0 l9.length),(5,.fsl (encL rL_Fact r2)),(6,.int .i64 s3)]∧σ=hp E0 [(M1+16,some ⟨48,5,encL rQuad l9⟩)] (M1+18)) (by decide) (fun K hK=>?_) ?_
    ·simp only[pickL,nthO_succ,nthO_zero]
     have e0:=nQ o1 (M1+16)
     simp -dsimp -implicitDefEqProofs [e0,ix39 hv6,ix190 hv7,q1,app39 hl9]
     refine Pc.mk (c191 hr8) ?_;try simp -dsimp -implicitDefEqProofs [e0,ix39 hv6,ix190 hv7,q1,app39 hl9]
     exact hK _ _ ⟨rfl,rfl⟩
    rintro a σ ⟨ha,rfl⟩
    refine hK5 _ _ ?_;rw[ha]
    refine Rc.mk ?_
    refine Rt0 tok [] [0,4,5,6] fun a ha=>?_
    obtain rfl:=oi H
    refine hK3 _ _ _ rfl ?_;rw[ha]
    exact Rf ⟨M1+21,(M1+16),(by omega),(by omega),(by omega),rfl,rfl⟩
   ·obtain rfl:=oi (ifF C2 H)
    refine AWP_exit (hO3 _ _ _ _ rfl ⟨rfl,?_⟩)
    refine Rc.rw (l:=[4]) (X:=[(4,.sl o1 0 s4.length)]) rfl ?_
    exact Rf ⟨M1+4,o1,(by omega),(by omega),(by omega),rfl,rfl⟩
  ·intro x a σ hx
   obtain⟨y5,rfl⟩:∃x,x=e1:=⟨_,rfl⟩
   obtain⟨rfl,b,τ,hr,M2,o2,fM2_0,fM2_1,fM2_2,rfl,rfl⟩:=hx
   (try dsimp only at H)
   show K2 _ _
   refine hK2 _ _ (Rc_ref hr ?_)
   refine Rc.mk ?_
   refine S0 tok [] [2,3] ?_
   obtain rfl:=oi H;exact AWP_ret ⟨_,rfl,4,by simp[encL_nil]⟩
theorem c229 {p0:gQuad} {r:Int} (H:s_QuadSets p0=some r):APure Tryz.prog G 229 [.agg [.int .i64 p0.Op,.int .i64 p0.Dst,.int .i64 p0.A,.int .i64 p0.B,.int .i64 p0.N]] (.int .i64 r):=by
 refine APure_fn (fun N0=>?_) (by simp)
 refine fnK tok Tryz.func229 Tryz.ntmps229 Tryz.results229 ?_
 simp only[argsA,Nat.reduceAdd,hp_next]
 unfold s_QuadSets at H
 refine S0 tok [0] [1] ?_
 refine AWP_sq [1] fun K1 hK1=>?_
 obtain⟨r1,hr1,H⟩:=bindE H
 refine Sx tok [] [1,5] (by intro K k;(repeat first|simp -dsimp -implicitDefEqProofs|refine(c94 hr1).app ?_);exact k) ?_
 refine Cd (fun C1=>?_) fun C1=>?_
 ·replace H:=ifT C1 H
  refine S0 tok [] [2] ?_
  obtain rfl:=oi H;exact AWP_ret ⟨_,rfl,4,by simp[encL_nil]⟩
 ·replace H:=ifF C1 H
  refine AWP_skip (Jn hK1 ?_)
  refine AWP_sq [] fun K2 hK2=>?_
  refine S0 tok [] [1,7] ?_
  refine AWP_block (AWP_thenB ?_)
  obtain⟨j1,hj1,H⟩:=bindE H
  refine AWP_seq (AWP_named fun K3 hK3=>?_)
  have hJ1:∀a σ,Rc G 15 N0 (fun a σ=>∃M1:Nat,N0≤M1∧a=[(1,.fptr [.int .i64 p0.Op,.int .i64 p0.Dst,.int .i64 p0.A,.int .i64 p0.B,.int .i64 p0.N] 0),(8,.bool j1)]∧σ=hp E0 [] M1) (a.keep [1,8]) σ→K3 a σ:=by
   rintro a σ ⟨b,τ,hr,M1,fM1_0,rfl,rfl⟩
   refine hK3 _ _ (AWP_keep [1,8] (AWP_ref hr ?_))
   refine Cd (fun C2=>?_) fun C2=>?_
   ·replace H:=ifT C2 H
    refine S0 tok [] [2] ?_
    obtain rfl:=oi H;exact AWP_ret ⟨_,rfl,4,by simp[encL_nil]⟩
   ·replace H:=ifF C2 H
    refine AWP_skip (Jn hK2 ?_)
    refine S0 tok [] [2] ?_
    obtain rfl:=oi H;exact AWP_ret ⟨_,rfl,4,by simp[encL_nil]⟩
  replace H:=hj1
  refine S0 tok [] [1,7,8] ?_
  refine Cd (fun C3=>?_) fun C3=>?_
  ·replace H:=ifT C3 H
   refine AWP_skip ?_
   show K3 _ _
   refine kE [1,8] fun a' ha=>?_
   obtain rfl:=oi H
   refine hJ1 _ _ ?_;rw[ha]
   exact Rf ⟨N0+9,(by omega),rfl,rfl⟩
  ·replace H:=ifF C3 H
   refine S0 tok [] [1,7,8] ?_
   refine Cd (fun C4=>?_) fun C4=>?_
   ·replace H:=ifT C4 H
    refine AWP_skip ?_
    show K3 _ _
    refine kE [1,8] fun a' ha=>?_
    obtain rfl:=oi H
    refine hJ1 _ _ ?_;rw[ha]
    exact Rf ⟨N0+11,(by omega),rfl,rfl⟩
   ·replace H:=ifF C4 H
    refine S0 tok [] [1,7,8] ?_
    refine Cd (fun C5=>?_) fun C5=>?_
    ·replace H:=ifT C5 H
     refine AWP_skip ?_
     show K3 _ _
     refine kE [1,8] fun a' ha=>?_
     obtain rfl:=oi H
     refine hJ1 _ _ ?_;rw[ha]
     exact Rf ⟨N0+13,(by omega),rfl,rfl⟩
    ·replace H:=ifF C5 H
     refine Rt0 tok [] [1,8] fun a ha=>?_
     obtain rfl:=oi H
     refine hJ1 _ _ ?_;rw[ha]
     exact Rf ⟨N0+15,(by omega),rfl,rfl⟩
theorem c224 {p0:(List (List Int))} {p1:Int} {p2:(List Int)} {r:Bool×(List (List Int))} (H:s_l34Carry p0 p1 p2=some r) {σ:AHeap} {w0:Nat} (q0:σ.objs w0=some ⟨24,1,encL rL_I_o p0⟩):ACalls Tryz.prog G 224 [.sl w0 0 p0.length,.int .i64 p1,.fsl (encL rI p2)] σ (fun v σ'=>∃M:Nat,σ.next≤M∧r.2.length=p0.length∧v=.bool r.1∧σ'=hp σ.objs [(w0,some ⟨24,1,encL rL_I_o r.2⟩)] M):=by
 refine ACalls_fr (L:=[(w0,some ⟨24,1,encL rL_I_o p0⟩)]) (Q1:=fun v σ'=>∃M:Nat,σ.next≤M∧r.2.length=p0.length∧v=.bool r.1∧σ'=hp E0 [(w0,some ⟨24,1,encL rL_I_o r.2⟩)] M) (by simp[q0]) (fun hlt=>?_) ?_ ⟨_,Tryz.func224,rfl,rfl⟩
 rotate_left
 ·rintro v σ1 ⟨M,h0,h1,rfl,rfl⟩
  exact⟨_,M,rfl,by simp,by simp;try omega,M,h0,h1,rfl,rfl⟩
 generalize σ.next=N0 at hlt ⊢
 have lw0:w0<N0:=hlt _ (.head _) rfl
 refine fnK tok Tryz.func224 Tryz.ntmps224 Tryz.results224 ?_
 simp only[argsA,Nat.reduceAdd,hp_next]
 unfold s_l34Carry at H
 refine S0 tok [] [0,1,2] ?_
 refine AWP_sq [0,1,2] fun K1 hK1=>?_
 obtain⟨v1,hv1,H⟩:=bindE H
 refine gU AWP_ref w0 p1.toNat 0 ?_ (hr:=by exact encL_at rL_I_o hv1)
 refine Sx tok [] [0,1,2,14] (by
  intro K k
  have e0:=nQ w0 (N0+1)
  simp -dsimp -implicitDefEqProofs [e0,(gset hv1 _),List.set_set,ixo194 hv1,(idx_lt3 hv1).2.2]
  exact k) ?_
 refine Cd (fun C1=>?_) fun C1=>?_
 ·replace H:=ifT C1 H
  obtain⟨l2,hl2,H⟩:=bindE H
  have q0:∀σ i,buildSliceA T 24 true i 0 [] σ=some (.esl,σ):=fun _ _=>rfl
  refine Sx tok [2] [] (by
   intro K k
   have e0:=nQ w0 (N0+1)
   have e1:=nQ w0 (N0+12)
   simp -dsimp -implicitDefEqProofs [e0,e1,(gset hv1 _),List.set_set,q0,appe24 hl2,ixo194 hv1,(idx_lt3 hv1).2.2]
   exact k) ?_
  refine Sx tok [] [6] (by
   intro K k
   have e0:=nQ w0 (N0+1)
   have e1:=nQ w0 (N0+12)
   simp -dsimp -implicitDefEqProofs [e0,e1,(gset hv1 _),List.set_set]
   exact k) ?_
  obtain⟨l3,hl3,H⟩:=bindE H
  obtain rfl:=oi H
  refine Kp [6] ?_
  refine gP AWP_ref w0 p1.toNat 0 ?_ (hr:=by exact gset hv1 _)
  rw[show hp E0 [(w0,some ⟨24,1,(encL rL_I_o p0).set p1.toNat [.osl 3 1 (encL rI l2)]⟩),(N0+1,some ⟨3,1,encL rI v1⟩)] (N0+16)=hp E0 [(w0,some ⟨24,1,encL rL_I_o l3⟩),(N0+1,some ⟨3,1,encL rI v1⟩)] (N0+16) from by rw[(setx_iff.1 hl3).2,← encL_set];rfl];(try rw[← setx_len hl3])
  have z0:=nQ w0 (N0+1)
  refine gDrop AWP_ref [(w0,some ⟨24,1,encL rL_I_o l3⟩)] (hp_skip (AHeap.Sub.trans (AHeap.Sub.refl _) (hp_drop rfl (by simp;try omega)))) ?_
  refine AWP_ret ?_
  refine⟨[.bool true],by simp[z0],N0+16,by omega,by first|rfl|exact(setx_len hl3)|omega,?_,?_⟩
  ·simp[encL_nil]
  ·first|rfl|simp[List.set_set]
 ·replace H:=ifF C1 H
  refine AWP_skip (Jn hK1 ?_)
  refine Sx tok [] [0,1,2,7] (by
   intro K k
   have e0:=nQ w0 (N0+1)
   simp -dsimp -implicitDefEqProofs [e0,(gset hv1 _),List.set_set]
   exact k) ?_
  refine AWP_sq [7] fun K2 hK2=>?_
  refine Sx tok [] [0,1,2,7,8] (by
   intro K k
   have e0:=nQ w0 (N0+1)
   simp -dsimp -implicitDefEqProofs [e0,(gset hv1 _),List.set_set]
   exact k) ?_
  refine AWP_block (AWP_thenB ?_)
  obtain⟨l4,hl4,H⟩:=bindE H
  obtain⟨e1,hse1,H⟩:=bindE H
  refine AWP_lp [0,1,2,7,8] (fun s a σ=>∃M1:Nat,N0≤M1∧s.2.2.length=p0.length∧a=[(0,.sl w0 0 s.2.2.length),(1,.int .i64 p1),(2,.fsl (encL rI p2)),(7,.bool s.1),(8,.int .i64 s.2.1)]∧σ=hp E0 [(w0,some ⟨24,1,encL rL_I_o s.2.2⟩)] M1) (fun s x a σ=>x=.exit 0∧Rc G 56 N0 (fun a σ=>∃M2:Nat,N0≤M2∧s.2.length=p0.length∧a=[(7,.bool s.1)]∧σ=hp E0 [(w0,some ⟨24,1,encL rL_I_o s.2⟩)] M2) (AAct.keep a [7]) σ) hse1 ?_ ?_ ?_
  ·refine Rc.kp [0,1,2,7,8] [(0,.sl w0 0 p0.length),(1,.int .i64 p1),(2,.fsl (encL rI p2)),(7,.bool false),(8,.int .i64 0)] rfl ?_
   refine gP Rc_ref w0 p1.toNat 0 ?_ (hr:=by exact gset hv1 _)
   rw[show hp E0 [(w0,some ⟨24,1,(encL rL_I_o p0).set p1.toNat [.osl 3 1 (encL rI v1)]⟩)] (N0+10)=hp E0 [(w0,some ⟨24,1,encL rL_I_o l4⟩)] (N0+10) from by rw[(setx_iff.1 hl4).2,← encL_set];rfl];(try rw[← setx_len hl4])
   exact Rf ⟨N0+10,(by omega),(by first|rfl|exact(setx_len hl4)|omega),rfl,rfl⟩
  ·clear H hse1
   rintro⟨s5,s6,s7⟩ fl a σ H ⟨M1,fM1_0,fM1_1,rfl,rfl⟩ K3 O3 hK3 hO3
   unfold s_l34Carry_L1 at H;dsimp only at H
   refine AWP_sq [0,1,2,7,8] fun K4 hK4=>?_
   refine S0 tok [] [0,1,2,7,8,22] ?_
   refine Cd (fun C2=>?_) fun C2=>?_
   ·replace H:=ifT C2 H
    refine AWP_skip (Jn hK4 ?_)
    refine AWP_sq [0,1,2,7,8] fun K5 hK5=>?_
    refine AWP_block (AWP_thenB ?_)
    obtain⟨v10,hv10,H⟩:=bindE H
    refine gU AWP_ref w0 p1.toNat 0 ?_ (hr:=by exact encL_at rL_I_o hv10)
    obtain⟨v11,hv11,H⟩:=bindE H
    obtain⟨g13,hg13,H⟩:=bindE H
    refine AWP_sd tok tokM [] [2,3,5,6,12,13,15,16] [0,1,4,7,2,3,5,6,8,9,10,11,14,17,18,19,20,12,13,15,16,21,22] [0,1,2,7,8,47] (fun a σ=>a=[(0,.sl w0 0 s7.length),(1,.int .i64 p1),(2,.fsl (encL rI p2)),(7,.bool s5),(8,.int .i64 s6),(47,.bool g13)]∧σ=hp E0 [(w0,some ⟨24,1,(encL rL_I_o s7).set p1.toNat [.sl (M1+2) 0 v10.length]⟩),(M1+2,some ⟨3,1,encL rI v10⟩)] (M1+26)) (by decide) (fun K hK=>?_) ?_
    ·simp only[pickL,nthO_succ,nthO_zero]
     have e0:=nQ w0 (M1+2)
     simp -dsimp -implicitDefEqProofs [e0,(gset hv10 _),List.set_set,ixo194 hv10,(idx_lt3 hv10).2.2,ixo24 hv11,(idx_lt3 hv11).2.2]
     cases hbg13:ine v11 s6
     ·obtain rfl:=oi (ifF hbg13 hg13)
      try simp -dsimp -implicitDefEqProofs [e0,(gset hv10 _),List.set_set,ixo194 hv10,(idx_lt3 hv10).2.2,ixo24 hv11,(idx_lt3 hv11).2.2,hbg13]
      exact hK _ _ ⟨rfl,rfl⟩
     ·replace hg13:=ifT hbg13 hg13
      obtain⟨v12,hv12,hg13⟩:=bindE hg13
      obtain rfl:=oi hg13
      try simp -dsimp -implicitDefEqProofs [e0,(gset hv10 _),List.set_set,ixo194 hv10,(idx_lt3 hv10).2.2,ixo24 hv11,(idx_lt3 hv11).2.2,hbg13,ix24 hv12,ixo194 hv10,(idx_lt3 hv10).2.2,ixo24 hv11,(idx_lt3 hv11).2.2]
      exact hK _ _ ⟨rfl,rfl⟩
    rintro a σ ⟨rfl,rfl⟩
    refine Cd (fun C3=>?_) fun C3=>?_
    ·replace H:=ifT C3 H
     obtain⟨l14,hl14,H⟩:=bindE H
     refine Sx tok [] [0,1,2,8] (by
      intro K k
      have e0:=nQ w0 (M1+2)
      simp -dsimp -implicitDefEqProofs [e0,(gset hv10 _),List.set_set,ixo194 hv10,(idx_lt3 hv10).2.2,ixo24 hv11,(idx_lt3 hv11).2.2,(setx_iff.1 hl14).2.symm]
      exact k) ?_
     try rw[← setx_len hl14]
     refine Rt tok [] [0,1,2,7,8] (by
      intro K k
      have e0:=nQ w0 (M1+2)
      simp -dsimp -implicitDefEqProofs [e0,(gset hv10 _),List.set_set]
      exact k) fun a ha=>?_
     refine hK5 _ _ ?_;rw[ha]
     refine Rc.mk ?_
     refine Rt tok [] [0,1,2,7,8] (by
      intro K k
      have e0:=nQ w0 (M1+2)
      simp -dsimp -implicitDefEqProofs [e0,(gset hv10 _),List.set_set]
      exact k) fun a ha=>?_
     obtain⟨l15,hl15,H⟩:=bindE H
     obtain rfl:=oi H
     refine hK3 _ _ _ rfl ?_;rw[ha]
     refine gP Rc_ref w0 p1.toNat 0 ?_ (hr:=by exact gset hv10 _)
     rw[show hp E0 [(w0,some ⟨24,1,(encL rL_I_o s7).set p1.toNat [.osl 3 1 (encL rI l14)]⟩)] (M1+38)=hp E0 [(w0,some ⟨24,1,encL rL_I_o l15⟩)] (M1+38) from by rw[(setx_iff.1 hl15).2,← encL_set];rfl];(try rw[← setx_len hl15])
     exact Rf ⟨M1+38,(by omega),(by first|rfl|exact((setx_len hl15).trans fM1_1)|omega),rfl,rfl⟩
    ·replace H:=ifF C3 H
     refine AWP_skip (Jn hK5 ?_)
     refine Rt tok [] [0,1,2,7,8] (by
      intro K k
      have e0:=nQ w0 (M1+2)
      simp -dsimp -implicitDefEqProofs [e0,(gset hv10 _),List.set_set]
      exact k) fun a ha=>?_
     obtain⟨l16,hl16,H⟩:=bindE H
     obtain rfl:=oi H
     refine hK3 _ _ _ rfl ?_;rw[ha]
     refine gP Rc_ref w0 p1.toNat 0 ?_ (hr:=by exact gset hv10 _)
     rw[show hp E0 [(w0,some ⟨24,1,(encL rL_I_o s7).set p1.toNat [.osl 3 1 (encL rI v10)]⟩)] (M1+29)=hp E0 [(w0,some ⟨24,1,encL rL_I_o l16⟩)] (M1+29) from by rw[(setx_iff.1 hl16).2,← encL_set];rfl];(try rw[← setx_len hl16])
     exact Rf ⟨M1+29,(by omega),(by first|rfl|exact((setx_len hl16).trans fM1_1)|omega),rfl,rfl⟩
   ·obtain rfl:=oi (ifF C2 H)
    refine AWP_exit (hO3 _ _ _ _ rfl ⟨rfl,?_⟩)
    refine Rc.rw (l:=[7]) (X:=[(7,.bool s5)]) rfl ?_
    exact Rf ⟨M1+2,(by omega),(by first|rfl|exact fM1_1|omega),rfl,rfl⟩
  ·intro x a σ hx
   obtain⟨y8,y9⟩:=e1
   obtain⟨rfl,b,τ,hr,M2,fM2_0,fM2_1,rfl,rfl⟩:=hx
   (try dsimp only at H)
   show K2 _ _
   refine hK2 _ _ (Rc_ref hr ?_)
   refine Rc.mk ?_
   refine S0 tok [] [6] ?_
   obtain rfl:=oi H
   refine Kp [6] ?_
   refine AWP_ret ?_
   refine⟨[.bool y8],by simp,M2+2,by omega,by first|rfl|exact fM2_1|omega,?_,?_⟩
   ·simp[encL_nil]
   ·first|rfl|simp[List.set_set]
theorem c223_o {p0:gQuad} {p1:(List Int)} {r:(List Int)} (H:s_l34After_o p0 p1=some r) {σ:AHeap}:ACalls Tryz.prog G 223 [.agg [.int .i64 p0.Op,.int .i64 p0.Dst,.int .i64 p0.A,.int .i64 p0.B,.int .i64 p0.N],.fsl (encL rI p1)] σ (fun v σ'=>∃M n0:Nat,σ.next≤M∧σ.next≤n0∧n0<M∧v=.sl n0 0 r.length∧σ'=hp σ.objs [(n0,some ⟨3,1,encL rI r⟩)] M):=by
 refine ACalls_fr (L:=[]) (Q1:=fun v σ'=>∃M n0:Nat,σ.next≤M∧σ.next≤n0∧n0<M∧v=.sl n0 0 r.length∧σ'=hp E0 [(n0,some ⟨3,1,encL rI r⟩)] M) (by simp[]) (fun hlt=>?_) ?_ ⟨_,Tryz.func223,rfl,rfl⟩
 rotate_left
 ·rintro v σ1 ⟨M,n0,h0,h1,h2,rfl,rfl⟩
  exact⟨_,M,rfl,by simp,by simp;try omega,M,n0,h0,h1,h2,rfl,rfl⟩
 generalize σ.next=N0 at hlt ⊢
 refine fnK tok Tryz.func223 Tryz.ntmps223 Tryz.results223 ?_
 simp only[argsA,Nat.reduceAdd,hp_next]
 unfold s_l34After_o at H
 refine S0 tok [0] [1,2] ?_
 obtain⟨l1,hl1,H⟩:=bindE H
 have q0:∀σ i,buildSliceA T 24 true i 0 [] σ=some (.esl,σ):=fun _ _=>rfl
 refine Sx tok [0] [2,5] (by intro K k;simp -dsimp -implicitDefEqProofs [q0,appe24 hl1];exact k) ?_
 obtain⟨r2,hr2,H⟩:=bindE H
 refine Sx tok [] [2,5,6] (by intro K k;(repeat first|simp -dsimp -implicitDefEqProofs|refine(c229 hr2).app ?_);exact k) ?_
 refine AWP_sq [2,5,6] fun K1 hK1=>?_
 refine S0 tok [] [2,5,6,14] ?_
 refine Cd (fun C1=>?_) fun C1=>?_
 ·replace H:=ifT C1 H
  refine S0 tok [] [4] ?_
  obtain rfl:=oi H
  refine Kp [4] ?_
  refine AWP_ret ?_
  refine⟨[.sl (N0+4) 0 l1.length],by simp,N0+13,N0+4,by omega,by omega,by omega,?_,?_⟩
  ·simp[encL_nil]
  ·first|rfl|simp[List.set_set]
 ·replace H:=ifF C1 H
  refine AWP_skip (Jn hK1 ?_)
  refine AWP_sq [2,5,6] fun K2 hK2=>?_
  refine S0 tok [] [2,5,6,7] ?_
  refine AWP_block (AWP_thenB ?_)
  obtain⟨e1,hse1,H⟩:=bindE H
  refine AWP_lp [2,5,6,7] (fun s a σ=>∃M1 o1:Nat,N0≤M1∧N0≤o1∧o1<M1∧a=[(2,.fptr [.int .i64 p0.Op,.int .i64 p0.Dst,.int .i64 p0.A,.int .i64 p0.B,.int .i64 p0.N] 0),(5,.sl o1 0 s.2.length),(6,.int .i64 r2),(7,.int .i64 s.1)]∧σ=hp E0 [(o1,some ⟨3,1,encL rI s.2⟩)] M1) (fun s x a σ=>x=.exit 0∧Rc G 43 N0 (fun a σ=>∃M2 o2:Nat,N0≤M2∧N0≤o2∧o2<M2∧a=[(2,.fptr [.int .i64 p0.Op,.int .i64 p0.Dst,.int .i64 p0.A,.int .i64 p0.B,.int .i64 p0.N] 0),(5,.sl o2 0 s.length),(6,.int .i64 r2)]∧σ=hp E0 [(o2,some ⟨3,1,encL rI s⟩)] M2) (AAct.keep a [2,5,6]) σ) hse1 ?_ ?_ ?_
  ·refine Rc.kp [2,5,6,7] [(2,.fptr [.int .i64 p0.Op,.int .i64 p0.Dst,.int .i64 p0.A,.int .i64 p0.B,.int .i64 p0.N] 0),(5,.sl (N0+4) 0 l1.length),(6,.int .i64 r2),(7,.int .i64 0)] rfl ?_
   exact Rf ⟨N0+12,(N0+4),(by omega),(by omega),(by omega),rfl,rfl⟩
  ·clear H hse1
   rintro⟨s3,s4⟩ fl a σ H ⟨M1,o1,fM1_0,fM1_1,fM1_2,rfl,rfl⟩ K3 O3 hK3 hO3
   unfold s_l34After_o_L1 at H;dsimp only at H
   refine AWP_sq [2,5,6,7] fun K4 hK4=>?_
   refine S0 tok [] [2,5,6,7,17] ?_
   refine Cd (fun C2=>?_) fun C2=>?_
   ·replace H:=ifT C2 H
    refine AWP_skip (Jn hK4 ?_)
    refine AWP_sq [2,5,6,7] fun K5 hK5=>?_
    refine AWP_block (AWP_thenB ?_)
    obtain⟨v6,hv6,H⟩:=bindE H
    refine Sx tok [] [2,5,6,7,25] (by intro K k;simp -dsimp -implicitDefEqProofs [ixo24 hv6,(idx_lt3 hv6).2.2];exact k) ?_
    refine Cd (fun C3=>?_) fun C3=>?_
    ·replace H:=ifT C3 H
     obtain⟨l7,hl7,H⟩:=bindE H
     refine Rt tok [] [2,5,6,7] (by intro K k;simp -dsimp -implicitDefEqProofs [ixo24 hv6,(idx_lt3 hv6).2.2,(setx_iff.1 hl7).2.symm];exact k) fun a ha=>?_
     (try rw[← setx_len hl7] at ha);(try rw[← setx_len hl7])
     refine hK5 _ _ ?_;rw[ha]
     refine Rc.mk ?_
     refine Rt0 tok [] [2,5,6,7] fun a ha=>?_
     obtain rfl:=oi H
     refine hK3 _ _ _ rfl ?_;rw[ha]
     exact Rf ⟨M1+16,o1,(by omega),(by omega),(by omega),rfl,rfl⟩
    ·replace H:=ifF C3 H
     refine AWP_skip (Jn hK5 ?_)
     refine Rt0 tok [] [2,5,6,7] fun a ha=>?_
     obtain rfl:=oi H
     refine hK3 _ _ _ rfl ?_;rw[ha]
     exact Rf ⟨M1+11,o1,(by omega),(by omega),(by omega),rfl,rfl⟩
   ·obtain rfl:=oi (ifF C2 H)
    refine AWP_exit (hO3 _ _ _ _ rfl ⟨rfl,?_⟩)
    refine Rc.rw (l:=[2,5,6]) (X:=[(2,.fptr [.int .i64 p0.Op,.int .i64 p0.Dst,.int .i64 p0.A,.int .i64 p0.B,.int .i64 p0.N] 0),(5,.sl o1 0 s4.length),(6,.int .i64 r2)]) rfl ?_
    exact Rf ⟨M1+2,o1,(by omega),(by omega),(by omega),rfl,rfl⟩
  ·intro x a σ hx
   obtain⟨y5,rfl⟩:∃x,x=e1:=⟨_,rfl⟩
   obtain⟨rfl,b,τ,hr,M2,o2,fM2_0,fM2_1,fM2_2,rfl,rfl⟩:=hx
   (try dsimp only at H)
   show K2 _ _
   refine hK2 _ _ (Rc_ref hr ?_)
   refine Rc.mk ?_
   obtain⟨v8,hv8,H⟩:=bindE H
   obtain⟨l9,hl9,H⟩:=bindE H
   refine Sx tok [] [2,5,6] (by intro K k;simp -dsimp -implicitDefEqProofs [ixo24 hv8,(idx_lt3 hv8).2.2,(setx_iff.1 hl9).2.symm];exact k) ?_
   try rw[← setx_len hl9]
   refine AWP_sq [5] fun K6 hK6=>?_
   refine S0 tok [] [2,5,6,36] ?_
   refine Cd (fun C4=>?_) fun C4=>?_
   ·replace H:=ifT C4 H
    obtain⟨v10,hv10,H⟩:=bindE H
    obtain⟨l11,hl11,H⟩:=bindE H
    refine Rt tok [] [5] (by intro K k;simp -dsimp -implicitDefEqProofs [ixo24 hv10,(idx_lt3 hv10).2.2,(setx_iff.1 hl11).2.symm];exact k) fun a ha=>?_
    (try rw[← setx_len hl11] at ha);(try rw[← setx_len hl11])
    refine hK6 _ _ ?_;rw[ha]
    refine Rc.mk ?_
    refine S0 tok [] [4] ?_
    obtain rfl:=oi H
    refine Kp [4] ?_
    refine AWP_ret ?_
    refine⟨[.sl o2 0 l11.length],by simp,M2+16,o2,by omega,by omega,by omega,?_,?_⟩
    ·simp[encL_nil]
    ·first|rfl|simp[List.set_set]
   ·replace H:=ifF C4 H
    refine AWP_skip (Jn hK6 ?_)
    refine S0 tok [] [4] ?_
    obtain rfl:=oi H
    refine Kp [4] ?_
    refine AWP_ret ?_
    refine⟨[.sl o2 0 l9.length],by simp,M2+10,o2,by omega,by omega,by omega,?_,?_⟩
    ·simp[encL_nil]
    ·first|rfl|simp[List.set_set]
theorem c223_o_b {p0:gQuad} {p1:(List Int)} {r:(List Int)} (H:s_l34After_o p0 p1=some r) {σ:AHeap} {args:List AV} (hy:args.map (thawA (fun _=>true) σ 8)=[.agg [.int .i64 p0.Op,.int .i64 p0.Dst,.int .i64 p0.A,.int .i64 p0.B,.int .i64 p0.N],.fsl (encL rI p1)]):ACalls Tryz.prog G 223 args σ (fun v σ'=>∃M n0:Nat,σ.next≤M∧σ.next≤n0∧n0<M∧v=.sl n0 0 r.length∧σ'=hp σ.objs [(n0,some ⟨3,1,encL rI r⟩)] M):=by
 refine borrowQ 8 8 (c223_o (σ:=⟨E0,σ.next⟩) H) hy ?_
 rintro _ _ ⟨M,n0,h0,h1,h2,rfl,rfl⟩
 refine⟨_,M,rfl,by simp[AV.rnf,AV.simp1],fun p hp ob ho=>?_,by simp,M,n0,h0,h1,h2,rfl,rfl⟩
 simp only[List.mem_cons,List.not_mem_nil,or_false] at hp
 rcases hp with rfl<;>(cases ho;first|exact encL_nf (fun x=>nf_rI 7 x) _|simp[AV.nf,AV.simp1])
theorem c212 {p0:(List gQuad)} {p1:(List (List Int))} {r:Bool×(List (List Int))} (H:s_l34Round p0 p1=some r) {σ:AHeap} {w1:Nat} (q1:σ.objs w1=some ⟨24,1,encL rL_I_o p1⟩):ACalls Tryz.prog G 212 [.fsl (encL rQuad p0),.sl w1 0 p1.length] σ (fun v σ'=>∃M:Nat,σ.next≤M∧r.2.length=p1.length∧v=.bool r.1∧σ'=hp σ.objs [(w1,some ⟨24,1,encL rL_I_o r.2⟩)] M):=by
 refine ACalls_fr (L:=[(w1,some ⟨24,1,encL rL_I_o p1⟩)]) (Q1:=fun v σ'=>∃M:Nat,σ.next≤M∧r.2.length=p1.length∧v=.bool r.1∧σ'=hp E0 [(w1,some ⟨24,1,encL rL_I_o r.2⟩)] M) (by simp[q1]) (fun hlt=>?_) ?_ ⟨_,Tryz.func212,rfl,rfl⟩
 rotate_left
 ·rintro v σ1 ⟨M,h0,h1,rfl,rfl⟩
  exact⟨_,M,rfl,by simp,by simp;try omega,M,h0,h1,rfl,rfl⟩
 generalize σ.next=N0 at hlt ⊢
 have lw1:w1<N0:=hlt _ (.head _) rfl
 refine fnK tok Tryz.func212 Tryz.ntmps212 Tryz.results212 ?_
 simp only[argsA,Nat.reduceAdd,hp_next]
 unfold s_l34Round at H
 refine S0 tok [] [0,1] ?_
 refine S0 tok [] [0,1,5] ?_
 refine AWP_sq [5] fun K1 hK1=>?_
 refine S0 tok [] [0,1,5,6] ?_
 refine AWP_block (AWP_thenB ?_)
 obtain⟨e2,hse2,H⟩:=bindE H
 refine AWP_lp [0,1,5,6] (fun s a σ=>∃M1:Nat,N0≤M1∧s.2.2.length=p1.length∧a=[(0,.fsl (encL rQuad p0)),(1,.sl w1 0 s.2.2.length),(5,.bool s.1),(6,.int .i64 s.2.1)]∧σ=hp E0 [(w1,some ⟨24,1,encL rL_I_o s.2.2⟩)] M1) (fun s x a σ=>x=.exit 0∧Rc G 48 N0 (fun a σ=>∃M2:Nat,N0≤M2∧s.2.length=p1.length∧a=[(5,.bool s.1)]∧σ=hp E0 [(w1,some ⟨24,1,encL rL_I_o s.2⟩)] M2) (AAct.keep a [5]) σ) hse2 ?_ ?_ ?_
 ·refine Rc.kp [0,1,5,6] [(0,.fsl (encL rQuad p0)),(1,.sl w1 0 p1.length),(5,.bool false),(6,.int .i64 0)] rfl ?_
  exact Rf ⟨N0+3,(by omega),(by first|rfl|exact rfl|omega),rfl,rfl⟩
 ·clear H hse2
  rintro⟨s1,s2,s3⟩ fl a σ H ⟨M1,fM1_0,fM1_1,rfl,rfl⟩ K2 O2 hK2 hO2
  unfold s_l34Round_L1 at H;dsimp only at H
  refine AWP_sq [0,1,5,6] fun K3 hK3=>?_
  refine S0 tok [] [0,1,5,6,13] ?_
  refine Cd (fun C1=>?_) fun C1=>?_
  ·replace H:=ifT C1 H
   refine AWP_skip (Jn hK3 ?_)
   refine AWP_sq [0,1,5,6] fun K4 hK4=>?_
   refine AWP_block (AWP_thenB ?_)
   refine AWP_sq [0,1,5,6] fun K5 hK5=>?_
   obtain⟨v6,hv6,H⟩:=bindE H
   refine gU AWP_ref w1 s2.toNat 0 ?_ (hr:=by exact encL_at rL_I_o hv6)
   refine Sx tok [] [0,1,5,6,21] (by
    intro K k
    have e0:=nQ w1 (M1+4)
    simp -dsimp -implicitDefEqProofs [e0,(gset hv6 _),List.set_set,ixo194 hv6,(idx_lt3 hv6).2.2]
    exact k) ?_
   refine Cd (fun C2=>?_) fun C2=>?_
   ·replace H:=ifT C2 H
    refine AWP_exit ?_
    show K4 _ _
    refine kE [0,1,5,6] fun a' ha=>?_
    refine hK4 _ _ ?_;rw[ha]
    refine Rc.mk ?_
    refine Rt tok [] [0,1,5,6] (by
     intro K k
     have e0:=nQ w1 (M1+4)
     simp -dsimp -implicitDefEqProofs [e0,(gset hv6 _),List.set_set]
     exact k) fun a ha=>?_
    obtain⟨l7,hl7,H⟩:=bindE H
    obtain rfl:=oi H
    refine hK2 _ _ _ rfl ?_;rw[ha]
    refine gP Rc_ref w1 s2.toNat 0 ?_ (hr:=by exact gset hv6 _)
    rw[show hp E0 [(w1,some ⟨24,1,(encL rL_I_o s3).set s2.toNat [.osl 3 1 (encL rI v6)]⟩)] (M1+14)=hp E0 [(w1,some ⟨24,1,encL rL_I_o l7⟩)] (M1+14) from by rw[(setx_iff.1 hl7).2,← encL_set];rfl];(try rw[← setx_len hl7])
    exact Rf ⟨M1+14,(by omega),(by first|rfl|exact((setx_len hl7).trans fM1_1)|omega),rfl,rfl⟩
   ·replace H:=ifF C2 H
    refine AWP_skip (Jn hK5 ?_)
    refine gP AWP_ref w1 s2.toNat 0 ?_ (hr:=by exact gset hv6 _)
    obtain⟨l8,hl8,H⟩:=bindE H
    rw[show hp E0 [(w1,some ⟨24,1,(encL rL_I_o s3).set s2.toNat [.osl 3 1 (encL rI v6)]⟩)] (M1+11)=hp E0 [(w1,some ⟨24,1,encL rL_I_o l8⟩)] (M1+11) from by rw[(setx_iff.1 hl8).2,← encL_set];rfl];(try rw[← setx_len hl8])
    obtain⟨r9,hr9,H⟩:=bindE H
    refine Sx tok [] [0,1,5,6,7] (by intro K k;(repeat first|simp -dsimp -implicitDefEqProofs|refine(c214 hr9).app ?_);exact k) ?_
    obtain⟨v11,hv11,H⟩:=bindE H
    refine gU AWP_ref w1 s2.toNat 0 ?_ (hr:=by exact encL_at rL_I_o hv11)
    obtain⟨v12,hv12,H⟩:=bindE H
    obtain⟨r13,hr13,H⟩:=bindE H
    refine AWP_sd tok tokM [] [6,7,8] [0,1,2,3,4,5,6,7,8,9] [0,1,5,6,7,8] (fun a σ=>∃M3 o1:Nat,M1+26≤M3∧M1+26≤o1∧o1<M3∧a=[(0,.fsl (encL rQuad p0)),(1,.sl w1 0 l8.length),(5,.bool s1),(6,.int .i64 s2),(7,.fsl (encL rI r9)),(8,.sl o1 0 r13.length)]∧σ=hp E0 [(w1,some ⟨24,1,(encL rL_I_o l8).set s2.toNat [.sl (M1+15) 0 v11.length]⟩),(M1+15,some ⟨3,1,encL rI v11⟩),(o1,some ⟨3,1,encL rI r13⟩)] M3) (by decide) (fun K hK=>?_) ?_
    ·simp only[pickL,nthO_succ,nthO_zero]
     have e0:=nQ w1 (M1+15)
     simp -dsimp -implicitDefEqProofs [e0,(gset hv11 _),List.set_set,ix39 hv12,ixo194 hv11,(idx_lt3 hv11).2.2]
     refine(c223_o_b (H:=hr13) (by simp[e0,(gset hv11 _),List.set_set,ix39 hv12,ixo194 hv11,(idx_lt3 hv11).2.2])).mono ?_;rintro _ _ ⟨M3,o1,fM3_0,fM3_1,fM3_2,rfl,rfl⟩;simp only[hp_next] at fM3_0 fM3_1 fM3_2
     have eM3_0:=nQ o1 w1
     have eM3_1:=nQ o1 (M1+15)
     try simp -dsimp -implicitDefEqProofs [e0,(gset hv11 _),List.set_set,ix39 hv12,ixo194 hv11,(idx_lt3 hv11).2.2,eM3_0,eM3_1,hp_over_some,hp_over_none]
     exact hK _ _ ⟨M3,o1,(by omega),(by omega),(by omega),rfl,rfl⟩
    rintro a σ ⟨M3,o1,fM3_0,fM3_1,fM3_2,rfl,rfl⟩
    refine Sx tok [] [0,1,5,6,7,8,9] (by
     intro K k
     have e0:=nQ w1 (M1+15)
     have e1:=nQ w1 o1
     have e2:=nQ (M1+15) o1
     simp -dsimp -implicitDefEqProofs [e0,e1,e2,(gset hv11 _),List.set_set]
     exact k) ?_
    refine AWP_block (AWP_thenB ?_)
    obtain⟨l14,hl14,H⟩:=bindE H
    obtain⟨e1,hse1,H⟩:=bindE H
    refine AWP_lp [0,1,5,6,7,8,9] (fun s a σ=>∃M4:Nat,N0≤M4∧s.2.2.length=p1.length∧a=[(0,.fsl (encL rQuad p0)),(1,.sl w1 0 s.2.2.length),(5,.bool s.1),(6,.int .i64 s2),(7,.fsl (encL rI r9)),(8,.fsl (encL rI r13)),(9,.int .i64 s.2.1)]∧σ=hp E0 [(w1,some ⟨24,1,encL rL_I_o s.2.2⟩)] M4) (fun s x a σ=>x=.exit 2∧Rc G 48 N0 (fun a σ=>∃M5:Nat,N0≤M5∧s.2.length=p1.length∧a=[(0,.fsl (encL rQuad p0)),(1,.sl w1 0 s.2.length),(5,.bool s.1),(6,.int .i64 s2)]∧σ=hp E0 [(w1,some ⟨24,1,encL rL_I_o s.2⟩)] M5) (AAct.keep a [0,1,5,6]) σ) hse1 ?_ ?_ ?_
    ·refine Rc.kp [0,1,5,6,7,8,9] [(0,.fsl (encL rQuad p0)),(1,.sl w1 0 l8.length),(5,.bool s1),(6,.int .i64 s2),(7,.fsl (encL rI r9)),(8,.sl o1 0 r13.length),(9,.int .i64 0)] rfl ?_
     refine gP Rc_ref w1 s2.toNat 0 ?_ (hr:=by exact gset hv11 _)
     rw[show hp E0 [(w1,some ⟨24,1,(encL rL_I_o l8).set s2.toNat [.osl 3 1 (encL rI v11)]⟩),(o1,some ⟨3,1,encL rI r13⟩)] (M3+1)=hp E0 [(w1,some ⟨24,1,encL rL_I_o l14⟩),(o1,some ⟨3,1,encL rI r13⟩)] (M3+1) from by rw[(setx_iff.1 hl14).2,← encL_set];rfl];(try rw[← setx_len hl14])
     have z1:=nQ w1 o1
     refine gFrz Rc_ref 4 [o1] [(w1,some ⟨24,1,encL rL_I_o l14⟩)] [(0,.fsl (encL rQuad p0)),(1,.sl w1 0 l14.length),(5,.bool s1),(6,.int .i64 s2),(7,.fsl (encL rI r9)),(8,.fsl (encL rI r13)),(9,.int .i64 0)] (by simp[z1]) (cutD (by simp[z1])) ?_
     exact Rf ⟨M3+1,(by omega),(by first|rfl|exact((setx_len hl14).trans ((setx_len hl8).trans fM1_1))|omega),rfl,rfl⟩
    ·clear H hse1
     rintro⟨s15,s16,s17⟩ fl a σ H ⟨M4,fM4_0,fM4_1,rfl,rfl⟩ K6 O6 hK6 hO6
     unfold s_l34Round_L2 at H;dsimp only at H
     refine AWP_sq [0,1,5,6,7,8,9] fun K7 hK7=>?_
     refine S0 tok [] [0,1,5,6,7,8,9,37] ?_
     refine Cd (fun C3=>?_) fun C3=>?_
     ·replace H:=ifT C3 H
      refine AWP_skip (Jn hK7 ?_)
      refine AWP_sq [0,1,5,6,7,8,9] fun K8 hK8=>?_
      refine AWP_block (AWP_thenB ?_)
      obtain⟨v20,hv20,H⟩:=bindE H
      obtain⟨r21,hr21,H⟩:=bindE H
      refine AWP_sr tok [] [0,1,5,6,7,8,9,46] (fun a σ=>∃M6:Nat,M4+11≤M6∧r21.2.length=s17.length∧a=[(0,.fsl (encL rQuad p0)),(1,.sl w1 0 s17.length),(5,.bool s15),(6,.int .i64 s2),(7,.fsl (encL rI r9)),(8,.fsl (encL rI r13)),(9,.int .i64 s16),(46,.bool r21.1)]∧σ=hp E0 [(w1,some ⟨24,1,encL rL_I_o r21.2⟩)] M6) (fun K hK=>?_) ?_
      ·skip
       simp -dsimp -implicitDefEqProofs [ix24 hv20]
       refine(c224 (H:=hr21) (by simp[ix24 hv20])).mono ?_;rintro _ _ ⟨M6,fM6_0,fM6_1,rfl,rfl⟩;simp only[hp_next] at fM6_0
       try simp -dsimp -implicitDefEqProofs [ix24 hv20,hp_over_some,hp_over_none]
       exact hK _ _ ⟨M6,(by omega),fM6_1,rfl,rfl⟩
      rintro a σ ⟨M6,fM6_0,fM6_1,rfl,rfl⟩
      try rw[← fM6_1]
      refine Cd (fun C4=>?_) fun C4=>?_
      ·replace H:=ifT C4 H
       refine Rt0 tok [] [0,1,5,6,7,8,9] fun a ha=>?_
       refine hK8 _ _ ?_;rw[ha]
       refine Rc.mk ?_
       refine Rt0 tok [] [0,1,5,6,7,8,9] fun a ha=>?_
       obtain rfl:=oi H
       refine hK6 _ _ _ rfl ?_;rw[ha]
       exact Rf ⟨M6+4,(by omega),(by first|rfl|exact((fM6_1).trans fM4_1)|omega),rfl,rfl⟩
      ·replace H:=ifF C4 H
       refine AWP_skip (Jn hK8 ?_)
       refine Rt0 tok [] [0,1,5,6,7,8,9] fun a ha=>?_
       obtain rfl:=oi H
       refine hK6 _ _ _ rfl ?_;rw[ha]
       exact Rf ⟨M6+3,(by omega),(by first|rfl|exact((fM6_1).trans fM4_1)|omega),rfl,rfl⟩
     ·obtain rfl:=oi (ifF C3 H)
      refine AWP_exit (hO6 _ _ _ _ rfl ⟨rfl,?_⟩)
      refine Rc.rw (l:=[0,1,5,6]) (X:=[(0,.fsl (encL rQuad p0)),(1,.sl w1 0 s17.length),(5,.bool s15),(6,.int .i64 s2)]) rfl ?_
      exact Rf ⟨M4+4,(by omega),(by first|rfl|exact fM4_1|omega),rfl,rfl⟩
    ·intro x a σ hx
     obtain⟨y18,y19⟩:=e1
     obtain⟨rfl,b,τ,hr,M5,fM5_0,fM5_1,rfl,rfl⟩:=hx
     (try dsimp only at H)
     show K4 _ _
     refine hK4 _ _ (Rc_ref hr ?_)
     refine Rc.mk ?_
     refine Rt0 tok [] [0,1,5,6] fun a ha=>?_
     obtain rfl:=oi H
     refine hK2 _ _ _ rfl ?_;rw[ha]
     exact Rf ⟨M5+3,(by omega),(by first|rfl|exact fM5_1|omega),rfl,rfl⟩
  ·obtain rfl:=oi (ifF C1 H)
   refine AWP_exit (hO2 _ _ _ _ rfl ⟨rfl,?_⟩)
   refine Rc.rw (l:=[5]) (X:=[(5,.bool s1)]) rfl ?_
   exact Rf ⟨M1+4,(by omega),(by first|rfl|exact fM1_1|omega),rfl,rfl⟩
 ·intro x a σ hx
  obtain⟨y4,y5⟩:=e2
  obtain⟨rfl,b,τ,hr,M2,fM2_0,fM2_1,rfl,rfl⟩:=hx
  (try dsimp only at H)
  show K1 _ _
  refine hK1 _ _ (Rc_ref hr ?_)
  refine Rc.mk ?_
  refine S0 tok [] [4] ?_
  obtain rfl:=oi H
  refine Kp [4] ?_
  refine AWP_ret ?_
  refine⟨[.bool y4],by simp,M2+2,by omega,by first|rfl|exact fM2_1|omega,?_,?_⟩
  ·simp[encL_nil]
  ·first|rfl|simp[List.set_set]
theorem c211_o {r:(List Int)} (H:s_l34Self_o=some r) {σ:AHeap}:ACalls Tryz.prog G 211 [] σ (fun v σ'=>∃M n0:Nat,σ.next≤M∧σ.next≤n0∧n0<M∧v=.sl n0 0 r.length∧σ'=hp σ.objs [(n0,some ⟨3,1,encL rI r⟩)] M):=by
 refine ACalls_fr (L:=[]) (Q1:=fun v σ'=>∃M n0:Nat,σ.next≤M∧σ.next≤n0∧n0<M∧v=.sl n0 0 r.length∧σ'=hp E0 [(n0,some ⟨3,1,encL rI r⟩)] M) (by simp[]) (fun hlt=>?_) ?_ ⟨_,Tryz.func211,rfl,rfl⟩
 rotate_left
 ·rintro v σ1 ⟨M,n0,h0,h1,h2,rfl,rfl⟩
  exact⟨_,M,rfl,by simp,by simp;try omega,M,n0,h0,h1,h2,rfl,rfl⟩
 generalize σ.next=N0 at hlt ⊢
 refine fnK tok Tryz.func211 Tryz.ntmps211 Tryz.results211 ?_
 simp only[argsA,Nat.reduceAdd,hp_next]
 unfold s_l34Self_o at H
 refine S0 tok [] [] ?_
 have q0:∀σ i,buildSliceA T 24 true i 0 [] σ=some (.esl,σ):=fun _ _=>rfl
 refine Sx tok [0] [1] (by intro K k;simp -dsimp -implicitDefEqProofs [q0];exact k) ?_
 refine AWP_sq [1] fun K1 hK1=>?_
 refine S0 tok [] [1,2] ?_
 refine AWP_block (AWP_thenB ?_)
 obtain⟨e1,hse1,H⟩:=bindE H
 refine AWP_lp [1,2] (fun s a σ=>∃M1 o1:Nat,N0≤M1∧N0≤o1∧o1<M1∧a=[(1,.sl o1 0 s.2.length),(2,.int .i64 s.1)]∧σ=hp E0 [(o1,some ⟨3,1,encL rI s.2⟩)] M1) (fun s x a σ=>x=.exit 0∧Rc G 13 N0 (fun a σ=>∃M2 o2:Nat,N0≤M2∧N0≤o2∧o2<M2∧a=[(1,.sl o2 0 s.length)]∧σ=hp E0 [(o2,some ⟨3,1,encL rI s⟩)] M2) (AAct.keep a [1]) σ) hse1 ?_ ?_ ?_
 ·refine Rc.kp [1,2] [(1,.esl),(2,.int .i64 0)] rfl ?_
  refine gNilS Rc_ref 1 3 1 [(N0+4,some ⟨3,1,encL rI ([]:List Int)⟩)] [(1,.sl (N0+4) 0 ([]:List Int).length),(2,.int .i64 0)] (by simp(disch:=omega)) (by simp(disch:=omega) [encL_nil]) [1,2] rfl ?_
  exact Rf ⟨N0+5,(N0+4),(by omega),(by omega),(by omega),rfl,rfl⟩
 ·clear H hse1
  rintro⟨s1,s2⟩ fl a σ H ⟨M1,o1,fM1_0,fM1_1,fM1_2,rfl,rfl⟩ K2 O2 hK2 hO2
  unfold s_l34Self_o_L1 at H;dsimp only at H
  refine AWP_sq [1,2] fun K3 hK3=>?_
  refine S0 tok [] [1,2,5] ?_
  refine Cd (fun C1=>?_) fun C1=>?_
  ·replace H:=ifT C1 H
   refine AWP_skip (Jn hK3 ?_)
   refine AWP_sq [1,2] fun K4 hK4=>?_
   refine AWP_block (AWP_thenB ?_)
   obtain⟨l4,hl4,H⟩:=bindE H
   have q1:∀σ i,buildSliceA T 24 true i 1 [(0,.int .i64 s1)] σ=some (.fsl (encL rI ([s1]:List Int)),σ):=fun _ _=>rfl
   refine Rt tok [2] [1,2] (by
    intro K k
    have e0:=nQ o1 (M1+5)
    simp -dsimp -implicitDefEqProofs [e0,q1,app24 hl4]
    exact k) fun a ha=>?_
   refine hK4 _ _ ?_;rw[ha]
   refine Rc.mk ?_
   refine Rt0 tok [] [1,2] fun a ha=>?_
   obtain rfl:=oi H
   refine hK2 _ _ _ rfl ?_;rw[ha]
   exact Rf ⟨M1+10,(M1+5),(by omega),(by omega),(by omega),rfl,rfl⟩
  ·obtain rfl:=oi (ifF C1 H)
   refine AWP_exit (hO2 _ _ _ _ rfl ⟨rfl,?_⟩)
   refine Rc.rw (l:=[1]) (X:=[(1,.sl o1 0 s2.length)]) rfl ?_
   exact Rf ⟨M1+2,o1,(by omega),(by omega),(by omega),rfl,rfl⟩
 ·intro x a σ hx
  obtain⟨y3,rfl⟩:∃x,x=e1:=⟨_,rfl⟩
  obtain⟨rfl,b,τ,hr,M2,o2,fM2_0,fM2_1,fM2_2,rfl,rfl⟩:=hx
  (try dsimp only at H)
  show K1 _ _
  refine hK1 _ _ (Rc_ref hr ?_)
  refine Rc.mk ?_
  refine S0 tok [] [0] ?_
  obtain rfl:=oi H
  refine Kp [0] ?_
  refine AWP_ret ?_
  refine⟨[.sl o2 0 y3.length],by simp,M2+2,o2,by omega,by omega,by omega,?_,?_⟩
  ·simp[encL_nil]
  ·first|rfl|simp[List.set_set]
theorem c192 {p0:(List gQuad)} {r:(List (List Int))} (H:s_CopiesOf p0=some r):APure Tryz.prog G 192 [.fsl (encL rQuad p0)] (.fsl (encL rL_I r)):=by
 refine APure_fn (fun N0=>?_) (by simp)
 refine fnK tok Tryz.func192 Tryz.ntmps192 Tryz.results192 ?_
 simp only[argsA,Nat.reduceAdd,hp_next]
 unfold s_CopiesOf at H
 refine S0 tok [] [0] ?_
 have q0:∀σ i,buildSliceA T 194 true i 0 [] σ=some (.esl,σ):=fun _ _=>rfl
 refine Sx tok [0] [0,3] (by intro K k;simp -dsimp -implicitDefEqProofs [q0];exact k) ?_
 refine AWP_sq [0,3] fun K1 hK1=>?_
 obtain⟨r1,hr1,H⟩:=bindE H
 refine Sx tok [] [0,3,9] (by intro K k;(repeat first|simp -dsimp -implicitDefEqProofs|refine(c47 hr1).app ?_);exact k) ?_
 refine Cd (fun C1=>?_) fun C1=>?_
 ·replace H:=ifT C1 H
  refine S0 tok [] [2] ?_
  obtain rfl:=oi H;exact AWP_ret ⟨_,rfl,4,by simp[encL_nil]⟩
 ·replace H:=ifF C1 H
  refine AWP_skip (Jn hK1 ?_)
  refine AWP_sq [0,3] fun K2 hK2=>?_
  refine S0 tok [] [0,3,4] ?_
  refine AWP_block (AWP_thenB ?_)
  obtain⟨e1,hse1,H⟩:=bindE H
  refine AWP_lp [0,3,4] (fun s a σ=>∃M1 o1:Nat,N0≤M1∧N0≤o1∧o1<M1∧a=[(0,.fsl (encL rQuad p0)),(3,.sl o1 0 s.2.length),(4,.int .i64 s.1)]∧σ=hp E0 [(o1,some ⟨24,1,encL rL_I_o s.2⟩)] M1) (fun s x a σ=>x=.exit 0∧Rc G 44 N0 (fun a σ=>∃M2 o2:Nat,N0≤M2∧N0≤o2∧o2<M2∧a=[(0,.fsl (encL rQuad p0)),(3,.sl o2 0 s.length)]∧σ=hp E0 [(o2,some ⟨24,1,encL rL_I_o s⟩)] M2) (AAct.keep a [0,3]) σ) hse1 ?_ ?_ ?_
  ·refine Rc.kp [0,3,4] [(0,.fsl (encL rQuad p0)),(3,.esl),(4,.int .i64 0)] rfl ?_
   refine gNilS Rc_ref 3 24 1 [(N0+7,some ⟨24,1,encL rL_I_o ([]:List (List Int))⟩)] [(0,.fsl (encL rQuad p0)),(3,.sl (N0+7) 0 ([]:List (List Int)).length),(4,.int .i64 0)] (by simp(disch:=omega)) (by simp(disch:=omega) [encL_nil]) [0,3,4] rfl ?_
   exact Rf ⟨N0+8,(N0+7),(by omega),(by omega),(by omega),rfl,rfl⟩
  ·clear H hse1
   rintro⟨s2,s3⟩ fl a σ H ⟨M1,o1,fM1_0,fM1_1,fM1_2,rfl,rfl⟩ K3 O3 hK3 hO3
   unfold s_CopiesOf_L1 at H;dsimp only at H
   refine AWP_sq [0,3,4] fun K4 hK4=>?_
   refine S0 tok [] [0,3,4,14] ?_
   refine Cd (fun C2=>?_) fun C2=>?_
   ·replace H:=ifT C2 H
    refine AWP_skip (Jn hK4 ?_)
    refine AWP_sq [0,3,4] fun K5 hK5=>?_
    refine AWP_block (AWP_thenB ?_)
    obtain⟨l5,hl5,H⟩:=bindE H
    have q1:∀σ i,buildSliceA T 24 true i 0 [] σ=some (.esl,σ):=fun _ _=>rfl
    have q2:∀  σ i,buildSliceA T 194 true i 1 [(0,.esl)] σ=some (.fsl [[.esl]],σ):=fun  _ _=>rfl
    refine Rt tok [1,2] [0,3,4] (by
     intro K k
     have e0:=nQ o1 (M1+7)
     simp -dsimp -implicitDefEqProofs [e0,q1,q2,apr194 rL_I_o hl5]
     exact k) fun a ha=>?_
    refine hK5 _ _ ?_;rw[ha]
    refine Rc.mk ?_
    refine gPk0 AWP_ref (o:=(M1+7)) (ob:=⟨24,1,encL rL_I_o s3++[[.esl]]⟩) (row:=[.esl]) (r:=s3.length) (i:=0) 3 1 [(M1+7,some ⟨24,1,encL rL_I_o s3++[[.osl 3 1 (encL rI ([]:List Int))]]⟩)] (by simp(disch:=omega)) (app_get _ _ _) rfl (by simp(disch:=omega)) (by simp(disch:=omega) [encL_nil,List.set_set,app_set]) ?_
    rw[show hp E0 [(M1+7,some ⟨24,1,encL rL_I_o s3++[[.osl 3 1 (encL rI ([]:List Int))]]⟩)] (M1+9)=hp E0 [(M1+7,some ⟨24,1,encL rL_I_o l5⟩)] (M1+9) from by rw[← app_enc (f:=rL_I_o) (c:=[.osl 3 1 (encL rI ([]:List Int))]) hl5 rfl]]
    refine Rt0 tok [] [0,3,4] fun a ha=>?_
    obtain rfl:=oi H
    refine hK3 _ _ _ rfl ?_;rw[ha]
    exact Rf ⟨M1+12,(M1+7),(by omega),(by omega),(by omega),rfl,rfl⟩
   ·obtain rfl:=oi (ifF C2 H)
    refine AWP_exit (hO3 _ _ _ _ rfl ⟨rfl,?_⟩)
    refine Rc.rw (l:=[0,3]) (X:=[(0,.fsl (encL rQuad p0)),(3,.sl o1 0 s3.length)]) rfl ?_
    exact Rf ⟨M1+4,o1,(by omega),(by omega),(by omega),rfl,rfl⟩
  ·intro x a σ hx
   obtain⟨y4,rfl⟩:∃x,x=e1:=⟨_,rfl⟩
   obtain⟨rfl,b,τ,hr,M2,o2,fM2_0,fM2_1,fM2_2,rfl,rfl⟩:=hx
   (try dsimp only at H)
   show K2 _ _
   refine hK2 _ _ (Rc_ref hr ?_)
   refine Rc.mk ?_
   obtain⟨r6,hr6,H⟩:=bindE H
   obtain⟨v7,hv7,H⟩:=bindE H
   refine AWP_sr tok [] [0,3] (fun a σ=>∃M3 o3:Nat,M2+4≤M3∧M2+4≤o3∧o3<M3∧a=[(0,.fsl (encL rQuad p0)),(3,.sl o2 0 y4.length)]∧σ=hp E0 [(o2,some ⟨24,1,(encL rL_I_o y4).set 0 [.sl o3 0 r6.length]⟩),(o3,some ⟨3,1,encL rI r6⟩)] M3) (fun K hK=>?_) ?_
   ·skip
    simp -dsimp -implicitDefEqProofs [ixo194 hv7,(show _[0]? =some v7 from(idx_lt3 hv7).2.2)]
    refine(c211_o (H:=hr6)).mono ?_;rintro _ _ ⟨M3,o3,fM3_0,fM3_1,fM3_2,rfl,rfl⟩;simp only[hp_next] at fM3_0 fM3_1 fM3_2
    have eM3_0:=nQ o3 o2
    try simp -dsimp -implicitDefEqProofs [ixo194 hv7,(show _[0]? =some v7 from(idx_lt3 hv7).2.2),eM3_0,hp_over_some,hp_over_none]
    exact hK _ _ ⟨M3,o3,(by omega),(by omega),(by omega),rfl,rfl⟩
   rintro a σ ⟨M3,o3,fM3_0,fM3_1,fM3_2,rfl,rfl⟩
   refine AWP_sq [0,3] fun K6 hK6=>?_
   refine AWP_block (AWP_thenB ?_)
   obtain⟨l8,hl8,H⟩:=bindE H
   obtain⟨e2,hse2,H⟩:=bindE H
   refine AWP_lp [0,3] (fun s a σ=>∃M4 o4:Nat,N0≤M4∧N0≤o4∧o4<M4∧a=[(0,.fsl (encL rQuad p0)),(3,.sl o4 0 s.length)]∧σ=hp E0 [(o4,some ⟨24,1,encL rL_I_o s⟩)] M4) (fun s x a σ=>x=.exit 2∧Rc G 44 N0 (fun a σ=>∃M5 o5:Nat,N0≤M5∧N0≤o5∧o5<M5∧a=[(0,.fsl (encL rQuad p0)),(3,.sl o5 0 s.length)]∧σ=hp E0 [(o5,some ⟨24,1,encL rL_I_o s⟩)] M5) (AAct.keep a [0,3]) σ) hse2 ?_ ?_ ?_
   ·refine Rc.kp [0,3] [(0,.fsl (encL rQuad p0)),(3,.sl o2 0 y4.length)] rfl ?_
    refine gP Rc_ref o2 0 0 ?_ (hr:=by exact gset hv7 _)
    rw[show hp E0 [(o2,some ⟨24,1,(encL rL_I_o y4).set 0 [.osl 3 1 (encL rI r6)]⟩)] M3=hp E0 [(o2,some ⟨24,1,encL rL_I_o l8⟩)] M3 from by rw[(setx_iff.1 hl8).2,← encL_set];rfl];(try rw[← setx_len hl8])
    exact Rf ⟨M3,o2,(by omega),(by omega),(by omega),rfl,rfl⟩
   ·clear H hse2
    rintro s9 fl a σ H ⟨M4,o4,fM4_0,fM4_1,fM4_2,rfl,rfl⟩ K7 O7 hK7 hO7
    unfold s_CopiesOf_L2 at H;dsimp only at H
    refine AWP_sq [0,3] fun K8 hK8=>?_
    obtain⟨r11,hr11,H⟩:=bindE H
    refine AWP_sr tok [] [0,3,26] (fun a σ=>∃M6:Nat,M4+3≤M6∧r11.2.length=s9.length∧a=[(0,.fsl (encL rQuad p0)),(3,.sl o4 0 s9.length),(26,.bool r11.1)]∧σ=hp E0 [(o4,some ⟨24,1,encL rL_I_o r11.2⟩)] M6) (fun K hK=>?_) ?_
    ·skip
     simp -dsimp -implicitDefEqProofs
     refine(c212 (H:=hr11) (by simp[])).mono ?_;rintro _ _ ⟨M6,fM6_0,fM6_1,rfl,rfl⟩;simp only[hp_next] at fM6_0
     try simp -dsimp -implicitDefEqProofs [hp_over_some,hp_over_none]
     exact hK _ _ ⟨M6,(by omega),fM6_1,rfl,rfl⟩
    rintro a σ ⟨M6,fM6_0,fM6_1,rfl,rfl⟩
    try rw[← fM6_1]
    refine Cd (fun C3=>?_) fun C3=>?_
    ·replace H:=ifT C3 H
     refine AWP_skip (Jn hK8 ?_)
     refine AWP_block (AWP_thenB ?_)
     refine AWP_skip ?_
     show K7 _ _
     refine kE [0,3] fun a' ha=>?_
     obtain rfl:=oi H
     refine hK7 _ _ _ rfl ?_;rw[ha]
     exact Rf ⟨M6,o4,(by omega),(by omega),(by omega),rfl,rfl⟩
    ·obtain rfl:=oi (ifF C3 H)
     refine AWP_exit (hO7 _ _ _ _ rfl ⟨rfl,?_⟩)
     refine Rc.rw (l:=[0,3]) (X:=[(0,.fsl (encL rQuad p0)),(3,.sl o4 0 r11.2.length)]) rfl ?_
     exact Rf ⟨M6,o4,(by omega),(by omega),(by omega),rfl,rfl⟩
   ·intro x a σ hx
    obtain⟨y10,rfl⟩:∃x,x=e2:=⟨_,rfl⟩
    obtain⟨rfl,b,τ,hr,M5,o5,fM5_0,fM5_1,fM5_2,rfl,rfl⟩:=hx
    (try dsimp only at H)
    show K6 _ _
    refine hK6 _ _ (Rc_ref hr ?_)
    refine Rc.mk ?_
    refine AWP_sq [3] fun K9 hK9=>?_
    refine S0 tok [] [0,3,5] ?_
    refine AWP_block (AWP_thenB ?_)
    obtain⟨e3,hse3,H⟩:=bindE H
    refine AWP_lp [0,3,5] (fun s a σ=>∃M7 o6:Nat,N0≤M7∧N0≤o6∧o6<M7∧a=[(0,.fsl (encL rQuad p0)),(3,.sl o6 0 s.2.length),(5,.int .i64 s.1)]∧σ=hp E0 [(o6,some ⟨24,1,encL rL_I_o s.2⟩)] M7) (fun s x a σ=>x=.exit 4∧Rc G 44 N0 (fun a σ=>∃M8 o7:Nat,N0≤M8∧N0≤o7∧o7<M8∧a=[(3,.sl o7 0 s.length)]∧σ=hp E0 [(o7,some ⟨24,1,encL rL_I_o s⟩)] M8) (AAct.keep a [3]) σ) hse3 ?_ ?_ ?_
    ·refine Rc.kp [0,3,5] [(0,.fsl (encL rQuad p0)),(3,.sl o5 0 y10.length),(5,.int .i64 0)] rfl ?_
     exact Rf ⟨M5+1,o5,(by omega),(by omega),(by omega),rfl,rfl⟩
    ·clear H hse3
     rintro⟨s12,s13⟩ fl a σ H ⟨M7,o6,fM7_0,fM7_1,fM7_2,rfl,rfl⟩ K10 O10 hK10 hO10
     unfold s_CopiesOf_L3 at H;dsimp only at H
     refine AWP_sq [0,3,5] fun K11 hK11=>?_
     refine S0 tok [] [0,3,5,30] ?_
     refine Cd (fun C4=>?_) fun C4=>?_
     ·replace H:=ifT C4 H
      refine AWP_skip (Jn hK11 ?_)
      refine AWP_sq [0,3,5] fun K12 hK12=>?_
      refine AWP_block (AWP_thenB ?_)
      obtain⟨v15,hv15,H⟩:=bindE H
      refine gU AWP_ref o6 s12.toNat 0 ?_ (hr:=by exact encL_at rL_I_o hv15)
      refine Sx tok [] [0,3,5,38] (by
       intro K k
       have e0:=nQ o6 (M7+4)
       simp -dsimp -implicitDefEqProofs [e0,(gset hv15 _),List.set_set,ixo194 hv15,(idx_lt3 hv15).2.2]
       exact k) ?_
      refine Cd (fun C5=>?_) fun C5=>?_
      ·replace H:=ifT C5 H
       refine gP AWP_ref o6 s12.toNat 0 ?_ (hr:=by exact gset hv15 _)
       obtain⟨l16,hl16,H⟩:=bindE H
       rw[show hp E0 [(o6,some ⟨24,1,(encL rL_I_o s13).set s12.toNat [.osl 3 1 (encL rI v15)]⟩)] (M7+11)=hp E0 [(o6,some ⟨24,1,encL rL_I_o l16⟩)] (M7+11) from by rw[(setx_iff.1 hl16).2,← encL_set];rfl];(try rw[← setx_len hl16])
       obtain⟨r17,hr17,H⟩:=bindE H
       obtain⟨v18,hv18,H⟩:=bindE H
       refine AWP_rt tok [] [0,3,5] (fun a σ=>∃M9 o8:Nat,M7+16≤M9∧M7+16≤o8∧o8<M9∧a=[(0,.fsl (encL rQuad p0)),(3,.sl o6 0 l16.length),(5,.int .i64 s12)]∧σ=hp E0 [(o6,some ⟨24,1,(encL rL_I_o l16).set s12.toNat [.sl o8 0 r17.length]⟩),(o8,some ⟨3,1,encL rI r17⟩)] M9) (fun K hK=>?_) ?_
       ·skip
        simp -dsimp -implicitDefEqProofs [ixo194 hv18,(idx_lt3 hv18).2.2]
        refine(c211_o (H:=hr17)).mono ?_;rintro _ _ ⟨M9,o8,fM9_0,fM9_1,fM9_2,rfl,rfl⟩;simp only[hp_next] at fM9_0 fM9_1 fM9_2
        have eM9_0:=nQ o8 o6
        try simp -dsimp -implicitDefEqProofs [ixo194 hv18,(idx_lt3 hv18).2.2,eM9_0,hp_over_some,hp_over_none]
        exact hK _ _ ⟨M9,o8,(by omega),(by omega),(by omega),rfl,rfl⟩
       rintro a σ ⟨M9,o8,fM9_0,fM9_1,fM9_2,ha,rfl⟩
       refine hK12 _ _ ?_;rw[ha]
       refine Rc.mk ?_
       refine Rt tok [] [0,3,5] (by
        intro K k
        have e0:=nQ o6 o8
        simp -dsimp -implicitDefEqProofs [e0,(gset hv18 _),List.set_set]
        exact k) fun a ha=>?_
       obtain⟨l19,hl19,H⟩:=bindE H
       obtain rfl:=oi H
       refine hK10 _ _ _ rfl ?_;rw[ha]
       refine gP Rc_ref o6 s12.toNat 0 ?_ (hr:=by exact gset hv18 _)
       rw[show hp E0 [(o6,some ⟨24,1,(encL rL_I_o l16).set s12.toNat [.osl 3 1 (encL rI r17)]⟩)] (M9+3)=hp E0 [(o6,some ⟨24,1,encL rL_I_o l19⟩)] (M9+3) from by rw[(setx_iff.1 hl19).2,← encL_set];rfl];(try rw[← setx_len hl19])
       exact Rf ⟨M9+3,o6,(by omega),(by omega),(by omega),rfl,rfl⟩
      ·replace H:=ifF C5 H
       refine AWP_skip (Jn hK12 ?_)
       refine Rt tok [] [0,3,5] (by
        intro K k
        have e0:=nQ o6 (M7+4)
        simp -dsimp -implicitDefEqProofs [e0,(gset hv15 _),List.set_set]
        exact k) fun a ha=>?_
       obtain⟨l20,hl20,H⟩:=bindE H
       obtain rfl:=oi H
       refine hK10 _ _ _ rfl ?_;rw[ha]
       refine gP Rc_ref o6 s12.toNat 0 ?_ (hr:=by exact gset hv15 _)
       rw[show hp E0 [(o6,some ⟨24,1,(encL rL_I_o s13).set s12.toNat [.osl 3 1 (encL rI v15)]⟩)] (M7+14)=hp E0 [(o6,some ⟨24,1,encL rL_I_o l20⟩)] (M7+14) from by rw[(setx_iff.1 hl20).2,← encL_set];rfl];(try rw[← setx_len hl20])
       exact Rf ⟨M7+14,o6,(by omega),(by omega),(by omega),rfl,rfl⟩
     ·obtain rfl:=oi (ifF C4 H)
      refine AWP_exit (hO10 _ _ _ _ rfl ⟨rfl,?_⟩)
      refine Rc.rw (l:=[3]) (X:=[(3,.sl o6 0 s13.length)]) rfl ?_
      exact Rf ⟨M7+4,o6,(by omega),(by omega),(by omega),rfl,rfl⟩
    ·intro x a σ hx
     obtain⟨y14,rfl⟩:∃x,x=e3:=⟨_,rfl⟩
     obtain⟨rfl,b,τ,hr,M8,o7,fM8_0,fM8_1,fM8_2,rfl,rfl⟩:=hx
     (try dsimp only at H)
     show K9 _ _
     refine hK9 _ _ (Rc_ref hr ?_)
     refine Rc.mk ?_
     refine S0 tok [] [2] ?_
     obtain rfl:=oi H;exact AWP_ret ⟨_,rfl,4,by simp[encL_nil]⟩
theorem c193 {p0:gQuad} {p1:(List Int)} {r:gQuad} (H:s_l34Read p0 p1=some r):APure Tryz.prog G 193 [.agg [.int .i64 p0.Op,.int .i64 p0.Dst,.int .i64 p0.A,.int .i64 p0.B,.int .i64 p0.N],.fsl (encL rI p1)] (.agg [.int .i64 r.Op,.int .i64 r.Dst,.int .i64 r.A,.int .i64 r.B,.int .i64 r.N]):=by
 refine APure_fn (fun N0=>?_) (by simp)
 refine fnK tok Tryz.func193 Tryz.ntmps193 Tryz.results193 ?_
 simp only[argsA,Nat.reduceAdd,hp_next]
 unfold s_l34Read at H
 refine S0 tok [] [1,2,4] ?_
 refine AWP_sq [2,4] fun K1 hK1=>?_
 refine S0 tok [] [1,2,4,6] ?_
 refine AWP_block (AWP_thenB ?_)
 obtain⟨j1,hj1,H⟩:=bindE H
 refine AWP_seq (AWP_named fun K2 hK2=>?_)
 have hJ1:∀a σ,Rc G 33 N0 (fun a σ=>∃M1:Nat,N0≤M1∧N0<M1∧N0+1<M1∧a=[(1,.fsl (encL rI p1)),(2,.ptr N0 0 0),(4,.ptr (N0+1) 0 0),(6,.int .i64 p0.Op),(7,.bool j1)]∧σ=hp E0 [(N0,some ⟨48,5,[[.int .i64 p0.Op,.int .i64 p0.Dst,.int .i64 p0.A,.int .i64 p0.B,.int .i64 p0.N]]⟩),(N0+1,some ⟨48,5,[[.int .i64 0,.int .i64 0,.int .i64 0,.int .i64 0,.int .i64 0]]⟩)] M1) (a.keep [1,2,4,6,7]) σ→K2 a σ:=by
  rintro a σ ⟨b,τ,hr,M1,fM1_0,fM1_1,fM1_2,rfl,rfl⟩
  refine hK2 _ _ (AWP_keep [1,2,4,6,7] (AWP_ref hr ?_))
  refine Cd (fun C1=>?_) fun C1=>?_
  ·replace H:=ifT C1 H
   obtain⟨v2,hv2,H⟩:=bindE H
   refine Rt tok [] [2,4] (by intro K k;simp -dsimp -implicitDefEqProofs [ix24 hv2];exact k) fun a ha=>?_
   refine hK1 _ _ ?_;rw[ha]
   refine Rc.mk ?_
   refine S0 tok [] [4] ?_
   obtain rfl:=oi H
   refine Kp [4] ?_
   refine AWP_ret ?_
   exact⟨[.agg [.int .i64 p0.Op,.int .i64 p0.Dst,.int .i64 v2,.int .i64 p0.B,.int .i64 p0.N]],by simp,4,by simp[encL_nil]⟩
  ·replace H:=ifF C1 H
   refine S0 tok [] [1,2,4,18] ?_
   refine Cd (fun C2=>?_) fun C2=>?_
   ·replace H:=ifT C2 H
    obtain⟨v3,hv3,H⟩:=bindE H
    refine Sx tok [] [1,2,4] (by intro K k;simp -dsimp -implicitDefEqProofs [ix24 hv3];exact k) ?_
    obtain⟨v4,hv4,H⟩:=bindE H
    refine Rt tok [] [2,4] (by intro K k;simp -dsimp -implicitDefEqProofs [ix24 hv4];exact k) fun a ha=>?_
    refine hK1 _ _ ?_;rw[ha]
    refine Rc.mk ?_
    refine S0 tok [] [4] ?_
    obtain rfl:=oi H
    refine Kp [4] ?_
    refine AWP_ret ?_
    exact⟨[.agg [.int .i64 p0.Op,.int .i64 p0.Dst,.int .i64 v3,.int .i64 v4,.int .i64 p0.N]],by simp,4,by simp[encL_nil]⟩
   ·replace H:=ifF C2 H
    refine AWP_skip (Jn hK1 ?_)
    refine S0 tok [] [4] ?_
    obtain rfl:=oi H
    refine Kp [4] ?_
    refine AWP_ret ?_
    exact⟨[.agg [.int .i64 p0.Op,.int .i64 p0.Dst,.int .i64 p0.A,.int .i64 p0.B,.int .i64 p0.N]],by simp,4,by simp[encL_nil]⟩
 replace H:=hj1
 refine S0 tok [] [1,2,4,6,7] ?_
 refine Cd (fun C3=>?_) fun C3=>?_
 ·replace H:=ifT C3 H
  refine AWP_skip ?_
  show K2 _ _
  refine kE [1,2,4,6,7] fun a' ha=>?_
  obtain rfl:=oi H
  refine hJ1 _ _ ?_;rw[ha]
  exact Rf ⟨N0+6,(by omega),(by omega),(by omega),rfl,rfl⟩
 ·replace H:=ifF C3 H
  refine S0 tok [] [1,2,4,6,7] ?_
  refine Cd (fun C4=>?_) fun C4=>?_
  ·replace H:=ifT C4 H
   refine AWP_skip ?_
   show K2 _ _
   refine kE [1,2,4,6,7] fun a' ha=>?_
   obtain rfl:=oi H
   refine hJ1 _ _ ?_;rw[ha]
   exact Rf ⟨N0+8,(by omega),(by omega),(by omega),rfl,rfl⟩
  ·replace H:=ifF C4 H
   refine S0 tok [] [1,2,4,6,7] ?_
   refine Cd (fun C5=>?_) fun C5=>?_
   ·replace H:=ifT C5 H
    refine AWP_skip ?_
    show K2 _ _
    refine kE [1,2,4,6,7] fun a' ha=>?_
    obtain rfl:=oi H
    refine hJ1 _ _ ?_;rw[ha]
    exact Rf ⟨N0+10,(by omega),(by omega),(by omega),rfl,rfl⟩
   ·replace H:=ifF C5 H
    refine Rt0 tok [] [1,2,4,6,7] fun a ha=>?_
    obtain rfl:=oi H
    refine hJ1 _ _ ?_;rw[ha]
    exact Rf ⟨N0+12,(by omega),(by omega),(by omega),rfl,rfl⟩
theorem c177 {p0:(List gQuad)} {r:(List gQuad)×Bool} (H:s_CopyCode p0=some r):APure Tryz.prog G 177 [.fsl (encL rQuad p0)] (.tup [.fsl (encL rQuad r.1),.bool r.2]):=by
 refine APure_fn (fun N0=>?_) (by simp)
 refine fnK tok Tryz.func177 Tryz.ntmps177 Tryz.results177 ?_
 simp only[argsA,Nat.reduceAdd,hp_next]
 unfold s_CopyCode at H
 refine S0 tok [] [0] ?_
 have q0:∀σ i,buildSliceA T 39 true i 0 [] σ=some (.esl,σ):=fun _ _=>rfl
 refine Sx tok [0] [0,4] (by intro K k;simp -dsimp -implicitDefEqProofs [q0];exact k) ?_
 refine AWP_sq [0,4] fun K1 hK1=>?_
 obtain⟨r1,hr1,H⟩:=bindE H
 refine Sx tok [] [0,4,10] (by intro K k;(repeat first|simp -dsimp -implicitDefEqProofs|refine(c47 hr1).app ?_);exact k) ?_
 refine Cd (fun C1=>?_) fun C1=>?_
 ·replace H:=ifT C1 H
  refine S0 tok [] [2,3] ?_
  obtain rfl:=oi H;exact AWP_ret ⟨_,rfl,4,by simp[encL_nil]⟩
 ·replace H:=ifF C1 H
  refine AWP_skip (Jn hK1 ?_)
  obtain⟨r2,hr2,H⟩:=bindE H
  refine Sx tok [] [0,4,5] (by intro K k;(repeat first|simp -dsimp -implicitDefEqProofs|refine(c192 hr2).app ?_);exact k) ?_
  refine AWP_sq [4] fun K2 hK2=>?_
  refine S0 tok [] [0,4,5,6] ?_
  refine AWP_block (AWP_thenB ?_)
  obtain⟨e1,hse1,H⟩:=bindE H
  refine AWP_lp [0,4,5,6] (fun s a σ=>∃M1 o1:Nat,N0≤M1∧N0≤o1∧o1<M1∧a=[(0,.fsl (encL rQuad p0)),(4,.sl o1 0 s.2.length),(5,.fsl (encL rL_I r2)),(6,.int .i64 s.1)]∧σ=hp E0 [(o1,some ⟨48,5,encL rQuad s.2⟩)] M1) (fun s x a σ=>x=.exit 0∧Rc G 33 N0 (fun a σ=>∃M2 o2:Nat,N0≤M2∧N0≤o2∧o2<M2∧a=[(4,.sl o2 0 s.length)]∧σ=hp E0 [(o2,some ⟨48,5,encL rQuad s⟩)] M2) (AAct.keep a [4]) σ) hse1 ?_ ?_ ?_
  ·refine Rc.kp [0,4,5,6] [(0,.fsl (encL rQuad p0)),(4,.esl),(5,.fsl (encL rL_I r2)),(6,.int .i64 0)] rfl ?_
   refine gNilS Rc_ref 4 48 5 [(N0+11,some ⟨48,5,encL rQuad ([]:List gQuad)⟩)] [(0,.fsl (encL rQuad p0)),(4,.sl (N0+11) 0 ([]:List gQuad).length),(5,.fsl (encL rL_I r2)),(6,.int .i64 0)] (by simp(disch:=omega)) (by simp(disch:=omega) [encL_nil]) [0,4,5,6] rfl ?_
   exact Rf ⟨N0+12,(N0+11),(by omega),(by omega),(by omega),rfl,rfl⟩
  ·clear H hse1
   rintro⟨s3,s4⟩ fl a σ H ⟨M1,o1,fM1_0,fM1_1,fM1_2,rfl,rfl⟩ K3 O3 hK3 hO3
   unfold s_CopyCode_L1 at H;dsimp only at H
   refine AWP_sq [0,4,5,6] fun K4 hK4=>?_
   refine S0 tok [] [0,4,5,6,17] ?_
   refine Cd (fun C2=>?_) fun C2=>?_
   ·replace H:=ifT C2 H
    refine AWP_skip (Jn hK4 ?_)
    refine AWP_sq [0,4,5,6] fun K5 hK5=>?_
    refine AWP_block (AWP_thenB ?_)
    obtain⟨v6,hv6,H⟩:=bindE H
    obtain⟨v7,hv7,H⟩:=bindE H
    obtain⟨r8,hr8,H⟩:=bindE H
    obtain⟨l9,hl9,H⟩:=bindE H
    have q1:∀σ i,buildSliceA T 39 true i 1 [(0,.agg [.int .i64 r8.Op,.int .i64 r8.Dst,.int .i64 r8.A,.int .i64 r8.B,.int .i64 r8.N])] σ=some (.fsl (encL rQuad ([r8]:List gQuad)),σ):=fun _ _=>rfl
    refine AWP_rd tok tokM [10] [11] [0,1,2,3,4,5,6,7,8,9,10,11,12] [0,4,5,6] (fun a σ=>a=[(0,.fsl (encL rQuad p0)),(4,.sl (M1+15) 0 l9.length),(5,.fsl (encL rL_I r2)),(6,.int .i64 s3)]∧σ=hp E0 [(M1+15,some ⟨48,5,encL rQuad l9⟩)] (M1+17)) (by decide) (fun K hK=>?_) ?_
    ·simp only[pickL,nthO_succ,nthO_zero]
     have e0:=nQ o1 (M1+15)
     simp -dsimp -implicitDefEqProofs [e0,ix39 hv6,ix194 hv7,q1,app39 hl9]
     refine Pc.mk (c193 hr8) ?_;try simp -dsimp -implicitDefEqProofs [e0,ix39 hv6,ix194 hv7,q1,app39 hl9]
     exact hK _ _ ⟨rfl,rfl⟩
    rintro a σ ⟨ha,rfl⟩
    refine hK5 _ _ ?_;rw[ha]
    refine Rc.mk ?_
    refine Rt0 tok [] [0,4,5,6] fun a ha=>?_
    obtain rfl:=oi H
    refine hK3 _ _ _ rfl ?_;rw[ha]
    exact Rf ⟨M1+20,(M1+15),(by omega),(by omega),(by omega),rfl,rfl⟩
   ·obtain rfl:=oi (ifF C2 H)
    refine AWP_exit (hO3 _ _ _ _ rfl ⟨rfl,?_⟩)
    refine Rc.rw (l:=[4]) (X:=[(4,.sl o1 0 s4.length)]) rfl ?_
    exact Rf ⟨M1+4,o1,(by omega),(by omega),(by omega),rfl,rfl⟩
  ·intro x a σ hx
   obtain⟨y5,rfl⟩:∃x,x=e1:=⟨_,rfl⟩
   obtain⟨rfl,b,τ,hr,M2,o2,fM2_0,fM2_1,fM2_2,rfl,rfl⟩:=hx
   (try dsimp only at H)
   show K2 _ _
   refine hK2 _ _ (Rc_ref hr ?_)
   refine Rc.mk ?_
   refine S0 tok [] [2,3] ?_
   obtain rfl:=oi H;exact AWP_ret ⟨_,rfl,4,by simp[encL_nil]⟩
theorem c194 {p0:(List gQuad)} {p1:Int} {r:Int} (H:s_l36Target p0 p1=some r):APure Tryz.prog G 194 [.fsl (encL rQuad p0),.int .i64 p1] (.int .i64 r):=by
 refine APure_fn (fun N0=>?_) (by simp)
 refine fnK tok Tryz.func194 Tryz.ntmps194 Tryz.results194 ?_
 simp only[argsA,Nat.reduceAdd,hp_next]
 unfold s_l36Target at H
 refine S0 tok [] [0,1] ?_
 refine S0 tok [] [0,1,5] ?_
 refine AWP_sq [1] fun K1 hK1=>?_
 refine S0 tok [] [0,1,5,6] ?_
 refine AWP_block (AWP_thenB ?_)
 obtain⟨e1,hse1,H⟩:=bindE H
 refine AWP_lp [0,1,5,6] (fun s a σ=>∃M1:Nat,N0≤M1∧a=[(0,.fsl (encL rQuad p0)),(1,.int .i64 p1),(5,.int .i64 s.1),(6,.int .i64 s.2)]∧σ=hp E0 [] M1) (fun e x a σ=>match e with|.inl s=>x=.exit 0∧Rc G 27 N0 (fun a σ=>∃M2:Nat,N0≤M2∧a=[(1,.int .i64 p1)]∧σ=hp E0 [] M2) (AAct.keep a [1]) σ|.inr s=>x=.ret∧∃vs,resA T σ a [.tmp 4]=some vs∧∃d,thawA (fun _=>true) σ d (tupA vs)=.int .i64 s) hse1 ?_ ?_ ?_
 ·refine Rc.kp [0,1,5,6] [(0,.fsl (encL rQuad p0)),(1,.int .i64 p1),(5,.int .i64 p1),(6,.int .i64 0)] rfl ?_
  exact Rf ⟨N0+4,(by omega),rfl,rfl⟩
 ·clear H hse1
  rintro⟨s1,s2⟩ fl a σ H ⟨M1,fM1_0,rfl,rfl⟩ K2 O2 hK2 hO2
  unfold s_l36Target_L1 at H;dsimp only at H
  refine AWP_sq [0,1,5,6] fun K3 hK3=>?_
  refine S0 tok [] [0,1,5,6,11] ?_
  refine Cd (fun C1=>?_) fun C1=>?_
  ·replace H:=ifT C1 H
   refine AWP_skip (Jn hK3 ?_)
   refine AWP_sq [0,1,5,6] fun K4 hK4=>?_
   refine AWP_block (AWP_thenB ?_)
   refine AWP_sq [0,1,5,6] fun K5 hK5=>?_
   obtain⟨v3,hv3,H⟩:=bindE H
   refine Sx tok [] [0,1,5,6,19] (by intro K k;simp -dsimp -implicitDefEqProofs [ix39 hv3];exact k) ?_
   refine Cd (fun C2=>?_) fun C2=>?_
   ·replace H:=ifT C2 H
    refine S0 tok [] [4] ?_
    obtain rfl:=oi H
    refine Kp [4] ?_
    refine AWP_ret (hO2 _ _ _ _ rfl ⟨rfl,?_⟩)
    exact⟨[.int .i64 s1],by simp,4,by simp[encL_nil]⟩
   ·replace H:=ifF C2 H
    refine AWP_skip (Jn hK5 ?_)
    refine Rt tok [] [0,1,5,6] (by intro K k;simp -dsimp -implicitDefEqProofs [ix39 hv3];exact k) fun a ha=>?_
    refine hK4 _ _ ?_;rw[ha]
    refine Rc.mk ?_
    refine Rt0 tok [] [0,1,5,6] fun a ha=>?_
    obtain rfl:=oi H
    refine hK2 _ _ _ rfl ?_;rw[ha]
    exact Rf ⟨M1+19,(by omega),rfl,rfl⟩
  ·obtain rfl:=oi (ifF C1 H)
   refine AWP_exit (hO2 _ _ _ _ rfl ⟨rfl,?_⟩)
   refine Rc.rw (l:=[1]) (X:=[(1,.int .i64 p1)]) rfl ?_
   exact Rf ⟨M1+4,(by omega),rfl,rfl⟩
 ·intro x a σ hx
  rcases e1 with⟨⟩|r0
  ·obtain⟨rfl,b,τ,hr,M2,fM2_0,rfl,rfl⟩:=hx
   (try dsimp only at H)
   show K1 _ _
   refine hK1 _ _ (Rc_ref hr ?_)
   refine Rc.mk ?_
   refine S0 tok [] [4] ?_
   obtain rfl:=oi H;exact AWP_ret ⟨_,rfl,4,by simp[encL_nil]⟩
  ·obtain⟨rfl,hx2⟩:=hx
   (try dsimp only at H)
   obtain rfl:=oi H;first|exact hx2|(simp only[List.set_set] at hx2 ⊢;exact hx2)
theorem c178 {p0:(List gQuad)} {r:(List gQuad)×Bool} (H:s_JumpCode p0=some r):APure Tryz.prog G 178 [.fsl (encL rQuad p0)] (.tup [.fsl (encL rQuad r.1),.bool r.2]):=by
 refine APure_fn (fun N0=>?_) (by simp)
 refine fnK tok Tryz.func178 Tryz.ntmps178 Tryz.results178 ?_
 simp only[argsA,Nat.reduceAdd,hp_next]
 unfold s_JumpCode at H
 refine S0 tok [] [0] ?_
 have q0:∀σ i,buildSliceA T 39 true i 0 [] σ=some (.esl,σ):=fun _ _=>rfl
 refine Sx tok [0] [0,4] (by intro K k;simp -dsimp -implicitDefEqProofs [q0];exact k) ?_
 refine AWP_sq [0,4] fun K1 hK1=>?_
 obtain⟨r1,hr1,H⟩:=bindE H
 refine Sx tok [] [0,4,10] (by intro K k;(repeat first|simp -dsimp -implicitDefEqProofs|refine(c47 hr1).app ?_);exact k) ?_
 refine Cd (fun C1=>?_) fun C1=>?_
 ·replace H:=ifT C1 H
  refine S0 tok [] [2,3] ?_
  obtain rfl:=oi H;exact AWP_ret ⟨_,rfl,4,by simp[encL_nil]⟩
 ·replace H:=ifF C1 H
  refine AWP_skip (Jn hK1 ?_)
  refine AWP_sq [4] fun K2 hK2=>?_
  refine S0 tok [] [0,4,5] ?_
  refine AWP_block (AWP_thenB ?_)
  obtain⟨e2,hse2,H⟩:=bindE H
  refine AWP_lp [0,4,5] (fun s a σ=>∃M1 o1:Nat,N0≤M1∧N0≤o1∧o1<M1∧a=[(0,.fsl (encL rQuad p0)),(4,.sl o1 0 s.2.length),(5,.int .i64 s.1)]∧σ=hp E0 [(o1,some ⟨48,5,encL rQuad s.2⟩)] M1) (fun s x a σ=>x=.exit 0∧Rc G 40 N0 (fun a σ=>∃M2 o2:Nat,N0≤M2∧N0≤o2∧o2<M2∧a=[(4,.sl o2 0 s.length)]∧σ=hp E0 [(o2,some ⟨48,5,encL rQuad s⟩)] M2) (AAct.keep a [4]) σ) hse2 ?_ ?_ ?_
  ·refine Rc.kp [0,4,5] [(0,.fsl (encL rQuad p0)),(4,.esl),(5,.int .i64 0)] rfl ?_
   refine gNilS Rc_ref 4 48 5 [(N0+8,some ⟨48,5,encL rQuad ([]:List gQuad)⟩)] [(0,.fsl (encL rQuad p0)),(4,.sl (N0+8) 0 ([]:List gQuad).length),(5,.int .i64 0)] (by simp(disch:=omega)) (by simp(disch:=omega) [encL_nil]) [0,4,5] rfl ?_
   exact Rf ⟨N0+9,(N0+8),(by omega),(by omega),(by omega),rfl,rfl⟩
  ·clear H hse2
   rintro⟨s2,s3⟩ fl a σ H ⟨M1,o1,fM1_0,fM1_1,fM1_2,rfl,rfl⟩ K3 O3 hK3 hO3
   unfold s_JumpCode_L1 at H;dsimp only at H
   refine AWP_sq [0,4,5] fun K4 hK4=>?_
   refine S0 tok [] [0,4,5,15] ?_
   refine Cd (fun C2=>?_) fun C2=>?_
   ·replace H:=ifT C2 H
    refine AWP_skip (Jn hK4 ?_)
    refine AWP_sq [0,4,5] fun K5 hK5=>?_
    refine AWP_block (AWP_thenB ?_)
    obtain⟨v5,hv5,H⟩:=bindE H
    refine Sx tok [] [0,4,5,6] (by
     intro K k
     have e0:=nQ o1 (M1+8)
     simp -dsimp -implicitDefEqProofs [e0,ix39 hv5]
     exact k) ?_
    obtain⟨j1,hj1,H⟩:=bindE H
    refine AWP_seq (AWP_named fun K6 hK6=>?_)
    have hJ1:∀a σ,Rc G 40 N0 (fun a σ=>∃M3:Nat,N0≤M3∧o1<M3∧M1+8<M3∧a=[(0,.fsl (encL rQuad p0)),(4,.sl o1 0 s3.length),(5,.int .i64 s2),(6,.ptr (M1+8) 0 0)]∧σ=hp E0 [(o1,some ⟨48,5,encL rQuad s3⟩),(M1+8,some ⟨48,5,[[.int .i64 j1.Op,.int .i64 j1.Dst,.int .i64 j1.A,.int .i64 j1.B,.int .i64 j1.N]]⟩)] M3) (a.keep [0,4,5,6]) σ→K6 a σ:=by
     rintro a σ ⟨b,τ,hr,M3,fM3_0,fM3_1,fM3_2,rfl,rfl⟩
     refine hK6 _ _ (AWP_keep [0,4,5,6] (AWP_ref hr ?_))
     obtain⟨l7,hl7,H⟩:=bindE H
     have q1:∀σ i,buildSliceA T 39 true i 1 [(0,.agg [.int .i64 j1.Op,.int .i64 j1.Dst,.int .i64 j1.A,.int .i64 j1.B,.int .i64 j1.N])] σ=some (.fsl (encL rQuad ([j1]:List gQuad)),σ):=fun _ _=>rfl
     refine Rt tok [2] [0,4,5] (by
      intro K k
      have e0:=nQ o1 (M1+8)
      have e1:=nQ o1 (M3+3)
      have e2:=nQ (M1+8) (M3+3)
      have e3:=nQ (M1+5) M3
      simp -dsimp -implicitDefEqProofs [e0,e1,e2,e3,q1,app39 hl7]
      exact k) fun a ha=>?_
     refine hK5 _ _ ?_;rw[ha]
     refine Rc.mk ?_
     refine Rt tok [] [0,4,5] (by
      intro K k
      have e0:=nQ (M1+8) (M3+3)
      have e1:=nQ (M1+5) M3
      simp -dsimp -implicitDefEqProofs [e0,e1]
      exact k) fun a ha=>?_
     obtain rfl:=oi H
     refine hK3 _ _ _ rfl ?_;rw[ha]
     exact Rc.fin (AHeap.Sub.trans (hp_skip (AHeap.Sub.refl _)) (hp_drop rfl (by simp;try omega))) ⟨M3+8,(M3+3),(by omega),(by omega),(by omega),rfl,rfl⟩
    replace H:=hj1
    obtain⟨g8,hg8,H⟩:=bindE H
    refine Sx tok [] [0,4,5,6,29] (X:=[(0,.fsl (encL rQuad p0)),(4,.sl o1 0 s3.length),(5,.int .i64 s2),(6,.ptr (M1+8) 0 0),(29,.bool g8)]) (Y:=hp E0 [(o1,some ⟨48,5,encL rQuad s3⟩),(M1+8,some ⟨48,5,[[.int .i64 v5.Op,.int .i64 v5.Dst,.int .i64 v5.A,.int .i64 v5.B,.int .i64 v5.N]]⟩)] (M1+18)) (by
     intro K k
     have e0:=nQ o1 (M1+8)
     simp -dsimp -implicitDefEqProofs [e0]
     cases hbg8:ieq v5.Op 4
     ·obtain rfl:=oi (ifF hbg8 hg8)
      try simp -dsimp -implicitDefEqProofs [e0,hbg8]
      exact k
     ·obtain rfl:=oi (ifT hbg8 hg8)
      try simp -dsimp -implicitDefEqProofs [e0,hbg8]
      exact k) ?_
    refine Cd (fun C3=>?_) fun C3=>?_
    ·replace H:=ifT C3 H
     obtain⟨r9,hr9,H⟩:=bindE H
     refine Rt tok [] [0,4,5,6] (by
      intro K k
      have e0:=nQ o1 (M1+8)
      repeat first|simp -dsimp -implicitDefEqProofs [e0]|refine(c194 hr9).app ?_
      exact k) fun a ha=>?_
     obtain rfl:=oi H
     refine hJ1 _ _ ?_;rw[ha]
     exact Rf ⟨M1+24,(by omega),(by omega),(by omega),rfl,rfl⟩
    ·replace H:=ifF C3 H
     refine AWP_skip ?_
     show K6 _ _
     refine kE [0,4,5,6] fun a' ha=>?_
     obtain rfl:=oi H
     refine hJ1 _ _ ?_;rw[ha]
     exact Rf ⟨M1+18,(by omega),(by omega),(by omega),rfl,rfl⟩
   ·obtain rfl:=oi (ifF C2 H)
    refine AWP_exit (hO3 _ _ _ _ rfl ⟨rfl,?_⟩)
    refine Rc.rw (l:=[4]) (X:=[(4,.sl o1 0 s3.length)]) rfl ?_
    exact Rf ⟨M1+4,o1,(by omega),(by omega),(by omega),rfl,rfl⟩
  ·intro x a σ hx
   obtain⟨y4,rfl⟩:∃x,x=e2:=⟨_,rfl⟩
   obtain⟨rfl,b,τ,hr,M2,o2,fM2_0,fM2_1,fM2_2,rfl,rfl⟩:=hx
   (try dsimp only at H)
   show K2 _ _
   refine hK2 _ _ (Rc_ref hr ?_)
   refine Rc.mk ?_
   refine S0 tok [] [2,3] ?_
   obtain rfl:=oi H;exact AWP_ret ⟨_,rfl,4,by simp[encL_nil]⟩
theorem c197 {p0:(List gQuad)} {p1:(List (List Bool))} {p2:Int} {r:(List Bool)} (H:s_l32After p0 p1 p2=some r):APure Tryz.prog G 197 [.fsl (encL rQuad p0),.fsl (encL rL_B p1),.int .i64 p2] (.fsl (encL rB r)):=by
 refine APure_fn (fun N0=>?_) (by simp)
 refine fnK tok Tryz.func197 Tryz.ntmps197 Tryz.results197 ?_
 simp only[argsA,Nat.reduceAdd,hp_next]
 unfold s_l32After at H
 refine S0 tok [] [0,1,2] ?_
 obtain⟨l1,hl1,H⟩:=bindE H
 refine Sx tok [] [0,1,2,7] (by intro K k;simp -dsimp -implicitDefEqProofs [mak201 hl1];exact k) ?_
 obtain⟨r2,hr2,H⟩:=bindE H
 refine Sx tok [] [1,7,8] (by intro K k;(repeat first|simp -dsimp -implicitDefEqProofs|refine(c214 hr2).app ?_);exact k) ?_
 refine AWP_sq [7] fun K1 hK1=>?_
 refine S0 tok [] [1,7,8,9] ?_
 refine AWP_block (AWP_thenB ?_)
 obtain⟨e2,hse2,H⟩:=bindE H
 refine AWP_lp [1,7,8,9] (fun s a σ=>∃M1 o1:Nat,N0≤M1∧N0≤o1∧o1<M1∧a=[(1,.fsl (encL rL_B p1)),(7,.sl o1 0 s.2.length),(8,.fsl (encL rI r2)),(9,.int .i64 s.1)]∧σ=hp E0 [(o1,some ⟨4,1,encL rB s.2⟩)] M1) (fun s x a σ=>x=.exit 0∧Rc G 45 N0 (fun a σ=>∃M2 o2:Nat,N0≤M2∧N0≤o2∧o2<M2∧a=[(7,.sl o2 0 s.length)]∧σ=hp E0 [(o2,some ⟨4,1,encL rB s⟩)] M2) (AAct.keep a [7]) σ) hse2 ?_ ?_ ?_
 ·refine Rc.kp [1,7,8,9] [(1,.fsl (encL rL_B p1)),(7,.sl (N0+1) 0 l1.length),(8,.fsl (encL rI r2)),(9,.int .i64 0)] rfl ?_
  exact Rf ⟨N0+8,(N0+1),(by omega),(by omega),(by omega),rfl,rfl⟩
 ·clear H hse2
  rintro⟨s3,s4⟩ fl a σ H ⟨M1,o1,fM1_0,fM1_1,fM1_2,rfl,rfl⟩ K2 O2 hK2 hO2
  unfold s_l32After_L1 at H;dsimp only at H
  refine AWP_sq [1,7,8,9] fun K3 hK3=>?_
  refine S0 tok [] [1,7,8,9,18] ?_
  refine Cd (fun C1=>?_) fun C1=>?_
  ·replace H:=ifT C1 H
   refine AWP_skip (Jn hK3 ?_)
   refine AWP_sq [1,7,8,9] fun K4 hK4=>?_
   refine AWP_block (AWP_thenB ?_)
   refine S0 tok [] [1,7,8,9,10] ?_
   refine AWP_block (AWP_thenB ?_)
   obtain⟨e1,hse1,H⟩:=bindE H
   refine AWP_lp [1,7,8,9,10] (fun s a σ=>∃M3 o3:Nat,N0≤M3∧N0≤o3∧o3<M3∧a=[(1,.fsl (encL rL_B p1)),(7,.sl o3 0 s.2.length),(8,.fsl (encL rI r2)),(9,.int .i64 s3),(10,.int .i64 s.1)]∧σ=hp E0 [(o3,some ⟨4,1,encL rB s.2⟩)] M3) (fun s x a σ=>x=.exit 2∧Rc G 45 N0 (fun a σ=>∃M4 o4:Nat,N0≤M4∧N0≤o4∧o4<M4∧a=[(1,.fsl (encL rL_B p1)),(7,.sl o4 0 s.length),(8,.fsl (encL rI r2)),(9,.int .i64 s3)]∧σ=hp E0 [(o4,some ⟨4,1,encL rB s⟩)] M4) (AAct.keep a [1,7,8,9]) σ) hse1 ?_ ?_ ?_
   ·refine Rc.kp [1,7,8,9,10] [(1,.fsl (encL rL_B p1)),(7,.sl o1 0 s4.length),(8,.fsl (encL rI r2)),(9,.int .i64 s3),(10,.int .i64 0)] rfl ?_
    exact Rf ⟨M1+5,o1,(by omega),(by omega),(by omega),rfl,rfl⟩
   ·clear H hse1
    rintro⟨s6,s7⟩ fl a σ H ⟨M3,o3,fM3_0,fM3_1,fM3_2,rfl,rfl⟩ K5 O5 hK5 hO5
    unfold s_l32After_L2 at H;dsimp only at H
    refine AWP_sq [1,7,8,9,10] fun K6 hK6=>?_
    refine S0 tok [] [1,7,8,9,10,22] ?_
    refine Cd (fun C2=>?_) fun C2=>?_
    ·replace H:=ifT C2 H
     refine AWP_skip (Jn hK6 ?_)
     refine AWP_sq [1,7,8,9,10] fun K7 hK7=>?_
     refine AWP_block (AWP_thenB ?_)
     obtain⟨v9,hv9,H⟩:=bindE H
     obtain⟨g13,hg13,H⟩:=bindE H
     obtain⟨l14,hl14,H⟩:=bindE H
     refine AWP_rt tok [] [1,7,8,9,10] (fun a σ=>a=[(1,.fsl (encL rL_B p1)),(7,.sl o3 0 s7.length),(8,.fsl (encL rI r2)),(9,.int .i64 s3),(10,.int .i64 s6)]∧σ=hp E0 [(o3,some ⟨4,1,encL rB l14⟩)] (M3+22)) (fun K hK=>?_) ?_
     ·skip
      simp -dsimp -implicitDefEqProofs [ixo201 hv9,(idx_lt3 hv9).2.2,ixo201 hv9,(idx_lt3 hv9).2.2,(setx_iff.1 hl14).2.symm]
      cases hbg13:v9
      ·replace hg13:=ifF hbg13 hg13
       obtain⟨v10,hv10,hg13⟩:=bindE hg13
       obtain⟨v11,hv11,hg13⟩:=bindE hg13
       obtain⟨v12,hv12,hg13⟩:=bindE hg13
       obtain rfl:=oi hg13
       try simp -dsimp -implicitDefEqProofs [ixo201 hv9,(idx_lt3 hv9).2.2,ixo201 hv9,(idx_lt3 hv9).2.2,(setx_iff.1 hl14).2.symm,hbg13,ix24 hv10,ix198 hv11,ix201 hv12]
       exact hK _ _ ⟨rfl,rfl⟩
      ·obtain rfl:=oi (ifT hbg13 hg13)
       try simp -dsimp -implicitDefEqProofs [ixo201 hv9,(idx_lt3 hv9).2.2,ixo201 hv9,(idx_lt3 hv9).2.2,(setx_iff.1 hl14).2.symm,hbg13]
       exact hK _ _ ⟨rfl,rfl⟩
     rintro a σ ⟨ha,rfl⟩
     (try rw[← setx_len hl14] at ha);(try rw[← setx_len hl14])
     refine hK7 _ _ ?_;rw[ha]
     refine Rc.mk ?_
     refine Rt0 tok [] [1,7,8,9,10] fun a ha=>?_
     obtain rfl:=oi H
     refine hK5 _ _ _ rfl ?_;rw[ha]
     exact Rf ⟨M3+25,o3,(by omega),(by omega),(by omega),rfl,rfl⟩
    ·obtain rfl:=oi (ifF C2 H)
     refine AWP_exit (hO5 _ _ _ _ rfl ⟨rfl,?_⟩)
     refine Rc.rw (l:=[1,7,8,9]) (X:=[(1,.fsl (encL rL_B p1)),(7,.sl o3 0 s7.length),(8,.fsl (encL rI r2)),(9,.int .i64 s3)]) rfl ?_
     exact Rf ⟨M3+2,o3,(by omega),(by omega),(by omega),rfl,rfl⟩
   ·intro x a σ hx
    obtain⟨y8,rfl⟩:∃x,x=e1:=⟨_,rfl⟩
    obtain⟨rfl,b,τ,hr,M4,o4,fM4_0,fM4_1,fM4_2,rfl,rfl⟩:=hx
    (try dsimp only at H)
    show K4 _ _
    refine hK4 _ _ (Rc_ref hr ?_)
    refine Rc.mk ?_
    refine Rt0 tok [] [1,7,8,9] fun a ha=>?_
    obtain rfl:=oi H
    refine hK2 _ _ _ rfl ?_;rw[ha]
    exact Rf ⟨M4+3,o4,(by omega),(by omega),(by omega),rfl,rfl⟩
  ·obtain rfl:=oi (ifF C1 H)
   refine AWP_exit (hO2 _ _ _ _ rfl ⟨rfl,?_⟩)
   refine Rc.rw (l:=[7]) (X:=[(7,.sl o1 0 s4.length)]) rfl ?_
   exact Rf ⟨M1+4,o1,(by omega),(by omega),(by omega),rfl,rfl⟩
 ·intro x a σ hx
  obtain⟨y5,rfl⟩:∃x,x=e2:=⟨_,rfl⟩
  obtain⟨rfl,b,τ,hr,M2,o2,fM2_0,fM2_1,fM2_2,rfl,rfl⟩:=hx
  (try dsimp only at H)
  show K1 _ _
  refine hK1 _ _ (Rc_ref hr ?_)
  refine Rc.mk ?_
  refine S0 tok [] [6] ?_
  obtain rfl:=oi H;exact AWP_ret ⟨_,rfl,4,by simp[encL_nil]⟩
theorem c230 {p0:gQuad} {r:(List Int)} (H:s_QuadUses p0=some r):APure Tryz.prog G 230 [.agg [.int .i64 p0.Op,.int .i64 p0.Dst,.int .i64 p0.A,.int .i64 p0.B,.int .i64 p0.N]] (.fsl (encL rI r)):=by
 refine APure_fn (fun N0=>?_) (by simp)
 refine fnK tok Tryz.func230 Tryz.ntmps230 Tryz.results230 ?_
 simp only[argsA,Nat.reduceAdd,hp_next]
 unfold s_QuadUses at H
 refine S0 tok [0] [1] ?_
 refine AWP_sq [1] fun K1 hK1=>?_
 obtain⟨r1,hr1,H⟩:=bindE H
 refine Sx tok [] [1,5] (by intro K k;(repeat first|simp -dsimp -implicitDefEqProofs|refine(c94 hr1).app ?_);exact k) ?_
 refine Cd (fun C1=>?_) fun C1=>?_
 ·replace H:=ifT C1 H
  have q0:∀σ i,buildSliceA T 24 true i 0 [] σ=some (.esl,σ):=fun _ _=>rfl
  refine Sx tok [0] [2] (by intro K k;simp -dsimp -implicitDefEqProofs [q0];exact k) ?_
  obtain rfl:=oi H;exact AWP_ret ⟨_,rfl,4,by simp[encL_nil]⟩
 ·replace H:=ifF C1 H
  refine AWP_skip (Jn hK1 ?_)
  refine AWP_sq [] fun K2 hK2=>?_
  refine S0 tok [] [1,8] ?_
  refine AWP_block (AWP_thenB ?_)
  obtain⟨j1,hj1,H⟩:=bindE H
  refine AWP_seq (AWP_named fun K4 hK4=>?_)
  have hJ1:∀a σ,Rc G 39 N0 (fun a σ=>∃M1:Nat,N0≤M1∧a=[(1,.fptr [.int .i64 p0.Op,.int .i64 p0.Dst,.int .i64 p0.A,.int .i64 p0.B,.int .i64 p0.N] 0),(8,.int .i64 p0.Op),(9,.bool j1)]∧σ=hp E0 [] M1) (a.keep [1,8,9]) σ→K4 a σ:=by
   rintro a σ ⟨b,τ,hr,M1,fM1_0,rfl,rfl⟩
   refine hK4 _ _ (AWP_keep [1,8,9] (AWP_ref hr ?_))
   refine Cd (fun C2=>?_) fun C2=>?_
   ·replace H:=ifT C2 H
    have q1:∀σ i,buildSliceA T 24 true i 1 [(0,.int .i64 p0.A)] σ=some (.fsl (encL rI ([p0.A]:List Int)),σ):=fun _ _=>rfl
    refine Sx tok [2] [2] (by intro K k;simp -dsimp -implicitDefEqProofs [q1];exact k) ?_
    obtain rfl:=oi H;exact AWP_ret ⟨_,rfl,4,by simp[encL_nil]⟩
   ·replace H:=ifF C2 H
    refine S0 tok [] [1,17] ?_
    refine Cd (fun C3=>?_) fun C3=>?_
    ·replace H:=ifT C3 H
     refine AWP_sq [1] fun K3 hK3=>?_
     refine S0 tok [] [1,23] ?_
     refine Cd (fun C4=>?_) fun C4=>?_
     ·replace H:=ifT C4 H
      have q2:∀σ i,buildSliceA T 24 true i 1 [(0,.int .i64 p0.A)] σ=some (.fsl (encL rI ([p0.A]:List Int)),σ):=fun _ _=>rfl
      refine Sx tok [2] [2] (by intro K k;simp -dsimp -implicitDefEqProofs [q2];exact k) ?_
      obtain rfl:=oi H;exact AWP_ret ⟨_,rfl,4,by simp[encL_nil]⟩
     ·replace H:=ifF C4 H
      refine AWP_skip (Jn hK3 ?_)
      have q3:∀σ i,buildSliceA T 24 true i 2 [(0,.int .i64 (imin p0.A p0.B)),(1,.int .i64 (imax p0.A p0.B))] σ=some (.fsl (encL rI ([imin p0.A p0.B,imax p0.A p0.B]:List Int)),σ):=fun _ _=>rfl
      refine Sx tok [10] [2] (by intro K k;simp -dsimp -implicitDefEqProofs [q3];exact k) ?_
      obtain rfl:=oi H;exact AWP_ret ⟨_,rfl,4,by simp[encL_nil]⟩
    ·replace H:=ifF C3 H
     refine AWP_skip (Jn hK2 ?_)
     have q4:∀σ i,buildSliceA T 24 true i 0 [] σ=some (.esl,σ):=fun _ _=>rfl
     refine Sx tok [0] [2] (by intro K k;simp -dsimp -implicitDefEqProofs [q4];exact k) ?_
     obtain rfl:=oi H;exact AWP_ret ⟨_,rfl,4,by simp[encL_nil]⟩
  replace H:=hj1
  refine S0 tok [] [1,8,9] ?_
  refine Cd (fun C5=>?_) fun C5=>?_
  ·replace H:=ifT C5 H
   refine AWP_skip ?_
   show K4 _ _
   refine kE [1,8,9] fun a' ha=>?_
   obtain rfl:=oi H
   refine hJ1 _ _ ?_;rw[ha]
   exact Rf ⟨N0+9,(by omega),rfl,rfl⟩
  ·replace H:=ifF C5 H
   refine S0 tok [] [1,8,9] ?_
   refine Cd (fun C6=>?_) fun C6=>?_
   ·replace H:=ifT C6 H
    refine AWP_skip ?_
    show K4 _ _
    refine kE [1,8,9] fun a' ha=>?_
    obtain rfl:=oi H
    refine hJ1 _ _ ?_;rw[ha]
    exact Rf ⟨N0+11,(by omega),rfl,rfl⟩
   ·replace H:=ifF C6 H
    refine S0 tok [] [1,8,9] ?_
    refine Cd (fun C7=>?_) fun C7=>?_
    ·replace H:=ifT C7 H
     refine AWP_skip ?_
     show K4 _ _
     refine kE [1,8,9] fun a' ha=>?_
     obtain rfl:=oi H
     refine hJ1 _ _ ?_;rw[ha]
     exact Rf ⟨N0+13,(by omega),rfl,rfl⟩
    ·replace H:=ifF C7 H
     refine Rt0 tok [] [1,8,9] fun a ha=>?_
     obtain rfl:=oi H
     refine hJ1 _ _ ?_;rw[ha]
     exact Rf ⟨N0+15,(by omega),rfl,rfl⟩
theorem c226 {p0:(List Bool)} {p1:(List Bool)} {r:Bool} (H:s_l32Same p0 p1=some r):APure Tryz.prog G 226 [.fsl (encL rB p0),.fsl (encL rB p1)] (.bool r):=by
 refine APure_fn (fun N0=>?_) (by simp)
 refine fnK tok Tryz.func226 Tryz.ntmps226 Tryz.results226 ?_
 simp only[argsA,Nat.reduceAdd,hp_next]
 unfold s_l32Same at H
 refine S0 tok [] [0,1] ?_
 refine AWP_sq [0,1] fun K1 hK1=>?_
 refine S0 tok [] [0,1,5] ?_
 refine AWP_block (AWP_thenB ?_)
 obtain⟨e1,hse1,H⟩:=bindE H
 refine AWP_lp [0,1,5] (fun s a σ=>∃M1:Nat,N0≤M1∧a=[(0,.fsl (encL rB p0)),(1,.fsl (encL rB p1)),(5,.int .i64 s)]∧σ=hp E0 [] M1) (fun e x a σ=>match e with|.inl s=>x=.exit 0∧Rc G 26 N0 (fun a σ=>∃M2:Nat,N0≤M2∧a=[(0,.fsl (encL rB p0)),(1,.fsl (encL rB p1))]∧σ=hp E0 [] M2) (AAct.keep a [0,1]) σ|.inr s=>x=.ret∧∃vs,resA T σ a [.tmp 4]=some vs∧∃d,thawA (fun _=>true) σ d (tupA vs)=.bool s) hse1 ?_ ?_ ?_
 ·refine Rc.kp [0,1,5] [(0,.fsl (encL rB p0)),(1,.fsl (encL rB p1)),(5,.int .i64 0)] rfl ?_
  exact Rf ⟨N0+2,(by omega),rfl,rfl⟩
 ·clear H hse1
  rintro s1 fl a σ H ⟨M1,fM1_0,rfl,rfl⟩ K2 O2 hK2 hO2
  unfold s_l32Same_L1 at H;dsimp only at H
  refine AWP_sq [0,1,5] fun K3 hK3=>?_
  refine S0 tok [] [0,1,5,9] ?_
  refine Cd (fun C1=>?_) fun C1=>?_
  ·replace H:=ifT C1 H
   refine AWP_skip (Jn hK3 ?_)
   refine AWP_sq [0,1,5] fun K4 hK4=>?_
   refine AWP_block (AWP_thenB ?_)
   obtain⟨v2,hv2,H⟩:=bindE H
   obtain⟨v3,hv3,H⟩:=bindE H
   refine Sd tok tokM [] [] [0,1,2,3,4,5,6,7,8] [0,1,5,20] (by
    intro K k
    simp only[pickL,nthO_succ,nthO_zero]
    simp -dsimp -implicitDefEqProofs [ix201 hv2,ix201 hv3]
    exact k) ?_
   refine Cd (fun C2=>?_) fun C2=>?_
   ·replace H:=ifT C2 H
    refine S0 tok [] [4] ?_
    obtain rfl:=oi H
    refine Kp [4] ?_
    refine AWP_ret (hO2 _ _ _ _ rfl ⟨rfl,?_⟩)
    exact⟨[.bool false],by simp,4,by simp[encL_nil]⟩
   ·replace H:=ifF C2 H
    refine AWP_skip (Jn hK4 ?_)
    refine Rt0 tok [] [0,1,5] fun a ha=>?_
    obtain rfl:=oi H
    refine hK2 _ _ _ rfl ?_;rw[ha]
    exact Rf ⟨M1+16,(by omega),rfl,rfl⟩
  ·obtain rfl:=oi (ifF C1 H)
   refine AWP_exit (hO2 _ _ _ _ rfl ⟨rfl,?_⟩)
   refine Rc.rw (l:=[0,1]) (X:=[(0,.fsl (encL rB p0)),(1,.fsl (encL rB p1))]) rfl ?_
   exact Rf ⟨M1+4,(by omega),rfl,rfl⟩
 ·intro x a σ hx
  rcases e1 with⟨⟩|r0
  ·obtain⟨rfl,b,τ,hr,M2,fM2_0,rfl,rfl⟩:=hx
   (try dsimp only at H)
   show K1 _ _
   refine hK1 _ _ (Rc_ref hr ?_)
   refine Rc.mk ?_
   refine S0 tok [] [4] ?_
   obtain rfl:=oi H;exact AWP_ret ⟨_,rfl,4,by simp[encL_nil]⟩
  ·obtain⟨rfl,hx2⟩:=hx
   (try dsimp only at H)
   obtain rfl:=oi H;first|exact hx2|(simp only[List.set_set] at hx2 ⊢;exact hx2)
theorem c197_o {p0:(List gQuad)} {p1:(List (List Bool))} {p2:Int} {r:(List Bool)} (H:s_l32After_o p0 p1 p2=some r) {σ:AHeap}:ACalls Tryz.prog G 197 [.fsl (encL rQuad p0),.fsl (encL rL_B p1),.int .i64 p2] σ (fun v σ'=>∃M n0:Nat,σ.next≤M∧σ.next≤n0∧n0<M∧v=.sl n0 0 r.length∧σ'=hp σ.objs [(n0,some ⟨4,1,encL rB r⟩)] M):=by
 refine ACalls_fr (L:=[]) (Q1:=fun v σ'=>∃M n0:Nat,σ.next≤M∧σ.next≤n0∧n0<M∧v=.sl n0 0 r.length∧σ'=hp E0 [(n0,some ⟨4,1,encL rB r⟩)] M) (by simp[]) (fun hlt=>?_) ?_ ⟨_,Tryz.func197,rfl,rfl⟩
 rotate_left
 ·rintro v σ1 ⟨M,n0,h0,h1,h2,rfl,rfl⟩
  exact⟨_,M,rfl,by simp,by simp;try omega,M,n0,h0,h1,h2,rfl,rfl⟩
 generalize σ.next=N0 at hlt ⊢
 refine fnK tok Tryz.func197 Tryz.ntmps197 Tryz.results197 ?_
 simp only[argsA,Nat.reduceAdd,hp_next]
 unfold s_l32After_o at H
 refine S0 tok [] [0,1,2] ?_
 obtain⟨l1,hl1,H⟩:=bindE H
 refine Sx tok [] [0,1,2,7] (by intro K k;simp -dsimp -implicitDefEqProofs [mak201 hl1];exact k) ?_
 obtain⟨r2,hr2,H⟩:=bindE H
 refine Sx tok [] [1,7,8] (by intro K k;(repeat first|simp -dsimp -implicitDefEqProofs|refine(c214 hr2).app ?_);exact k) ?_
 refine AWP_sq [7] fun K1 hK1=>?_
 refine S0 tok [] [1,7,8,9] ?_
 refine AWP_block (AWP_thenB ?_)
 obtain⟨e2,hse2,H⟩:=bindE H
 refine AWP_lp [1,7,8,9] (fun s a σ=>∃M1 o1:Nat,N0≤M1∧N0≤o1∧o1<M1∧a=[(1,.fsl (encL rL_B p1)),(7,.sl o1 0 s.2.length),(8,.fsl (encL rI r2)),(9,.int .i64 s.1)]∧σ=hp E0 [(o1,some ⟨4,1,encL rB s.2⟩)] M1) (fun s x a σ=>x=.exit 0∧Rc G 45 N0 (fun a σ=>∃M2 o2:Nat,N0≤M2∧N0≤o2∧o2<M2∧a=[(7,.sl o2 0 s.length)]∧σ=hp E0 [(o2,some ⟨4,1,encL rB s⟩)] M2) (AAct.keep a [7]) σ) hse2 ?_ ?_ ?_
 ·refine Rc.kp [1,7,8,9] [(1,.fsl (encL rL_B p1)),(7,.sl (N0+1) 0 l1.length),(8,.fsl (encL rI r2)),(9,.int .i64 0)] rfl ?_
  exact Rf ⟨N0+8,(N0+1),(by omega),(by omega),(by omega),rfl,rfl⟩
 ·clear H hse2
  rintro⟨s3,s4⟩ fl a σ H ⟨M1,o1,fM1_0,fM1_1,fM1_2,rfl,rfl⟩ K2 O2 hK2 hO2
  unfold s_l32After_o_L1 at H;dsimp only at H
  refine AWP_sq [1,7,8,9] fun K3 hK3=>?_
  refine S0 tok [] [1,7,8,9,18] ?_
  refine Cd (fun C1=>?_) fun C1=>?_
  ·replace H:=ifT C1 H
   refine AWP_skip (Jn hK3 ?_)
   refine AWP_sq [1,7,8,9] fun K4 hK4=>?_
   refine AWP_block (AWP_thenB ?_)
   refine S0 tok [] [1,7,8,9,10] ?_
   refine AWP_block (AWP_thenB ?_)
   obtain⟨e1,hse1,H⟩:=bindE H
   refine AWP_lp [1,7,8,9,10] (fun s a σ=>∃M3 o3:Nat,N0≤M3∧N0≤o3∧o3<M3∧a=[(1,.fsl (encL rL_B p1)),(7,.sl o3 0 s.2.length),(8,.fsl (encL rI r2)),(9,.int .i64 s3),(10,.int .i64 s.1)]∧σ=hp E0 [(o3,some ⟨4,1,encL rB s.2⟩)] M3) (fun s x a σ=>x=.exit 2∧Rc G 45 N0 (fun a σ=>∃M4 o4:Nat,N0≤M4∧N0≤o4∧o4<M4∧a=[(1,.fsl (encL rL_B p1)),(7,.sl o4 0 s.length),(8,.fsl (encL rI r2)),(9,.int .i64 s3)]∧σ=hp E0 [(o4,some ⟨4,1,encL rB s⟩)] M4) (AAct.keep a [1,7,8,9]) σ) hse1 ?_ ?_ ?_
   ·refine Rc.kp [1,7,8,9,10] [(1,.fsl (encL rL_B p1)),(7,.sl o1 0 s4.length),(8,.fsl (encL rI r2)),(9,.int .i64 s3),(10,.int .i64 0)] rfl ?_
    exact Rf ⟨M1+5,o1,(by omega),(by omega),(by omega),rfl,rfl⟩
   ·clear H hse1
    rintro⟨s6,s7⟩ fl a σ H ⟨M3,o3,fM3_0,fM3_1,fM3_2,rfl,rfl⟩ K5 O5 hK5 hO5
    unfold s_l32After_o_L2 at H;dsimp only at H
    refine AWP_sq [1,7,8,9,10] fun K6 hK6=>?_
    refine S0 tok [] [1,7,8,9,10,22] ?_
    refine Cd (fun C2=>?_) fun C2=>?_
    ·replace H:=ifT C2 H
     refine AWP_skip (Jn hK6 ?_)
     refine AWP_sq [1,7,8,9,10] fun K7 hK7=>?_
     refine AWP_block (AWP_thenB ?_)
     obtain⟨v9,hv9,H⟩:=bindE H
     obtain⟨g13,hg13,H⟩:=bindE H
     obtain⟨l14,hl14,H⟩:=bindE H
     refine AWP_rt tok [] [1,7,8,9,10] (fun a σ=>a=[(1,.fsl (encL rL_B p1)),(7,.sl o3 0 s7.length),(8,.fsl (encL rI r2)),(9,.int .i64 s3),(10,.int .i64 s6)]∧σ=hp E0 [(o3,some ⟨4,1,encL rB l14⟩)] (M3+22)) (fun K hK=>?_) ?_
     ·skip
      simp -dsimp -implicitDefEqProofs [ixo201 hv9,(idx_lt3 hv9).2.2,ixo201 hv9,(idx_lt3 hv9).2.2,(setx_iff.1 hl14).2.symm]
      cases hbg13:v9
      ·replace hg13:=ifF hbg13 hg13
       obtain⟨v10,hv10,hg13⟩:=bindE hg13
       obtain⟨v11,hv11,hg13⟩:=bindE hg13
       obtain⟨v12,hv12,hg13⟩:=bindE hg13
       obtain rfl:=oi hg13
       try simp -dsimp -implicitDefEqProofs [ixo201 hv9,(idx_lt3 hv9).2.2,ixo201 hv9,(idx_lt3 hv9).2.2,(setx_iff.1 hl14).2.symm,hbg13,ix24 hv10,ix198 hv11,ix201 hv12]
       exact hK _ _ ⟨rfl,rfl⟩
      ·obtain rfl:=oi (ifT hbg13 hg13)
       try simp -dsimp -implicitDefEqProofs [ixo201 hv9,(idx_lt3 hv9).2.2,ixo201 hv9,(idx_lt3 hv9).2.2,(setx_iff.1 hl14).2.symm,hbg13]
       exact hK _ _ ⟨rfl,rfl⟩
     rintro a σ ⟨ha,rfl⟩
     (try rw[← setx_len hl14] at ha);(try rw[← setx_len hl14])
     refine hK7 _ _ ?_;rw[ha]
     refine Rc.mk ?_
     refine Rt0 tok [] [1,7,8,9,10] fun a ha=>?_
     obtain rfl:=oi H
     refine hK5 _ _ _ rfl ?_;rw[ha]
     exact Rf ⟨M3+25,o3,(by omega),(by omega),(by omega),rfl,rfl⟩
    ·obtain rfl:=oi (ifF C2 H)
     refine AWP_exit (hO5 _ _ _ _ rfl ⟨rfl,?_⟩)
     refine Rc.rw (l:=[1,7,8,9]) (X:=[(1,.fsl (encL rL_B p1)),(7,.sl o3 0 s7.length),(8,.fsl (encL rI r2)),(9,.int .i64 s3)]) rfl ?_
     exact Rf ⟨M3+2,o3,(by omega),(by omega),(by omega),rfl,rfl⟩
   ·intro x a σ hx
    obtain⟨y8,rfl⟩:∃x,x=e1:=⟨_,rfl⟩
    obtain⟨rfl,b,τ,hr,M4,o4,fM4_0,fM4_1,fM4_2,rfl,rfl⟩:=hx
    (try dsimp only at H)
    show K4 _ _
    refine hK4 _ _ (Rc_ref hr ?_)
    refine Rc.mk ?_
    refine Rt0 tok [] [1,7,8,9] fun a ha=>?_
    obtain rfl:=oi H
    refine hK2 _ _ _ rfl ?_;rw[ha]
    exact Rf ⟨M4+3,o4,(by omega),(by omega),(by omega),rfl,rfl⟩
  ·obtain rfl:=oi (ifF C1 H)
   refine AWP_exit (hO2 _ _ _ _ rfl ⟨rfl,?_⟩)
   refine Rc.rw (l:=[7]) (X:=[(7,.sl o1 0 s4.length)]) rfl ?_
   exact Rf ⟨M1+4,o1,(by omega),(by omega),(by omega),rfl,rfl⟩
 ·intro x a σ hx
  obtain⟨y5,rfl⟩:∃x,x=e2:=⟨_,rfl⟩
  obtain⟨rfl,b,τ,hr,M2,o2,fM2_0,fM2_1,fM2_2,rfl,rfl⟩:=hx
  (try dsimp only at H)
  show K1 _ _
  refine hK1 _ _ (Rc_ref hr ?_)
  refine Rc.mk ?_
  refine S0 tok [] [6] ?_
  obtain rfl:=oi H
  refine Kp [6] ?_
  refine AWP_ret ?_
  refine⟨[.sl o2 0 y5.length],by simp,M2+2,o2,by omega,by omega,by omega,?_,?_⟩
  ·simp[encL_nil]
  ·first|rfl|simp[List.set_set]
theorem c197_o_b {p0:(List gQuad)} {p1:(List (List Bool))} {p2:Int} {r:(List Bool)} (H:s_l32After_o p0 p1 p2=some r) {σ:AHeap} {args:List AV} (hy:args.map (thawA (fun _=>true) σ 8)=[.fsl (encL rQuad p0),.fsl (encL rL_B p1),.int .i64 p2]):ACalls Tryz.prog G 197 args σ (fun v σ'=>∃M n0:Nat,σ.next≤M∧σ.next≤n0∧n0<M∧v=.sl n0 0 r.length∧σ'=hp σ.objs [(n0,some ⟨4,1,encL rB r⟩)] M):=by
 refine borrowQ 8 8 (c197_o (σ:=⟨E0,σ.next⟩) H) hy ?_
 rintro _ _ ⟨M,n0,h0,h1,h2,rfl,rfl⟩
 refine⟨_,M,rfl,by simp[AV.rnf,AV.simp1],fun p hp ob ho=>?_,by simp,M,n0,h0,h1,h2,rfl,rfl⟩
 simp only[List.mem_cons,List.not_mem_nil,or_false] at hp
 rcases hp with rfl<;>(cases ho;first|exact encL_nf (fun x=>nf_rB 7 x) _|simp[AV.nf,AV.simp1])
theorem c225_o {p0:gQuad} {p1:(List Bool)} {r:(List Bool)} (H:s_l32Before_o p0 p1=some r) {σ:AHeap}:ACalls Tryz.prog G 225 [.agg [.int .i64 p0.Op,.int .i64 p0.Dst,.int .i64 p0.A,.int .i64 p0.B,.int .i64 p0.N],.fsl (encL rB p1)] σ (fun v σ'=>∃M n0:Nat,σ.next≤M∧σ.next≤n0∧n0<M∧v=.sl n0 0 r.length∧σ'=hp σ.objs [(n0,some ⟨4,1,encL rB r⟩)] M):=by
 refine ACalls_fr (L:=[]) (Q1:=fun v σ'=>∃M n0:Nat,σ.next≤M∧σ.next≤n0∧n0<M∧v=.sl n0 0 r.length∧σ'=hp E0 [(n0,some ⟨4,1,encL rB r⟩)] M) (by simp[]) (fun hlt=>?_) ?_ ⟨_,Tryz.func225,rfl,rfl⟩
 rotate_left
 ·rintro v σ1 ⟨M,n0,h0,h1,h2,rfl,rfl⟩
  exact⟨_,M,rfl,by simp,by simp;try omega,M,n0,h0,h1,h2,rfl,rfl⟩
 generalize σ.next=N0 at hlt ⊢
 refine fnK tok Tryz.func225 Tryz.ntmps225 Tryz.results225 ?_
 simp only[argsA,Nat.reduceAdd,hp_next]
 unfold s_l32Before_o at H
 refine S0 tok [0] [1,2] ?_
 obtain⟨l1,hl1,H⟩:=bindE H
 have q0:∀σ i,buildSliceA T 201 true i 0 [] σ=some (.esl,σ):=fun _ _=>rfl
 refine Sx tok [0] [2,5] (by intro K k;simp -dsimp -implicitDefEqProofs [q0,appe201 hl1];exact k) ?_
 obtain⟨j1,hj1,H⟩:=bindE H
 refine AWP_seq (AWP_named fun K5 hK5=>?_)
 have hJ1:∀a σ,Rc G 33 N0 (fun a σ=>∃M1:Nat,N0≤M1∧N0+4<M1∧a=[(2,.fptr [.int .i64 p0.Op,.int .i64 p0.Dst,.int .i64 p0.A,.int .i64 p0.B,.int .i64 p0.N] 0),(5,.sl (N0+4) 0 j1.length)]∧σ=hp E0 [(N0+4,some ⟨4,1,encL rB j1⟩)] M1) (a.keep [2,5]) σ→K5 a σ:=by
  rintro a σ ⟨b,τ,hr,M1,fM1_0,fM1_1,rfl,rfl⟩
  refine hK5 _ _ (AWP_keep [2,5] (AWP_ref hr ?_))
  obtain⟨r3,hr3,H⟩:=bindE H
  refine Sx tok [] [5,6] (by intro K k;(repeat first|simp -dsimp -implicitDefEqProofs|refine(c230 hr3).app ?_);exact k) ?_
  refine AWP_sq [5] fun K1 hK1=>?_
  refine S0 tok [] [5,6,7] ?_
  refine AWP_block (AWP_thenB ?_)
  obtain⟨e2,hse2,H⟩:=bindE H
  refine AWP_lp [5,6,7] (fun s a σ=>∃M2 o1:Nat,N0≤M2∧N0≤o1∧o1<M2∧a=[(5,.sl o1 0 s.2.length),(6,.fsl (encL rI r3)),(7,.int .i64 s.1)]∧σ=hp E0 [(o1,some ⟨4,1,encL rB s.2⟩)] M2) (fun s x a σ=>x=.exit 0∧Rc G 33 N0 (fun a σ=>∃M3 o2:Nat,N0≤M3∧N0≤o2∧o2<M3∧a=[(5,.sl o2 0 s.length)]∧σ=hp E0 [(o2,some ⟨4,1,encL rB s⟩)] M3) (AAct.keep a [5]) σ) hse2 ?_ ?_ ?_
  ·refine Rc.kp [5,6,7] [(5,.sl (N0+4) 0 j1.length),(6,.fsl (encL rI r3)),(7,.int .i64 0)] rfl ?_
   exact Rf ⟨M1+4,(N0+4),(by omega),(by omega),(by omega),rfl,rfl⟩
  ·clear H hse2
   rintro⟨s4,s5⟩ fl a σ H ⟨M2,o1,fM2_0,fM2_1,fM2_2,rfl,rfl⟩ K2 O2 hK2 hO2
   unfold s_l32Before_o_L1 at H;dsimp only at H
   refine AWP_sq [5,6,7] fun K3 hK3=>?_
   refine S0 tok [] [5,6,7,23] ?_
   refine Cd (fun C1=>?_) fun C1=>?_
   ·replace H:=ifT C1 H
    refine AWP_skip (Jn hK3 ?_)
    refine AWP_sq [5,6,7] fun K4 hK4=>?_
    refine AWP_block (AWP_thenB ?_)
    obtain⟨v7,hv7,H⟩:=bindE H
    obtain⟨v8,hv8,H⟩:=bindE H
    obtain⟨l9,hl9,H⟩:=bindE H
    refine Rt tok [] [5,6,7] (by intro K k;simp -dsimp -implicitDefEqProofs [ix24 hv7,ixo201 hv8,(idx_lt3 hv8).2.2,(setx_iff.1 hl9).2.symm];exact k) fun a ha=>?_
    (try rw[← setx_len hl9] at ha);(try rw[← setx_len hl9])
    refine hK4 _ _ ?_;rw[ha]
    refine Rc.mk ?_
    refine Rt0 tok [] [5,6,7] fun a ha=>?_
    obtain rfl:=oi H
    refine hK2 _ _ _ rfl ?_;rw[ha]
    exact Rf ⟨M2+14,o1,(by omega),(by omega),(by omega),rfl,rfl⟩
   ·obtain rfl:=oi (ifF C1 H)
    refine AWP_exit (hO2 _ _ _ _ rfl ⟨rfl,?_⟩)
    refine Rc.rw (l:=[5]) (X:=[(5,.sl o1 0 s5.length)]) rfl ?_
    exact Rf ⟨M2+4,o1,(by omega),(by omega),(by omega),rfl,rfl⟩
  ·intro x a σ hx
   obtain⟨y6,rfl⟩:∃x,x=e2:=⟨_,rfl⟩
   obtain⟨rfl,b,τ,hr,M3,o2,fM3_0,fM3_1,fM3_2,rfl,rfl⟩:=hx
   (try dsimp only at H)
   show K1 _ _
   refine hK1 _ _ (Rc_ref hr ?_)
   refine Rc.mk ?_
   refine S0 tok [] [4] ?_
   obtain rfl:=oi H
   refine Kp [4] ?_
   refine AWP_ret ?_
   refine⟨[.sl o2 0 y6.length],by simp,M3+2,o2,by omega,by omega,by omega,?_,?_⟩
   ·simp[encL_nil]
   ·first|rfl|simp[List.set_set]
 replace H:=hj1
 obtain⟨r10,hr10,H⟩:=bindE H
 refine Sx tok [] [2,5,13] (by intro K k;(repeat first|simp -dsimp -implicitDefEqProofs|refine(c229 hr10).app ?_);exact k) ?_
 refine Cd (fun C2=>?_) fun C2=>?_
 ·replace H:=ifT C2 H
  obtain⟨v11,hv11,H⟩:=bindE H
  obtain⟨l12,hl12,H⟩:=bindE H
  refine Rt tok [] [2,5] (by intro K k;(repeat first|simp -dsimp -implicitDefEqProofs [ixo201 hv11,(idx_lt3 hv11).2.2,(setx_iff.1 hl12).2.symm]|refine(c229 hr10).app ?_);exact k) fun a ha=>?_
  (try rw[← setx_len hl12] at ha);(try rw[← setx_len hl12])
  obtain rfl:=oi H
  refine hJ1 _ _ ?_;rw[ha]
  exact Rf ⟨N0+14,(by omega),(by omega),rfl,rfl⟩
 ·replace H:=ifF C2 H
  refine AWP_skip ?_
  show K5 _ _
  refine kE [2,5] fun a' ha=>?_
  obtain rfl:=oi H
  refine hJ1 _ _ ?_;rw[ha]
  exact Rf ⟨N0+9,(by omega),(by omega),rfl,rfl⟩
theorem c225_o_b {p0:gQuad} {p1:(List Bool)} {r:(List Bool)} (H:s_l32Before_o p0 p1=some r) {σ:AHeap} {args:List AV} (hy:args.map (thawA (fun _=>true) σ 8)=[.agg [.int .i64 p0.Op,.int .i64 p0.Dst,.int .i64 p0.A,.int .i64 p0.B,.int .i64 p0.N],.fsl (encL rB p1)]):ACalls Tryz.prog G 225 args σ (fun v σ'=>∃M n0:Nat,σ.next≤M∧σ.next≤n0∧n0<M∧v=.sl n0 0 r.length∧σ'=hp σ.objs [(n0,some ⟨4,1,encL rB r⟩)] M):=by
 refine borrowQ 8 8 (c225_o (σ:=⟨E0,σ.next⟩) H) hy ?_
 rintro _ _ ⟨M,n0,h0,h1,h2,rfl,rfl⟩
 refine⟨_,M,rfl,by simp[AV.rnf,AV.simp1],fun p hp ob ho=>?_,by simp,M,n0,h0,h1,h2,rfl,rfl⟩
 simp only[List.mem_cons,List.not_mem_nil,or_false] at hp
 rcases hp with rfl<;>(cases ho;first|exact encL_nf (fun x=>nf_rB 7 x) _|simp[AV.nf,AV.simp1])
theorem c213 {p0:(List gQuad)} {p1:(List (List Bool))} {r:Bool×(List (List Bool))} (H:s_l32Round p0 p1=some r) {σ:AHeap} {w1:Nat} (q1:σ.objs w1=some ⟨201,1,encL rL_B_o p1⟩):ACalls Tryz.prog G 213 [.fsl (encL rQuad p0),.sl w1 0 p1.length] σ (fun v σ'=>∃M:Nat,σ.next≤M∧r.2.length=p1.length∧v=.bool r.1∧σ'=hp σ.objs [(w1,some ⟨201,1,encL rL_B_o r.2⟩)] M):=by
 refine ACalls_fr (L:=[(w1,some ⟨201,1,encL rL_B_o p1⟩)]) (Q1:=fun v σ'=>∃M:Nat,σ.next≤M∧r.2.length=p1.length∧v=.bool r.1∧σ'=hp E0 [(w1,some ⟨201,1,encL rL_B_o r.2⟩)] M) (by simp[q1]) (fun hlt=>?_) ?_ ⟨_,Tryz.func213,rfl,rfl⟩
 rotate_left
 ·rintro v σ1 ⟨M,h0,h1,rfl,rfl⟩
  exact⟨_,M,rfl,by simp,by simp;try omega,M,h0,h1,rfl,rfl⟩
 generalize σ.next=N0 at hlt ⊢
 have lw1:w1<N0:=hlt _ (.head _) rfl
 refine fnK tok Tryz.func213 Tryz.ntmps213 Tryz.results213 ?_
 simp only[argsA,Nat.reduceAdd,hp_next]
 unfold s_l32Round at H
 refine S0 tok [] [0,1] ?_
 refine S0 tok [] [0,1,5] ?_
 refine AWP_sq [5] fun K1 hK1=>?_
 refine S0 tok [] [0,1,5,6] ?_
 refine AWP_block (AWP_thenB ?_)
 obtain⟨e1,hse1,H⟩:=bindE H
 refine AWP_lp [0,1,5,6] (fun s a σ=>∃M1:Nat,N0≤M1∧s.2.2.length=p1.length∧a=[(0,.fsl (encL rQuad p0)),(1,.sl w1 0 s.2.2.length),(5,.bool s.1),(6,.int .i64 s.2.1)]∧σ=hp E0 [(w1,some ⟨201,1,encL rL_B_o s.2.2⟩)] M1) (fun s x a σ=>x=.exit 0∧Rc G 36 N0 (fun a σ=>∃M2:Nat,N0≤M2∧s.2.length=p1.length∧a=[(5,.bool s.1)]∧σ=hp E0 [(w1,some ⟨201,1,encL rL_B_o s.2⟩)] M2) (AAct.keep a [5]) σ) hse1 ?_ ?_ ?_
 ·refine Rc.kp [0,1,5,6] [(0,.fsl (encL rQuad p0)),(1,.sl w1 0 p1.length),(5,.bool false),(6,.int .i64 (isub .i64 (ilen p0) 1))] rfl ?_
  exact Rf ⟨N0+6,(by omega),(by first|rfl|exact rfl|omega),rfl,rfl⟩
 ·clear H hse1
  rintro⟨s1,s2,s3⟩ fl a σ H ⟨M1,fM1_0,fM1_1,rfl,rfl⟩ K2 O2 hK2 hO2
  unfold s_l32Round_L1 at H;dsimp only at H
  refine AWP_sq [0,1,5,6] fun K3 hK3=>?_
  refine S0 tok [] [0,1,5,6,12] ?_
  refine Cd (fun C1=>?_) fun C1=>?_
  ·replace H:=ifT C1 H
   refine AWP_skip (Jn hK3 ?_)
   refine AWP_sq [0,1,5,6] fun K4 hK4=>?_
   refine AWP_block (AWP_thenB ?_)
   obtain⟨v6,hv6,H⟩:=bindE H
   obtain⟨r7,hr7,H⟩:=bindE H
   obtain⟨r8,hr8,H⟩:=bindE H
   refine AWP_sd tok tokM [] [7,8] [0,1,2,3,4,5,6,7,8,9] [0,1,5,6,7] (fun a σ=>∃M3 o1:Nat,∃M4 o2:Nat,M1+12≤M3∧M1+12≤o1∧o1<M3∧M3≤M4∧M3≤o2∧o2<M4∧a=[(0,.fsl (encL rQuad p0)),(1,.sl w1 0 s3.length),(5,.bool s1),(6,.int .i64 s2),(7,.sl o2 0 r8.length)]∧σ=hp E0 [(w1,some ⟨201,1,encL rL_B_o s3⟩),(o1,some ⟨4,1,encL rB r7⟩),(o2,some ⟨4,1,encL rB r8⟩)] M4) (by decide) (fun K hK=>?_) ?_
   ·simp only[pickL,nthO_succ,nthO_zero]
    simp -dsimp -implicitDefEqProofs [ix39 hv6]
    refine(c197_o_b (H:=hr7) (by simp[ix39 hv6])).mono ?_;rintro _ _ ⟨M3,o1,fM3_0,fM3_1,fM3_2,rfl,rfl⟩;simp only[hp_next] at fM3_0 fM3_1 fM3_2
    have eM3_0:=nQ o1 w1
    try simp -dsimp -implicitDefEqProofs [ix39 hv6,eM3_0,hp_over_some,hp_over_none]
    refine(c225_o_b (H:=hr8) (by simp[ix39 hv6,eM3_0,hp_over_some,hp_over_none])).mono ?_;rintro _ _ ⟨M4,o2,fM4_0,fM4_1,fM4_2,rfl,rfl⟩;simp only[hp_next] at fM4_0 fM4_1 fM4_2
    have eM4_0:=nQ o2 w1
    have eM4_1:=nQ o2 o1
    try simp -dsimp -implicitDefEqProofs [ix39 hv6,eM3_0,hp_over_some,hp_over_none,eM4_0,eM4_1,hp_over_some,hp_over_none]
    exact hK _ _ ⟨M3,o1,M4,o2,(by omega),(by omega),(by omega),(by omega),(by omega),(by omega),rfl,rfl⟩
   rintro a σ ⟨M3,o1,M4,o2,fM3_0,fM3_1,fM3_2,fM4_0,fM4_1,fM4_2,rfl,rfl⟩
   obtain⟨v9,hv9,H⟩:=bindE H
   refine gU AWP_ref w1 s2.toNat 0 ?_ (hr:=by exact encL_at rL_B_o hv9)
   obtain⟨r10,hr10,H⟩:=bindE H
   refine AWP_sr tok [] [0,1,5,6,7,30] (fun a σ=>a=[(0,.fsl (encL rQuad p0)),(1,.sl w1 0 s3.length),(5,.bool s1),(6,.int .i64 s2),(7,.sl o2 0 r8.length),(30,.bool (bnot r10))]∧σ=hp E0 [(w1,some ⟨201,1,(encL rL_B_o s3).set s2.toNat [.sl M4 0 v9.length]⟩),(o1,some ⟨4,1,encL rB r7⟩),(o2,some ⟨4,1,encL rB r8⟩),(M4,some ⟨4,1,encL rB v9⟩)] (M4+8)) (fun K hK=>?_) ?_
   ·skip
    have e0:=nQ w1 o1
    have e1:=nQ w1 o2
    have e2:=nQ w1 M4
    have e3:=nQ o1 o2
    have e4:=nQ o1 M4
    have e5:=nQ o2 M4
    simp -dsimp -implicitDefEqProofs [e0,e1,e2,e3,e4,e5,(gset hv9 _),List.set_set,ixo198 hv9,(idx_lt3 hv9).2.2]
    refine(borrow 8 (c226 hr10) (by simp[e0,e1,e2,e3,e4,e5,(gset hv9 _),List.set_set,ixo198 hv9,(idx_lt3 hv9).2.2]) rfl).mono ?_;rintro _ _ ⟨rfl,rfl⟩;try simp -dsimp -implicitDefEqProofs [e0,e1,e2,e3,e4,e5,(gset hv9 _),List.set_set,ixo198 hv9,(idx_lt3 hv9).2.2]
    exact hK _ _ ⟨rfl,rfl⟩
   rintro a σ ⟨rfl,rfl⟩
   refine Cd (fun C2=>?_) fun C2=>?_
   ·replace H:=ifT C2 H
    refine Sx tok [] [0,1,6] (by
     intro K k
     have e0:=nQ w1 o1
     have e1:=nQ w1 o2
     have e2:=nQ w1 M4
     have e3:=nQ o1 o2
     have e4:=nQ o1 M4
     have e5:=nQ o2 M4
     simp -dsimp -implicitDefEqProofs [e0,e1,e2,e3,e4,e5,(gset hv9 _),List.set_set,ixo198 hv9,(idx_lt3 hv9).2.2]
     exact k) ?_
    refine Rt tok [] [0,1,5,6] (by
     intro K k
     have e0:=nQ w1 o1
     have e1:=nQ w1 o2
     have e2:=nQ w1 M4
     have e3:=nQ o1 o2
     have e4:=nQ o1 M4
     have e5:=nQ o2 M4
     simp -dsimp -implicitDefEqProofs [e0,e1,e2,e3,e4,e5,(gset hv9 _),List.set_set]
     exact k) fun a ha=>?_
    refine hK4 _ _ ?_;rw[ha]
    refine Rc.mk ?_
    refine Rt tok [] [0,1,5,6] (by
     intro K k
     have e0:=nQ w1 o1
     have e1:=nQ w1 o2
     have e2:=nQ w1 M4
     have e3:=nQ o1 o2
     have e4:=nQ o1 M4
     have e5:=nQ o2 M4
     simp -dsimp -implicitDefEqProofs [e0,e1,e2,e3,e4,e5,(gset hv9 _),List.set_set]
     exact k) fun a ha=>?_
    obtain⟨l11,hl11,H⟩:=bindE H
    obtain rfl:=oi H
    refine hK2 _ _ _ rfl ?_;rw[ha]
    refine gP Rc_ref w1 s2.toNat 0 ?_ (hr:=by exact gset hv9 _)
    rw[show hp E0 [(w1,some ⟨201,1,(encL rL_B_o s3).set s2.toNat [.osl 4 1 (encL rB r8)]⟩),(o1,some ⟨4,1,encL rB r7⟩),(M4,some ⟨4,1,encL rB v9⟩)] (M4+17)=hp E0 [(w1,some ⟨201,1,encL rL_B_o l11⟩),(o1,some ⟨4,1,encL rB r7⟩),(M4,some ⟨4,1,encL rB v9⟩)] (M4+17) from by rw[(setx_iff.1 hl11).2,← encL_set];rfl];(try rw[← setx_len hl11])
    exact Rc.fin (hp_skip (AHeap.Sub.trans (AHeap.Sub.trans (AHeap.Sub.refl _) (hp_drop rfl (by simp;try omega))) (hp_drop rfl (by simp;try omega)))) ⟨M4+17,(by omega),(by first|rfl|exact((setx_len hl11).trans fM1_1)|omega),rfl,rfl⟩
   ·replace H:=ifF C2 H
    refine AWP_skip (Jn hK4 ?_)
    refine Rt tok [] [0,1,5,6] (by
     intro K k
     have e0:=nQ w1 o1
     have e1:=nQ w1 o2
     have e2:=nQ w1 M4
     have e3:=nQ o1 o2
     have e4:=nQ o1 M4
     have e5:=nQ o2 M4
     simp -dsimp -implicitDefEqProofs [e0,e1,e2,e3,e4,e5,(gset hv9 _),List.set_set]
     exact k) fun a ha=>?_
    obtain⟨l12,hl12,H⟩:=bindE H
    obtain rfl:=oi H
    refine hK2 _ _ _ rfl ?_;rw[ha]
    refine gP Rc_ref w1 s2.toNat 0 ?_ (hr:=by exact gset hv9 _)
    rw[show hp E0 [(w1,some ⟨201,1,(encL rL_B_o s3).set s2.toNat [.osl 4 1 (encL rB v9)]⟩),(o1,some ⟨4,1,encL rB r7⟩),(o2,some ⟨4,1,encL rB r8⟩)] (M4+11)=hp E0 [(w1,some ⟨201,1,encL rL_B_o l12⟩),(o1,some ⟨4,1,encL rB r7⟩),(o2,some ⟨4,1,encL rB r8⟩)] (M4+11) from by rw[(setx_iff.1 hl12).2,← encL_set];rfl];(try rw[← setx_len hl12])
    exact Rc.fin (hp_skip (AHeap.Sub.trans (AHeap.Sub.trans (AHeap.Sub.refl _) (hp_drop rfl (by simp;try omega))) (hp_drop rfl (by simp;try omega)))) ⟨M4+11,(by omega),(by first|rfl|exact((setx_len hl12).trans fM1_1)|omega),rfl,rfl⟩
  ·obtain rfl:=oi (ifF C1 H)
   refine AWP_exit (hO2 _ _ _ _ rfl ⟨rfl,?_⟩)
   refine Rc.rw (l:=[5]) (X:=[(5,.bool s1)]) rfl ?_
   exact Rf ⟨M1+2,(by omega),(by first|rfl|exact fM1_1|omega),rfl,rfl⟩
 ·intro x a σ hx
  obtain⟨y4,y5⟩:=e1
  obtain⟨rfl,b,τ,hr,M2,fM2_0,fM2_1,rfl,rfl⟩:=hx
  (try dsimp only at H)
  show K1 _ _
  refine hK1 _ _ (Rc_ref hr ?_)
  refine Rc.mk ?_
  refine S0 tok [] [4] ?_
  obtain rfl:=oi H
  refine Kp [4] ?_
  refine AWP_ret ?_
  refine⟨[.bool y4],by simp,M2+2,by omega,by first|rfl|exact fM2_1|omega,?_,?_⟩
  ·simp[encL_nil]
  ·first|rfl|simp[List.set_set]
theorem c195 {p0:(List gQuad)} {r:(List (List Bool))} (H:s_LiveOf p0=some r):APure Tryz.prog G 195 [.fsl (encL rQuad p0)] (.fsl (encL rL_B r)):=by
 refine APure_fn (fun N0=>?_) (by simp)
 refine fnK tok Tryz.func195 Tryz.ntmps195 Tryz.results195 ?_
 simp only[argsA,Nat.reduceAdd,hp_next]
 unfold s_LiveOf at H
 refine S0 tok [] [0] ?_
 have q0:∀σ i,buildSliceA T 198 true i 0 [] σ=some (.esl,σ):=fun _ _=>rfl
 refine Sx tok [0] [0,3] (by intro K k;simp -dsimp -implicitDefEqProofs [q0];exact k) ?_
 refine AWP_sq [0,3] fun K1 hK1=>?_
 obtain⟨r1,hr1,H⟩:=bindE H
 refine Sx tok [] [0,3,8] (by intro K k;(repeat first|simp -dsimp -implicitDefEqProofs|refine(c47 hr1).app ?_);exact k) ?_
 refine Cd (fun C1=>?_) fun C1=>?_
 ·replace H:=ifT C1 H
  refine S0 tok [] [2] ?_
  obtain rfl:=oi H;exact AWP_ret ⟨_,rfl,4,by simp[encL_nil]⟩
 ·replace H:=ifF C1 H
  refine AWP_skip (Jn hK1 ?_)
  refine AWP_sq [0,3] fun K2 hK2=>?_
  refine S0 tok [] [0,3,4] ?_
  refine AWP_block (AWP_thenB ?_)
  obtain⟨e1,hse1,H⟩:=bindE H
  refine AWP_lp [0,3,4] (fun s a σ=>∃M1 o1:Nat,N0≤M1∧N0≤o1∧o1<M1∧a=[(0,.fsl (encL rQuad p0)),(3,.sl o1 0 s.2.length),(4,.int .i64 s.1)]∧σ=hp E0 [(o1,some ⟨201,1,encL rL_B_o s.2⟩)] M1) (fun s x a σ=>x=.exit 0∧Rc G 24 N0 (fun a σ=>∃M2 o2:Nat,N0≤M2∧N0≤o2∧o2<M2∧a=[(0,.fsl (encL rQuad p0)),(3,.sl o2 0 s.length)]∧σ=hp E0 [(o2,some ⟨201,1,encL rL_B_o s⟩)] M2) (AAct.keep a [0,3]) σ) hse1 ?_ ?_ ?_
  ·refine Rc.kp [0,3,4] [(0,.fsl (encL rQuad p0)),(3,.esl),(4,.int .i64 0)] rfl ?_
   refine gNilS Rc_ref 3 201 1 [(N0+7,some ⟨201,1,encL rL_B_o ([]:List (List Bool))⟩)] [(0,.fsl (encL rQuad p0)),(3,.sl (N0+7) 0 ([]:List (List Bool)).length),(4,.int .i64 0)] (by simp(disch:=omega)) (by simp(disch:=omega) [encL_nil]) [0,3,4] rfl ?_
   exact Rf ⟨N0+8,(N0+7),(by omega),(by omega),(by omega),rfl,rfl⟩
  ·clear H hse1
   rintro⟨s2,s3⟩ fl a σ H ⟨M1,o1,fM1_0,fM1_1,fM1_2,rfl,rfl⟩ K3 O3 hK3 hO3
   unfold s_LiveOf_L1 at H;dsimp only at H
   refine AWP_sq [0,3,4] fun K4 hK4=>?_
   refine S0 tok [] [0,3,4,13] ?_
   refine Cd (fun C2=>?_) fun C2=>?_
   ·replace H:=ifT C2 H
    refine AWP_skip (Jn hK4 ?_)
    refine AWP_sq [0,3,4] fun K5 hK5=>?_
    refine AWP_block (AWP_thenB ?_)
    obtain⟨l5,hl5,H⟩:=bindE H
    obtain⟨l6,hl6,H⟩:=bindE H
    have q1:∀(a0:Nat) (a1:Nat) σ i,buildSliceA T 198 true i 1 [(0,.sl a0 0 a1)] σ=some (.fsl [[.sl a0 0 a1]],σ):=fun _ _ _ _=>rfl
    refine Rt tok [2] [0,3,4] (by
     intro K k
     have e0:=nQ o1 (M1+5)
     have e1:=nQ o1 (M1+7)
     simp -dsimp -implicitDefEqProofs [e0,e1,mak201 hl5,q1,apr198 rL_B_o hl6]
     exact k) fun a ha=>?_
    refine hK5 _ _ ?_;rw[ha]
    refine Rc.mk ?_
    refine gP AWP_ref (M1+7) s3.length 0 ?_ (hr:=by exact app_get _ _ _)
    rw[show hp E0 [(M1+7,some ⟨201,1,encL rL_B_o s3++[[.osl 4 1 (encL rB l5)]]⟩)] (M1+9)=hp E0 [(M1+7,some ⟨201,1,encL rL_B_o l6⟩)] (M1+9) from by rw[← app_enc (f:=rL_B_o) (c:=[.osl 4 1 (encL rB l5)]) hl6 rfl]]
    refine Rt0 tok [] [0,3,4] fun a ha=>?_
    obtain rfl:=oi H
    refine hK3 _ _ _ rfl ?_;rw[ha]
    exact Rf ⟨M1+12,(M1+7),(by omega),(by omega),(by omega),rfl,rfl⟩
   ·obtain rfl:=oi (ifF C2 H)
    refine AWP_exit (hO3 _ _ _ _ rfl ⟨rfl,?_⟩)
    refine Rc.rw (l:=[0,3]) (X:=[(0,.fsl (encL rQuad p0)),(3,.sl o1 0 s3.length)]) rfl ?_
    exact Rf ⟨M1+4,o1,(by omega),(by omega),(by omega),rfl,rfl⟩
  ·intro x a σ hx
   obtain⟨y4,rfl⟩:∃x,x=e1:=⟨_,rfl⟩
   obtain⟨rfl,b,τ,hr,M2,o2,fM2_0,fM2_1,fM2_2,rfl,rfl⟩:=hx
   (try dsimp only at H)
   show K2 _ _
   refine hK2 _ _ (Rc_ref hr ?_)
   refine Rc.mk ?_
   refine AWP_sq [3] fun K6 hK6=>?_
   refine AWP_block (AWP_thenB ?_)
   obtain⟨e2,hse2,H⟩:=bindE H
   refine AWP_lp [0,3] (fun s a σ=>∃M3 o3:Nat,N0≤M3∧N0≤o3∧o3<M3∧a=[(0,.fsl (encL rQuad p0)),(3,.sl o3 0 s.length)]∧σ=hp E0 [(o3,some ⟨201,1,encL rL_B_o s⟩)] M3) (fun s x a σ=>x=.exit 2∧Rc G 24 N0 (fun a σ=>∃M4 o4:Nat,N0≤M4∧N0≤o4∧o4<M4∧a=[(3,.sl o4 0 s.length)]∧σ=hp E0 [(o4,some ⟨201,1,encL rL_B_o s⟩)] M4) (AAct.keep a [3]) σ) hse2 ?_ ?_ ?_
   ·refine Rc.kp [0,3] [(0,.fsl (encL rQuad p0)),(3,.sl o2 0 y4.length)] rfl ?_
    exact Rf ⟨M2,o2,(by omega),(by omega),(by omega),rfl,rfl⟩
   ·clear H hse2
    rintro s7 fl a σ H ⟨M3,o3,fM3_0,fM3_1,fM3_2,rfl,rfl⟩ K7 O7 hK7 hO7
    unfold s_LiveOf_L2 at H;dsimp only at H
    refine AWP_sq [0,3] fun K8 hK8=>?_
    obtain⟨r9,hr9,H⟩:=bindE H
    refine AWP_sr tok [] [0,3,22] (fun a σ=>∃M5:Nat,M3+3≤M5∧r9.2.length=s7.length∧a=[(0,.fsl (encL rQuad p0)),(3,.sl o3 0 s7.length),(22,.bool r9.1)]∧σ=hp E0 [(o3,some ⟨201,1,encL rL_B_o r9.2⟩)] M5) (fun K hK=>?_) ?_
    ·skip
     simp -dsimp -implicitDefEqProofs
     refine(c213 (H:=hr9) (by simp[])).mono ?_;rintro _ _ ⟨M5,fM5_0,fM5_1,rfl,rfl⟩;simp only[hp_next] at fM5_0
     try simp -dsimp -implicitDefEqProofs [hp_over_some,hp_over_none]
     exact hK _ _ ⟨M5,(by omega),fM5_1,rfl,rfl⟩
    rintro a σ ⟨M5,fM5_0,fM5_1,rfl,rfl⟩
    try rw[← fM5_1]
    refine Cd (fun C3=>?_) fun C3=>?_
    ·replace H:=ifT C3 H
     refine AWP_skip (Jn hK8 ?_)
     refine AWP_block (AWP_thenB ?_)
     refine AWP_skip ?_
     show K7 _ _
     refine kE [0,3] fun a' ha=>?_
     obtain rfl:=oi H
     refine hK7 _ _ _ rfl ?_;rw[ha]
     exact Rf ⟨M5,o3,(by omega),(by omega),(by omega),rfl,rfl⟩
    ·obtain rfl:=oi (ifF C3 H)
     refine AWP_exit (hO7 _ _ _ _ rfl ⟨rfl,?_⟩)
     refine Rc.rw (l:=[3]) (X:=[(3,.sl o3 0 r9.2.length)]) rfl ?_
     exact Rf ⟨M5,o3,(by omega),(by omega),(by omega),rfl,rfl⟩
   ·intro x a σ hx
    obtain⟨y8,rfl⟩:∃x,x=e2:=⟨_,rfl⟩
    obtain⟨rfl,b,τ,hr,M4,o4,fM4_0,fM4_1,fM4_2,rfl,rfl⟩:=hx
    (try dsimp only at H)
    show K6 _ _
    refine hK6 _ _ (Rc_ref hr ?_)
    refine Rc.mk ?_
    refine S0 tok [] [2] ?_
    obtain rfl:=oi H;exact AWP_ret ⟨_,rfl,4,by simp[encL_nil]⟩
theorem c196 {p0:gQuad} {p1:(List Bool)} {r:Bool} (H:s_l35Dead p0 p1=some r):APure Tryz.prog G 196 [.agg [.int .i64 p0.Op,.int .i64 p0.Dst,.int .i64 p0.A,.int .i64 p0.B,.int .i64 p0.N],.fsl (encL rB p1)] (.bool r):=by
 refine APure_fn (fun N0=>?_) (by simp)
 refine fnK tok Tryz.func196 Tryz.ntmps196 Tryz.results196 ?_
 simp only[argsA,Nat.reduceAdd,hp_next]
 unfold s_l35Dead at H
 refine S0 tok [0] [1,2] ?_
 refine AWP_sq [] fun K1 hK1=>?_
 refine S0 tok [] [1,2,6] ?_
 refine AWP_block (AWP_thenB ?_)
 obtain⟨j1,hj1,H⟩:=bindE H
 refine AWP_seq (AWP_named fun K2 hK2=>?_)
 have hJ1:∀a σ,Rc G 17 N0 (fun a σ=>∃M1:Nat,N0≤M1∧a=[(1,.fsl (encL rB p1)),(2,.fptr [.int .i64 p0.Op,.int .i64 p0.Dst,.int .i64 p0.A,.int .i64 p0.B,.int .i64 p0.N] 0),(7,.bool j1)]∧σ=hp E0 [] M1) (a.keep [1,2,7]) σ→K2 a σ:=by
  rintro a σ ⟨b,τ,hr,M1,fM1_0,rfl,rfl⟩
  refine hK2 _ _ (AWP_keep [1,2,7] (AWP_ref hr ?_))
  refine Cd (fun C1=>?_) fun C1=>?_
  ·replace H:=ifT C1 H
   obtain⟨v2,hv2,H⟩:=bindE H
   refine Sx tok [] [4] (by intro K k;simp -dsimp -implicitDefEqProofs [ix201 hv2];exact k) ?_
   obtain rfl:=oi H;exact AWP_ret ⟨_,rfl,4,by simp[encL_nil]⟩
  ·replace H:=ifF C1 H
   refine AWP_skip (Jn hK1 ?_)
   refine S0 tok [] [4] ?_
   obtain rfl:=oi H;exact AWP_ret ⟨_,rfl,4,by simp[encL_nil]⟩
 replace H:=hj1
 refine S0 tok [] [1,2,6,7] ?_
 refine Cd (fun C2=>?_) fun C2=>?_
 ·replace H:=ifT C2 H
  refine AWP_skip ?_
  show K2 _ _
  refine kE [1,2,7] fun a' ha=>?_
  obtain rfl:=oi H
  refine hJ1 _ _ ?_;rw[ha]
  exact Rf ⟨N0+6,(by omega),rfl,rfl⟩
 ·replace H:=ifF C2 H
  refine S0 tok [] [1,2,6,7] ?_
  refine Cd (fun C3=>?_) fun C3=>?_
  ·replace H:=ifT C3 H
   refine AWP_skip ?_
   show K2 _ _
   refine kE [1,2,7] fun a' ha=>?_
   obtain rfl:=oi H
   refine hJ1 _ _ ?_;rw[ha]
   exact Rf ⟨N0+8,(by omega),rfl,rfl⟩
  ·replace H:=ifF C3 H
   refine Rt0 tok [] [1,2,7] fun a ha=>?_
   obtain rfl:=oi H
   refine hJ1 _ _ ?_;rw[ha]
   exact Rf ⟨N0+10,(by omega),rfl,rfl⟩
theorem c179 {p0:(List gQuad)} {r:(List gQuad)×Bool} (H:s_DeadCode p0=some r):APure Tryz.prog G 179 [.fsl (encL rQuad p0)] (.tup [.fsl (encL rQuad r.1),.bool r.2]):=by
 refine APure_fn (fun N0=>?_) (by simp)
 refine fnK tok Tryz.func179 Tryz.ntmps179 Tryz.results179 ?_
 simp only[argsA,Nat.reduceAdd,hp_next]
 unfold s_DeadCode at H
 refine S0 tok [] [0] ?_
 have q0:∀σ i,buildSliceA T 39 true i 0 [] σ=some (.esl,σ):=fun _ _=>rfl
 refine Sx tok [0] [0,4] (by intro K k;simp -dsimp -implicitDefEqProofs [q0];exact k) ?_
 refine AWP_sq [0,4] fun K1 hK1=>?_
 obtain⟨r1,hr1,H⟩:=bindE H
 refine Sx tok [] [0,4,11] (by intro K k;(repeat first|simp -dsimp -implicitDefEqProofs|refine(c47 hr1).app ?_);exact k) ?_
 refine Cd (fun C1=>?_) fun C1=>?_
 ·replace H:=ifT C1 H
  refine S0 tok [] [2,3] ?_
  obtain rfl:=oi H;exact AWP_ret ⟨_,rfl,4,by simp[encL_nil]⟩
 ·replace H:=ifF C1 H
  refine AWP_skip (Jn hK1 ?_)
  obtain⟨r2,hr2,H⟩:=bindE H
  refine Sx tok [] [0,4,5] (by intro K k;(repeat first|simp -dsimp -implicitDefEqProofs|refine(c195 hr2).app ?_);exact k) ?_
  refine AWP_sq [4] fun K2 hK2=>?_
  refine S0 tok [] [0,4,5,6] ?_
  refine AWP_block (AWP_thenB ?_)
  obtain⟨e2,hse2,H⟩:=bindE H
  refine AWP_lp [0,4,5,6] (fun s a σ=>∃M1 o1:Nat,N0≤M1∧N0≤o1∧o1<M1∧a=[(0,.fsl (encL rQuad p0)),(4,.sl o1 0 s.2.length),(5,.fsl (encL rL_B r2)),(6,.int .i64 s.1)]∧σ=hp E0 [(o1,some ⟨48,5,encL rQuad s.2⟩)] M1) (fun s x a σ=>x=.exit 0∧Rc G 39 N0 (fun a σ=>∃M2 o2:Nat,N0≤M2∧N0≤o2∧o2<M2∧a=[(4,.sl o2 0 s.length)]∧σ=hp E0 [(o2,some ⟨48,5,encL rQuad s⟩)] M2) (AAct.keep a [4]) σ) hse2 ?_ ?_ ?_
  ·refine Rc.kp [0,4,5,6] [(0,.fsl (encL rQuad p0)),(4,.esl),(5,.fsl (encL rL_B r2)),(6,.int .i64 0)] rfl ?_
   refine gNilS Rc_ref 4 48 5 [(N0+11,some ⟨48,5,encL rQuad ([]:List gQuad)⟩)] [(0,.fsl (encL rQuad p0)),(4,.sl (N0+11) 0 ([]:List gQuad).length),(5,.fsl (encL rL_B r2)),(6,.int .i64 0)] (by simp(disch:=omega)) (by simp(disch:=omega) [encL_nil]) [0,4,5,6] rfl ?_
   exact Rf ⟨N0+12,(N0+11),(by omega),(by omega),(by omega),rfl,rfl⟩
  ·clear H hse2
   rintro⟨s3,s4⟩ fl a σ H ⟨M1,o1,fM1_0,fM1_1,fM1_2,rfl,rfl⟩ K3 O3 hK3 hO3
   unfold s_DeadCode_L1 at H;dsimp only at H
   refine AWP_sq [0,4,5,6] fun K4 hK4=>?_
   refine S0 tok [] [0,4,5,6,18] ?_
   refine Cd (fun C2=>?_) fun C2=>?_
   ·replace H:=ifT C2 H
    refine AWP_skip (Jn hK4 ?_)
    refine AWP_sq [0,4,5,6] fun K5 hK5=>?_
    refine AWP_block (AWP_thenB ?_)
    obtain⟨v6,hv6,H⟩:=bindE H
    refine Sx tok [] [0,4,5,6,7] (by
     intro K k
     have e0:=nQ o1 (M1+8)
     simp -dsimp -implicitDefEqProofs [e0,ix39 hv6]
     exact k) ?_
    obtain⟨j1,hj1,H⟩:=bindE H
    refine AWP_seq (AWP_named fun K6 hK6=>?_)
    have hJ1:∀a σ,Rc G 39 N0 (fun a σ=>∃M3:Nat,N0≤M3∧o1<M3∧M1+8<M3∧a=[(0,.fsl (encL rQuad p0)),(4,.sl o1 0 s4.length),(5,.fsl (encL rL_B r2)),(6,.int .i64 s3),(7,.ptr (M1+8) 0 0)]∧σ=hp E0 [(o1,some ⟨48,5,encL rQuad s4⟩),(M1+8,some ⟨48,5,[[.int .i64 j1.Op,.int .i64 j1.Dst,.int .i64 j1.A,.int .i64 j1.B,.int .i64 j1.N]]⟩)] M3) (a.keep [0,4,5,6,7]) σ→K6 a σ:=by
     rintro a σ ⟨b,τ,hr,M3,fM3_0,fM3_1,fM3_2,rfl,rfl⟩
     refine hK6 _ _ (AWP_keep [0,4,5,6,7] (AWP_ref hr ?_))
     obtain⟨l8,hl8,H⟩:=bindE H
     have q1:∀σ i,buildSliceA T 39 true i 1 [(0,.agg [.int .i64 j1.Op,.int .i64 j1.Dst,.int .i64 j1.A,.int .i64 j1.B,.int .i64 j1.N])] σ=some (.fsl (encL rQuad ([j1]:List gQuad)),σ):=fun _ _=>rfl
     refine Rt tok [2] [0,4,5,6] (by
      intro K k
      have e0:=nQ o1 (M1+8)
      have e1:=nQ o1 (M3+3)
      have e2:=nQ (M1+8) (M3+3)
      have e3:=nQ (M1+5) M3
      simp -dsimp -implicitDefEqProofs [e0,e1,e2,e3,q1,app39 hl8]
      exact k) fun a ha=>?_
     refine hK5 _ _ ?_;rw[ha]
     refine Rc.mk ?_
     refine Rt tok [] [0,4,5,6] (by
      intro K k
      have e0:=nQ (M1+8) (M3+3)
      have e1:=nQ (M1+5) M3
      simp -dsimp -implicitDefEqProofs [e0,e1]
      exact k) fun a ha=>?_
     obtain rfl:=oi H
     refine hK3 _ _ _ rfl ?_;rw[ha]
     exact Rc.fin (AHeap.Sub.trans (hp_skip (AHeap.Sub.refl _)) (hp_drop rfl (by simp;try omega))) ⟨M3+8,(M3+3),(by omega),(by omega),(by omega),rfl,rfl⟩
    replace H:=hj1
    obtain⟨r9,hr9,H⟩:=bindE H
    obtain⟨r10,hr10,H⟩:=bindE H
    refine Sd tok tokM [] [0] [1,2,3,4,0,5] [0,4,5,6,7,30] (by
     intro K k
     have e0:=nQ o1 (M1+8)
     simp only[pickL,nthO_succ,nthO_zero]
     repeat first|simp -dsimp -implicitDefEqProofs [e0]|refine Pc.mk (c197 hr9) ?_|refine Pc.mk (c196 hr10) ?_
     exact k) ?_
    refine Cd (fun C3=>?_) fun C3=>?_
    ·replace H:=ifT C3 H
     refine Rt tok [] [0,4,5,6,7] (by
      intro K k
      have e0:=nQ o1 (M1+8)
      simp -dsimp -implicitDefEqProofs [e0]
      exact k) fun a ha=>?_
     obtain rfl:=oi H
     refine hJ1 _ _ ?_;rw[ha]
     exact Rf ⟨M1+20,(by omega),(by omega),(by omega),rfl,rfl⟩
    ·replace H:=ifF C3 H
     refine AWP_skip ?_
     show K6 _ _
     refine kE [0,4,5,6,7] fun a' ha=>?_
     obtain rfl:=oi H
     refine hJ1 _ _ ?_;rw[ha]
     exact Rf ⟨M1+16,(by omega),(by omega),(by omega),rfl,rfl⟩
   ·obtain rfl:=oi (ifF C2 H)
    refine AWP_exit (hO3 _ _ _ _ rfl ⟨rfl,?_⟩)
    refine Rc.rw (l:=[4]) (X:=[(4,.sl o1 0 s4.length)]) rfl ?_
    exact Rf ⟨M1+4,o1,(by omega),(by omega),(by omega),rfl,rfl⟩
  ·intro x a σ hx
   obtain⟨y5,rfl⟩:∃x,x=e2:=⟨_,rfl⟩
   obtain⟨rfl,b,τ,hr,M2,o2,fM2_0,fM2_1,fM2_2,rfl,rfl⟩:=hx
   (try dsimp only at H)
   show K2 _ _
   refine hK2 _ _ (Rc_ref hr ?_)
   refine Rc.mk ?_
   refine S0 tok [] [2,3] ?_
   obtain rfl:=oi H;exact AWP_ret ⟨_,rfl,4,by simp[encL_nil]⟩
end Go.Proofs.YtlcilhmkbmgkeaaGreatDoor
