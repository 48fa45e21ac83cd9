/- The contracts of functions of the program (UXThreadStep): each computes what its mirror computes. No conditions. -/
import Derived.Test.YtdnkfkfjaaedpaaGreatNUNThreadStep
import Derived.Test.YtdnkfkfjaaedpaaGreatNUT3
set_option linter.unusedSimpArgs false
set_option linter.unusedVariables false
set_option maxRecDepth 20000
set_option maxHeartbeats 4000000
namespace Go.Proofs.YtdnkfkfjaaedpaaGreat
open Go Go.Abs Go.RowKit

theorem c7 {p0:(List Int)} {r:Bool} (H:l_FnThreadStep p0=some r):APure Tryz.prog G 7 [.fsl (eL rU8 p0)] (.bool r):=by
 refine APure_fn (fun N0=>?_) (by simp)
 refine fnK tok Tryz.func7 Tryz.ntmps7 Tryz.results7 ?_
 simp only[argsA,Nat.reduceAdd,hpN]
 unfold l_FnThreadStep at H
 refine S0 tok [] [0] ?_
 refine Wsq [0] fun K1 hK1=>?_
 refine S0 tok [] [0,17] ?_
 refine Cd (fun C1=>?_) fun C1=>?_
 ·replace H:=ifT C1 H
  refine S0 tok [] [2] ?_
  obtain rfl:=oi H;exact Wr ⟨_,rfl,4,by simp[eN]⟩
 ·replace H:=ifF C1 H
  refine Wsk (Jn hK1 ?_)
  obtain⟨r1,hr1,H⟩:=bE H
  refine Sx tok [] [3,4,5] (by intro K k;(repeat first|simp -dsimp -implicitDefEqProofs|refine(c23 hr1).app ?_);exact k) ?_
  obtain⟨r2,hr2,H⟩:=bE H
  refine Sx tok [] [3,4,5,6,7,8,9] (by intro K k;(repeat first|simp -dsimp -implicitDefEqProofs|refine(c24 hr2).app ?_);exact k) ?_
  obtain⟨r3,hr3,H⟩:=bE H
  refine Sx tok [] [3,5,6,7,8,9,10,11,12,13] (by intro K k;(repeat first|simp -dsimp -implicitDefEqProofs|refine(c25 hr3).app ?_);exact k) ?_
  refine Wsq [3,5,6,7,9] fun K2 hK2=>?_
  obtain⟨g5,hg5,H⟩:=bE H
  obtain⟨g7,hg7,H⟩:=bE H
  obtain⟨g9,hg9,H⟩:=bE H
  refine Sx tok [] [3,5,6,7,9,62] (X:=[(3,.fsl (eL rQuad r1.1)),(5,.fsl (eL rBox r1.2.2)),(6,.ptr (N0+23) 0 0),(7,.fsl (eL rBox r2.2.1)),(9,.int .i64 r2.2.2.2),(62,.bool g9)]) (Y:=hp E0 [(N0+10,some ⟨26,2,[[.fsl (eL rI r1.2.1.Regs),.int .i64 r1.2.1.Pc]]⟩),(N0+23,some ⟨26,2,[[.fsl (eL rI r2.1.Regs),.int .i64 r2.1.Pc]]⟩),(N0+37,some ⟨26,2,[[.fsl (eL rI r3.1.Regs),.int .i64 r3.1.Pc]]⟩)] (N0+63)) (by
   intro K k
   simp -dsimp -implicitDefEqProofs
   cases hbg5:ine r2.2.2.2 r3.2.2.2
   ·replace hg5:=ifF hbg5 hg5
    obtain⟨r4,hr4,hg5⟩:=bE hg5
    obtain rfl:=oi hg5
    try simp -dsimp -implicitDefEqProofs [hbg5]
    refine(c26 hr4).app ?_;try simp -dsimp -implicitDefEqProofs [hbg5]
    cases hbg7:(bnot r4)
    ·replace hg7:=ifF hbg7 hg7
     obtain⟨r6,hr6,hg7⟩:=bE hg7
     obtain rfl:=oi hg7
     try simp -dsimp -implicitDefEqProofs [hbg5,hbg7]
     refine(c27 hr6).app ?_;try simp -dsimp -implicitDefEqProofs [hbg5,hbg7]
     cases hbg9:(bnot r6)
     ·replace hg9:=ifF hbg9 hg9
      obtain⟨r8,hr8,hg9⟩:=bE hg9
      obtain rfl:=oi hg9
      try simp -dsimp -implicitDefEqProofs [hbg5,hbg7,hbg9]
      refine(c28 hr8).app ?_;try simp -dsimp -implicitDefEqProofs [hbg5,hbg7,hbg9]
      exact k
     ·obtain rfl:=oi (ifT hbg9 hg9)
      try simp -dsimp -implicitDefEqProofs [hbg5,hbg7,hbg9]
      exact k
    ·obtain rfl:=oi (ifT hbg7 hg7)
     obtain rfl:=oi (ifT rfl hg9)
     try simp -dsimp -implicitDefEqProofs [hbg5,hbg7]
     exact k
   ·obtain rfl:=oi (ifT hbg5 hg5)
    obtain rfl:=oi (ifT rfl hg7)
    obtain rfl:=oi (ifT rfl hg9)
    try simp -dsimp -implicitDefEqProofs [hbg5]
    exact k) ?_
  refine Cd (fun C2=>?_) fun C2=>?_
  ·replace H:=ifT C2 H
   refine S0 tok [] [2] ?_
   obtain rfl:=oi H;exact Wr ⟨_,rfl,4,by simp[eN]⟩
  ·replace H:=ifF C2 H
   refine Wsk (Jn hK2 ?_)
   refine Wsq [3,5,6,7] fun K3 hK3=>?_
   refine S0 tok [] [3,5,6,7,64] ?_
   refine Cd (fun C3=>?_) fun C3=>?_
   ·replace H:=ifT C3 H
    refine S0 tok [] [2] ?_
    obtain rfl:=oi H;exact Wr ⟨_,rfl,4,by simp[eN]⟩
   ·replace H:=ifF C3 H
    refine Wsk (Jn hK3 ?_)
    refine Wsq [3,5,6,7] fun K4 hK4=>?_
    refine S0 tok [] [3,5,6,7,14] ?_
    refine Wbl (Wth ?_)
    obtain⟨e1,hse1,H⟩:=bE H
    refine AWP_lp [3,5,6,7,14] (fun s a σ=>∃M1 o1:Nat,N0≤M1∧N0≤o1∧o1<M1∧a=[(3,.fsl (eL rQuad r1.1)),(5,.fsl (eL rBox r1.2.2)),(6,.ptr o1 0 0),(7,.fsl (eL rBox r2.2.1)),(14,.int .i64 s.1)]∧σ=hp E0 [(o1,some ⟨26,2,[[.fsl (eL rI s.2.Regs),.int .i64 s.2.Pc]]⟩)] M1) (fun e x a σ=>match e with|.inl s=>x=.exit 0∧Rc G 100 N0 (fun a σ=>∃M2 o2:Nat,N0≤M2∧N0≤o2∧o2<M2∧a=[(3,.fsl (eL rQuad r1.1)),(5,.fsl (eL rBox r1.2.2)),(6,.ptr o2 0 0),(7,.fsl (eL rBox r2.2.1))]∧σ=hp E0 [(o2,some ⟨26,2,[[.fsl (eL rI s.Regs),.int .i64 s.Pc]]⟩)] M2) (AAct.keep a [3,5,6,7]) σ|.inr s=>x=.ret∧∃vs,resA T σ a [.tmp 2]=some vs∧∃d,thawA (fun _=>true) σ d (tupA vs)=.bool s) hse1 ?_ ?_ ?_
    ·refine Rc.kp [3,5,6,7,14] [(3,.fsl (eL rQuad r1.1)),(5,.fsl (eL rBox r1.2.2)),(6,.ptr (N0+23) 0 0),(7,.fsl (eL rBox r2.2.1)),(14,.int .i64 0)] rfl ?_
     exact Rc.fin (AHeap.Sub.trans (hp_skip (AHeap.Sub.trans (AHeap.Sub.refl _) (hp_drop rfl (by simp;try omega)))) (hp_drop rfl (by simp;try omega))) ⟨N0+66,(N0+23),(by omega),(by omega),(by omega),rfl,rfl⟩
    ·clear H hse1
     rintro⟨s10,s11⟩ fl a σ H ⟨M1,o1,fM1_0,fM1_1,fM1_2,rfl,rfl⟩ K5 O5 hK5 hO5
     unfold l_FnThreadStep_L1 at H;dsimp only at H
     refine Wsq [3,5,6,7,14] fun K6 hK6=>?_
     refine S0 tok [] [3,5,6,7,14,68] ?_
     refine Cd (fun C4=>?_) fun C4=>?_
     ·replace H:=ifT C4 H
      refine Wsk (Jn hK6 ?_)
      refine Wsq [3,5,6,7,14] fun K7 hK7=>?_
      refine Wbl (Wth ?_)
      obtain⟨v13,hv13,H⟩:=bE H
      obtain⟨r14,hr14,H⟩:=bE H
      obtain⟨g16,hg16,H⟩:=bE H
      refine AWP_sd tok tokM [] [] [0,1,2,3,4,5,6,7,8,9,10,11,12,13,14,15,16,17,18] [3,5,6,7,14,89] (fun a σ=>a=[(3,.fsl (eL rQuad r1.1)),(5,.fsl (eL rBox r1.2.2)),(6,.ptr o1 0 0),(7,.fsl (eL rBox r2.2.1)),(14,.int .i64 s10),(89,.bool g16)]∧σ=hp E0 [(o1,some ⟨26,2,[[.fsl (eL rI s11.Regs),.int .i64 s11.Pc]]⟩)] (M1+23)) (by decide) (fun K hK=>?_) ?_
      ·simp only[pickL,nthO_succ,nthO_zero]
       simp -dsimp -implicitDefEqProofs [ix27 hv13]
       refine Pc.mk (c29 hr14) ?_;try simp -dsimp -implicitDefEqProofs [ix27 hv13]
       cases hbg16:bnot r14
       ·replace hg16:=ifF hbg16 hg16
        obtain⟨v15,hv15,hg16⟩:=bE hg16
        obtain rfl:=oi hg16
        try simp -dsimp -implicitDefEqProofs [ix27 hv13,hbg16,ix27 hv15]
        exact hK _ _ ⟨rfl,rfl⟩
       ·obtain rfl:=oi (ifT hbg16 hg16)
        try simp -dsimp -implicitDefEqProofs [ix27 hv13,hbg16]
        exact hK _ _ ⟨rfl,rfl⟩
      rintro a σ ⟨rfl,rfl⟩
      refine Cd (fun C5=>?_) fun C5=>?_
      ·replace H:=ifT C5 H
       refine S0 tok [] [2] ?_
       obtain rfl:=oi H
       refine Kp [2] ?_
       refine Wr (hO5 _ _ _ _ rfl ⟨rfl,?_⟩)
       exact⟨[.bool false],by simp,4,by simp[eN]⟩
      ·replace H:=ifF C5 H
       refine Wsk (Jn hK7 ?_)
       refine Rt0 tok [] [3,5,6,7,14] fun a ha=>?_
       obtain rfl:=oi H
       refine hK5 _ _ _ rfl ?_;rw[ha]
       exact Rf ⟨M1+26,o1,(by omega),(by omega),(by omega),rfl,rfl⟩
     ·obtain rfl:=oi (ifF C4 H)
      refine AWP_exit (hO5 _ _ _ _ rfl ⟨rfl,?_⟩)
      refine Rc.rw (l:=[3,5,6,7]) (X:=[(3,.fsl (eL rQuad r1.1)),(5,.fsl (eL rBox r1.2.2)),(6,.ptr o1 0 0),(7,.fsl (eL rBox r2.2.1))]) rfl ?_
      exact Rf ⟨M1+4,o1,(by omega),(by omega),(by omega),rfl,rfl⟩
    ·intro x a σ hx
     rcases e1 with y12|r0
     ·obtain⟨rfl,b,τ,hr,M2,o2,fM2_0,fM2_1,fM2_2,rfl,rfl⟩:=hx
      (try dsimp only at H)
      show K4 _ _
      refine hK4 _ _ (Rc_ref hr ?_)
      refine Rc.mk ?_
      obtain⟨r17,hr17,H⟩:=bE H
      obtain⟨g18,hg18,H⟩:=bE H
      refine Sx tok [] [2] (X:=[(2,.bool g18)]) (Y:=hp E0 [(o2,some ⟨26,2,[[.fsl (eL rI y12.Regs),.int .i64 y12.Pc]]⟩)] (M2+11)) (by
       intro K k
       simp -dsimp -implicitDefEqProofs
       refine(c30 hr17).app ?_;try simp -dsimp -implicitDefEqProofs
       cases hbg18:r17
       ·obtain rfl:=oi (ifF hbg18 hg18)
        try simp -dsimp -implicitDefEqProofs [hbg18]
        exact k
       ·obtain rfl:=oi (ifT hbg18 hg18)
        try simp -dsimp -implicitDefEqProofs [hbg18]
        exact k) ?_
      obtain rfl:=oi H;exact Wr ⟨_,rfl,4,by simp[eN]⟩
     ·obtain⟨rfl,hx2⟩:=hx
      (try dsimp only at H)
      obtain rfl:=oi H;first|exact hx2|(simp only[List.set_set] at hx2 ⊢;exact hx2)
end Go.Proofs.YtdnkfkfjaaedpaaGreat
