/- The contracts of functions of the program (UXThreadSets): each computes what its mirror computes. No conditions. -/
import Derived.Test.YtdnkfkfjaaedpaaGreatNUNThreadSets
import Derived.Test.YtdnkfkfjaaedpaaGreatNUT3
set_option linter.unusedSimpArgs false
set_option linter.unusedVariables false
set_option maxRecDepth 20000
set_option maxHeartbeats 4000000
namespace Go.Proofs.YtdnkfkfjaaedpaaGreat
open Go Go.Abs Go.RowKit

theorem c6 {p0:(List Int)} {r:Bool} (H:l_FnThreadSets p0=some r):APure Tryz.prog G 6 [.fsl (eL rU8 p0)] (.bool r):=by
 refine APure_fn (fun N0=>?_) (by simp)
 refine fnK tok Tryz.func6 Tryz.ntmps6 Tryz.results6 ?_
 simp only[argsA,Nat.reduceAdd,hpN]
 unfold l_FnThreadSets at H
 refine S0 tok [] [0] ?_
 refine Wsq [0] fun K1 hK1=>?_
 refine S0 tok [] [0,19] ?_
 refine Cd (fun C1=>?_) fun C1=>?_
 ·replace H:=ifT C1 H
  refine S0 tok [] [2] ?_
  obtain rfl:=oi H;exact Wr ⟨_,rfl,4,by simp[eN]⟩
 ·replace H:=ifF C1 H
  refine Wsk (Jn hK1 ?_)
  obtain⟨r1,hr1,H⟩:=bE H
  refine Sx tok [] [3,4,5] (by intro K k;(repeat first|simp -dsimp -implicitDefEqProofs|refine(c23 hr1).app ?_);exact k) ?_
  obtain⟨r2,hr2,H⟩:=bE H
  refine Sx tok [] [3,4,5,6,7,8,9] (by intro K k;(repeat first|simp -dsimp -implicitDefEqProofs|refine(c24 hr2).app ?_);exact k) ?_
  obtain⟨r3,hr3,H⟩:=bE H
  refine Sx tok [] [3,4,6,7,8,9,10,11,12,13] (by intro K k;(repeat first|simp -dsimp -implicitDefEqProofs|refine(c25 hr3).app ?_);exact k) ?_
  refine Wsq [3,4,6,9] fun K2 hK2=>?_
  obtain⟨g5,hg5,H⟩:=bE H
  obtain⟨g7,hg7,H⟩:=bE H
  obtain⟨g9,hg9,H⟩:=bE H
  refine Sx tok [] [3,4,6,9,64] (X:=[(3,.fsl (eL rQuad r1.1)),(4,.ptr (N0+10) 0 0),(6,.ptr (N0+23) 0 0),(9,.int .i64 r2.2.2.2),(64,.bool g9)]) (Y:=hp E0 [(N0+10,some ⟨26,2,[[.fsl (eL rI r1.2.1.Regs),.int .i64 r1.2.1.Pc]]⟩),(N0+23,some ⟨26,2,[[.fsl (eL rI r2.1.Regs),.int .i64 r2.1.Pc]]⟩),(N0+37,some ⟨26,2,[[.fsl (eL rI r3.1.Regs),.int .i64 r3.1.Pc]]⟩)] (N0+63)) (by
   intro K k
   simp -dsimp -implicitDefEqProofs
   cases hbg5:ine r2.2.2.2 r3.2.2.2
   ·replace hg5:=ifF hbg5 hg5
    obtain⟨r4,hr4,hg5⟩:=bE hg5
    obtain rfl:=oi hg5
    try simp -dsimp -implicitDefEqProofs [hbg5]
    refine(c26 hr4).app ?_;try simp -dsimp -implicitDefEqProofs [hbg5]
    cases hbg7:(bnot r4)
    ·replace hg7:=ifF hbg7 hg7
     obtain⟨r6,hr6,hg7⟩:=bE hg7
     obtain rfl:=oi hg7
     try simp -dsimp -implicitDefEqProofs [hbg5,hbg7]
     refine(c27 hr6).app ?_;try simp -dsimp -implicitDefEqProofs [hbg5,hbg7]
     cases hbg9:(bnot r6)
     ·replace hg9:=ifF hbg9 hg9
      obtain⟨r8,hr8,hg9⟩:=bE hg9
      obtain rfl:=oi hg9
      try simp -dsimp -implicitDefEqProofs [hbg5,hbg7,hbg9]
      refine(c28 hr8).app ?_;try simp -dsimp -implicitDefEqProofs [hbg5,hbg7,hbg9]
      exact k
     ·obtain rfl:=oi (ifT hbg9 hg9)
      try simp -dsimp -implicitDefEqProofs [hbg5,hbg7,hbg9]
      exact k
    ·obtain rfl:=oi (ifT hbg7 hg7)
     obtain rfl:=oi (ifT rfl hg9)
     try simp -dsimp -implicitDefEqProofs [hbg5,hbg7]
     exact k
   ·obtain rfl:=oi (ifT hbg5 hg5)
    obtain rfl:=oi (ifT rfl hg7)
    obtain rfl:=oi (ifT rfl hg9)
    try simp -dsimp -implicitDefEqProofs [hbg5]
    exact k) ?_
  refine Cd (fun C2=>?_) fun C2=>?_
  ·replace H:=ifT C2 H
   refine S0 tok [] [2] ?_
   obtain rfl:=oi H;exact Wr ⟨_,rfl,4,by simp[eN]⟩
  ·replace H:=ifF C2 H
   refine Wsk (Jn hK2 ?_)
   refine Wsq [3,4,6] fun K3 hK3=>?_
   refine S0 tok [] [3,4,6,66] ?_
   refine Cd (fun C3=>?_) fun C3=>?_
   ·replace H:=ifT C3 H
    refine S0 tok [] [2] ?_
    obtain rfl:=oi H;exact Wr ⟨_,rfl,4,by simp[eN]⟩
   ·replace H:=ifF C3 H
    refine Wsk (Jn hK3 ?_)
    obtain⟨v10,hv10,H⟩:=bE H
    refine Sx tok [] [4,6,14] (by intro K k;simp -dsimp -implicitDefEqProofs [ix23 hv10];exact k) ?_
    obtain⟨g11,hg11,H⟩:=bE H
    refine Sx tok [] [4,6,14,15] (X:=[(4,.ptr (N0+10) 0 0),(6,.ptr (N0+23) 0 0),(14,.ptr (N0+70) 0 0),(15,.bool g11)]) (Y:=hp E0 [(N0+10,some ⟨26,2,[[.fsl (eL rI r1.2.1.Regs),.int .i64 r1.2.1.Pc]]⟩),(N0+23,some ⟨26,2,[[.fsl (eL rI r2.1.Regs),.int .i64 r2.1.Pc]]⟩),(N0+37,some ⟨26,2,[[.fsl (eL rI r3.1.Regs),.int .i64 r3.1.Pc]]⟩),(N0+70,some ⟨36,5,[[.int .i64 v10.Op,.int .i64 v10.Dst,.int .i64 v10.A,.int .i64 v10.B,.int .i64 v10.N]]⟩)] (N0+81)) (by
     intro K k
     simp -dsimp -implicitDefEqProofs
     cases hbg11:ile v10.Op 3
     ·obtain rfl:=oi (ifF hbg11 hg11)
      try simp -dsimp -implicitDefEqProofs [hbg11]
      exact k
     ·obtain rfl:=oi (ifT hbg11 hg11)
      try simp -dsimp -implicitDefEqProofs [hbg11]
      exact k) ?_
    refine Wsq [] fun K4 hK4=>?_
    refine S0 tok [] [4,6,14,15,16] ?_
    refine Wbl (Wth ?_)
    obtain⟨e1,hse1,H⟩:=bE H
    refine AWP_lp [4,6,14,15,16] (fun s a σ=>∃M1 o1 o2 o3:Nat,N0≤M1∧N0≤o1∧o1<M1∧N0≤o2∧o2<M1∧N0≤o3∧o3<M1∧¬o1=o2∧¬o1=o3∧¬o2=o3∧a=[(4,.ptr o1 0 0),(6,.ptr o2 0 0),(14,.ptr o3 0 0),(15,.bool g11),(16,.int .i64 s.1)]∧σ=hp E0 [(o1,some ⟨26,2,[[.fsl (eL rI s.2.1.Regs),.int .i64 s.2.1.Pc]]⟩),(o2,some ⟨26,2,[[.fsl (eL rI s.2.2.1.Regs),.int .i64 s.2.2.1.Pc]]⟩),(o3,some ⟨36,5,[[.int .i64 s.2.2.2.Op,.int .i64 s.2.2.2.Dst,.int .i64 s.2.2.2.A,.int .i64 s.2.2.2.B,.int .i64 s.2.2.2.N]]⟩)] M1) (fun e x a σ=>match e with|.inl s=>x=.exit 0∧Rc G 105 N0 (fun a σ=>∃M2:Nat,N0≤M2∧a=[]∧σ=hp E0 [] M2) (AAct.keep a []) σ|.inr s=>x=.ret∧∃vs,resA T σ a [.tmp 2]=some vs∧∃d,thawA (fun _=>true) σ d (tupA vs)=.bool s) hse1 ?_ ?_ ?_
    ·refine Rc.kp [4,6,14,15,16] [(4,.ptr (N0+10) 0 0),(6,.ptr (N0+23) 0 0),(14,.ptr (N0+70) 0 0),(15,.bool g11),(16,.int .i64 0)] rfl ?_
     exact Rc.fin (hp_skip (hp_skip (AHeap.Sub.trans (hp_skip (AHeap.Sub.refl _)) (hp_drop rfl (by simp;try omega))))) ⟨N0+82,(N0+10),(N0+23),(N0+70),(by omega),(by omega),(by omega),(by omega),(by omega),(by omega),(by omega),(by omega),(by omega),(by omega),rfl,rfl⟩
    ·clear H hse1
     rintro⟨s12,s13,s14,s15⟩ fl a σ H ⟨M1,o1,o2,o3,fM1_0,fM1_1,fM1_2,fM1_3,fM1_4,fM1_5,fM1_6,fM1_7,fM1_8,fM1_9,rfl,rfl⟩ K5 O5 hK5 hO5
     unfold l_FnThreadSets_L1 at H;dsimp only at H
     refine Wsq [4,6,14,15,16] fun K6 hK6=>?_
     refine Sx tok [] [4,6,14,15,16,81] (by
      intro K k
      have e0:=nQ o1 o2
      have e1:=nQ o1 o3
      have e2:=nQ o2 o3
      simp -dsimp -implicitDefEqProofs [e0,e1,e2]
      exact k) ?_
     refine Cd (fun C4=>?_) fun C4=>?_
     ·replace H:=ifT C4 H
      refine Wsk (Jn hK6 ?_)
      refine Wsq [4,6,14,15,16] fun K7 hK7=>?_
      refine Wbl (Wth ?_)
      obtain⟨v16,hv16,H⟩:=bE H
      obtain⟨v17,hv17,H⟩:=bE H
      obtain⟨g19,hg19,H⟩:=bE H
      refine AWP_sd tok tokM [] [1,6,8,9,17] [0,2,5,7,1,3,4,6,8,9,10,11,12,13,14,15,16,17,18,19,20] [4,6,14,15,16,104] (fun a σ=>a=[(4,.ptr o1 0 0),(6,.ptr o2 0 0),(14,.ptr o3 0 0),(15,.bool g11),(16,.int .i64 s12),(104,.bool g19)]∧σ=hp E0 [(o1,some ⟨26,2,[[.fsl (eL rI s13.Regs),.int .i64 s13.Pc]]⟩),(o2,some ⟨26,2,[[.fsl (eL rI s14.Regs),.int .i64 s14.Pc]]⟩),(o3,some ⟨36,5,[[.int .i64 s15.Op,.int .i64 s15.Dst,.int .i64 s15.A,.int .i64 s15.B,.int .i64 s15.N]]⟩)] (M1+23)) (by decide) (fun K hK=>?_) ?_
      ·simp only[pickL,nthO_succ,nthO_zero]
       have e0:=nQ o1 o2
       have e1:=nQ o1 o3
       have e2:=nQ o2 o3
       simp -dsimp -implicitDefEqProofs [e0,e1,e2,ix24 hv16,ix24 hv17]
       cases hbg19:ine v16 v17
       ·obtain rfl:=oi (ifF hbg19 hg19)
        try simp -dsimp -implicitDefEqProofs [e0,e1,e2,ix24 hv16,ix24 hv17,hbg19]
        exact hK _ _ ⟨rfl,rfl⟩
       ·replace hg19:=ifT hbg19 hg19
        obtain⟨g18,hg18,hg19⟩:=bE hg19
        obtain rfl:=oi hg19
        try simp -dsimp -implicitDefEqProofs [e0,e1,e2,ix24 hv16,ix24 hv17,hbg19]
        cases hbg18:bnot g11
        ·obtain rfl:=oi (ifF hbg18 hg18)
         try simp -dsimp -implicitDefEqProofs [e0,e1,e2,ix24 hv16,ix24 hv17,hbg19,hbg18]
         exact hK _ _ ⟨rfl,rfl⟩
        ·obtain rfl:=oi (ifT hbg18 hg18)
         try simp -dsimp -implicitDefEqProofs [e0,e1,e2,ix24 hv16,ix24 hv17,hbg19,hbg18]
         exact hK _ _ ⟨rfl,rfl⟩
      rintro a σ ⟨rfl,rfl⟩
      refine Cd (fun C5=>?_) fun C5=>?_
      ·replace H:=ifT C5 H
       refine Sx tok [] [2] (by
        intro K k
        have e0:=nQ o1 o2
        have e1:=nQ o1 o3
        have e2:=nQ o2 o3
        simp -dsimp -implicitDefEqProofs [e0,e1,e2]
        exact k) ?_
       obtain rfl:=oi H
       refine Kp [2] ?_
       have z0:=nQ o1 o2
       have z1:=nQ o1 o3
       have z2:=nQ o2 o3
       refine Wr (hO5 _ _ _ _ rfl ⟨rfl,?_⟩)
       exact⟨[.bool false],by simp[z0,z1,z2],4,by simp[eN,z0,z1,z2]⟩
      ·replace H:=ifF C5 H
       refine Wsk (Jn hK7 ?_)
       refine Rt tok [] [4,6,14,15,16] (by
        intro K k
        have e0:=nQ o1 o2
        have e1:=nQ o1 o3
        have e2:=nQ o2 o3
        simp -dsimp -implicitDefEqProofs [e0,e1,e2]
        exact k) fun a ha=>?_
       obtain rfl:=oi H
       refine hK5 _ _ _ rfl ?_;rw[ha]
       exact Rf ⟨M1+26,o1,o2,o3,(by omega),(by omega),(by omega),(by omega),(by omega),(by omega),(by omega),(by omega),(by omega),(by omega),rfl,rfl⟩
     ·obtain rfl:=oi (ifF C4 H)
      refine AWP_exit (hO5 _ _ _ _ rfl ⟨rfl,?_⟩)
      refine Rc.rw (l:=[]) (X:=[]) rfl ?_
      exact Rc.fin (AHeap.Sub.trans (AHeap.Sub.trans (AHeap.Sub.trans (AHeap.Sub.refl _) (hp_drop rfl (by simp;try omega))) (hp_drop rfl (by simp;try omega))) (hp_drop rfl (by simp;try omega))) ⟨M1+2,(by omega),rfl,rfl⟩
    ·intro x a σ hx
     rcases e1 with⟨⟩|r0
     ·obtain⟨rfl,b,τ,hr,M2,fM2_0,rfl,rfl⟩:=hx
      (try dsimp only at H)
      show K4 _ _
      refine hK4 _ _ (Rc_ref hr ?_)
      refine Rc.mk ?_
      refine S0 tok [] [2] ?_
      obtain rfl:=oi H;exact Wr ⟨_,rfl,4,by simp[eN]⟩
     ·obtain⟨rfl,hx2⟩:=hx
      (try dsimp only at H)
      obtain rfl:=oi H;first|exact hx2|(simp only[List.set_set] at hx2 ⊢;exact hx2)
end Go.Proofs.YtdnkfkfjaaedpaaGreat
