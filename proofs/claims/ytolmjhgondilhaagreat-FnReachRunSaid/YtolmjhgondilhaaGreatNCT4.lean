/- The contracts of functions of the program (CT4): each computes what its mirror computes. No conditions. -/
import Derived.Test.YtolmjhgondilhaaGreatNCT3
set_option linter.unusedSimpArgs false
set_option linter.unusedVariables false
set_option maxRecDepth 20000
set_option maxHeartbeats 4000000
namespace Go.Proofs.YtolmjhgondilhaaGreat
open Go Go.Abs Go.RowKit

theorem c17 {p0:List Int}{p1:(List (List gQuad))}{p2:Int}{r:gCrew}(H:gF p0 p1 p2=some r):APure Tryz.prog G 17 [.fsl (eL rI p0),.fsl (eL zA p1),.int .i64 p2] (.agg [.fsl (eL zA r.Codes),.fsl (eL zF r.Threads),.fsl (eL rBox r.Boxes),.int .i64 r.Turn,.int .i64 r.Idle,.fsl (eL rI r.Out)]):=by
 refine zE (fun N0=>?_) (by simp)
 refine fnK tok Tryz.func17 Tryz.ntmps17 Tryz.results17 ?_
 simp only[argsA,Nat.reduceAdd,hpN]
 unfold gF at H
 refine S0 tok [] [0,1,2,6] ?_
 refine gW Wre N0 0 0 ?_
 refine gW Wre N0 0 1 ?_
 refine gW Wre N0 0 2 ?_
 refine gW Wre N0 0 5 ?_
 obtain⟨r1,hr1,H⟩:=bE H
 refine Sx tok [] [2,6,7,8] (by intro K k;(repeat first|simp -dsimp -implicitDefEqProofs|refine(c13 hr1).app ?_);exact k) ?_
 obtain⟨r2,hr2,H⟩:=bE H
 refine Sx tok [] [6,8,9,10] (by intro K k;(repeat first|simp -dsimp -implicitDefEqProofs|refine(c20 hr2).app ?_);exact k) ?_
 refine Wsq [6,9] fun K1 hK1=>?_
 obtain⟨g3,hg3,H⟩:=bE H
 refine Sx tok [] [6,9,28] (X:=[(6,.ptr N0 0 0),(9,.ptr (N0+16) 0 0),(28,.bool g3)]) (Y:=hp E0 [(N0,some ⟨30,6,[[.fsl [],.fsl [],.fsl [],.int .i64 0,.int .i64 0,.fsl []]]⟩),(N0+7,some ⟨30,6,[[.fsl (eL zA r1.1.Codes),.fsl (eL zF r1.1.Threads),.fsl (eL rBox r1.1.Boxes),.int .i64 r1.1.Turn,.int .i64 r1.1.Idle,.fsl (eL rI r1.1.Out)]]⟩),(N0+16,some ⟨30,6,[[.fsl (eL zA r2.1.Codes),.fsl (eL zF r2.1.Threads),.fsl (eL rBox r2.1.Boxes),.int .i64 r2.1.Turn,.int .i64 r2.1.Idle,.fsl (eL rI r2.1.Out)]]⟩)] (N0+25)) (by
  intro K k
  simp -dsimp -implicitDefEqProofs
  cases hbg3:bnot r1.2
  ·obtain rfl:=oi (ifF hbg3 hg3)
   try simp -dsimp -implicitDefEqProofs [hbg3]
   exact k
  obtain rfl:=oi (ifT hbg3 hg3)
  try simp -dsimp -implicitDefEqProofs [hbg3]
  exact k) ?_
 refine Ci H (fun H=>?_) fun H=>?_
 ·refine S0 tok [] [6] ?_
  obtain rfl:=oi H
  refine Kp [6] ?_
  refine Wr ?_
  exact⟨[.agg [.fsl [],.fsl [],.fsl [],.int .i64 0,.int .i64 0,.fsl []]],by simp,4,by simp[eN]⟩
 refine Wsk (Jn hK1 ?_)
 refine S0 tok [] [6] ?_
 obtain rfl:=oi H
 refine Kp [6] ?_
 refine Wr ?_
 exact⟨[.agg [.fsl (eL zA r2.1.Codes),.fsl (eL zF r2.1.Threads),.fsl (eL rBox r2.1.Boxes),.int .i64 r2.1.Turn,.int .i64 r2.1.Idle,.fsl (eL rI r2.1.Out)]],by simp,4,by simp[eN]⟩

theorem c51 {p0:gQuad}{p1:Int}{r:List Int}(H:uX p0 p1=some r):APure Tryz.prog G 51 [.agg [.int .i64 p0.Op,.int .i64 p0.Dst,.int .i64 p0.A,.int .i64 p0.B,.int .i64 p0.N],.int .i64 p1] (.fsl (eL rI r)):=by
 refine zE (fun N0=>?_) (by simp)
 refine fnK tok Tryz.func51 Tryz.ntmps51 Tryz.results51 ?_
 simp only[argsA,Nat.reduceAdd,hpN]
 unfold uX at H
 refine S0 tok [0] [1,2] ?_
 refine Wsq [1] fun K1 hK1=>?_
 refine Wbl (Wth ?_)
 refine S0 tok [] [1,2,5] ?_
 refine Ci H (fun H=>?_) fun H=>?_
 ·refine S0 tok [] [4] ?_
  obtain rfl:=oi H;exact Wr ⟨_,rfl,4,by simp[eN]⟩
 refine S0 tok [] [1,2,9] ?_
 refine Ci H (fun H=>?_) fun H=>?_
 ·have q0:∀σ i,bsA T 23 true i 1 [(0,.int .i64 p0.N)] σ=some (.fsl (eL rI ([p0.N]:List Int)),σ):=fun _ _=>rfl
  refine Sx tok [2] [4] (by intro K k;simp -dsimp -implicitDefEqProofs [q0];exact k) ?_
  obtain rfl:=oi H;exact Wr ⟨_,rfl,4,by simp[eN]⟩
 obtain⟨g1,hg1,H⟩:=bE H
 refine Sx tok [] [1,2,16] (X:=[(1,.int .i64 p1),(2,.fptr [.int .i64 p0.Op,.int .i64 p0.Dst,.int .i64 p0.A,.int .i64 p0.B,.int .i64 p0.N] 0),(16,.bool g1)]) (Y:=hp E0 [] (N0+21)) (by
  intro K k
  simp -dsimp -implicitDefEqProofs
  cases hbg1:ieq p0.Op 5
  ·obtain rfl:=oi (ifF hbg1 hg1)
   try simp -dsimp -implicitDefEqProofs [hbg1]
   exact k
  obtain rfl:=oi (ifT hbg1 hg1)
  try simp -dsimp -implicitDefEqProofs [hbg1]
  exact k) ?_
 refine Ci H (fun H=>?_) fun H=>?_
 ·have q1:∀σ i,bsA T 23 true i 2 [(0,.int .i64 p0.N),(1,.int .i64 (iadd .i64 p1 1))] σ=some (.fsl (eL rI ([p0.N,iadd .i64 p1 1]:List Int)),σ):=fun _ _=>rfl
  refine Sx tok [4] [4] (by intro K k;simp -dsimp -implicitDefEqProofs [q1];exact k) ?_
  obtain rfl:=oi H;exact Wr ⟨_,rfl,4,by simp[eN]⟩
 obtain⟨g2,hg2,H⟩:=bE H
 refine Sx tok [] [1,2,32] (X:=[(1,.int .i64 p1),(2,.fptr [.int .i64 p0.Op,.int .i64 p0.Dst,.int .i64 p0.A,.int .i64 p0.B,.int .i64 p0.N] 0),(32,.bool g2)]) (Y:=hp E0 [] (N0+32)) (by
  intro K k
  simp -dsimp -implicitDefEqProofs
  cases hbg2:ieq p0.Op 5
  ·obtain rfl:=oi (ifF hbg2 hg2)
   try simp -dsimp -implicitDefEqProofs [hbg2]
   exact k
  obtain rfl:=oi (ifT hbg2 hg2)
  try simp -dsimp -implicitDefEqProofs [hbg2]
  exact k) ?_
 refine Ci H (fun H=>?_) fun H=>?_
 ·have q2:∀σ i,bsA T 23 true i 2 [(0,.int .i64 (iadd .i64 p1 1)),(1,.int .i64 p0.N)] σ=some (.fsl (eL rI ([iadd .i64 p1 1,p0.N]:List Int)),σ):=fun _ _=>rfl
  refine Sx tok [4] [4] (by intro K k;simp -dsimp -implicitDefEqProofs [q2];exact k) ?_
  obtain rfl:=oi H;exact Wr ⟨_,rfl,4,by simp[eN]⟩
 refine Wsk (Jn hK1 ?_)
 have q3:∀σ i,bsA T 23 true i 1 [(0,.int .i64 (iadd .i64 p1 1))] σ=some (.fsl (eL rI ([iadd .i64 p1 1]:List Int)),σ):=fun _ _=>rfl
 refine Sx tok [2] [4] (by intro K k;simp -dsimp -implicitDefEqProofs [q3];exact k) ?_
 obtain rfl:=oi H;exact Wr ⟨_,rfl,4,by simp[eN]⟩

theorem c18 {p0:List gQuad}{r:List Bool}(H:vD p0=some r):APure Tryz.prog G 18 [.fsl (eL rQuad p0)] (.fsl (eL rB r)):=by
 refine zE (fun N0=>?_) (by simp)
 refine fnK tok Tryz.func18 Tryz.ntmps18 Tryz.results18 ?_
 simp only[argsA,Nat.reduceAdd,hpN]
 unfold vD at H
 refine S0 tok [] [0] ?_
 refine Wsq [0] fun K1 hK1=>?_
 obtain⟨r1,hr1,H⟩:=bE H
 refine Sx tok [] [0,10] (by intro K k;(repeat first|simp -dsimp -implicitDefEqProofs|refine(c50 hr1).app ?_);exact k) ?_
 refine Ci H (fun H=>?_) fun H=>?_
 ·refine S0 tok [] [2] ?_
  obtain rfl:=oi H;exact Wr ⟨_,rfl,4,by simp[eN]⟩
 refine Wsk (Jn hK1 ?_)
 obtain⟨l2,hl2,H⟩:=bE H
 refine Sx tok [] [0,3] (by intro K k;simp -dsimp -implicitDefEqProofs [mak39 hl2];exact k) ?_
 obtain⟨v3,hv3,H⟩:=bE H
 obtain⟨l4,hl4,H⟩:=bE H
 refine Sx tok [] [0,3] (by intro K k;simp -dsimp -implicitDefEqProofs [ixo39 hv3,(show _[0]? =some v3 from(zG hv3).2.2),(show List.set _ 0 _=l4 from(setx_iff.1 hl4).2.symm)];exact k) ?_
 try rw[← zH hl4]
 refine Wsq [3] fun K2 hK2=>?_
 obtain⟨l5,hl5,H⟩:=bE H
 have q0:∀σ i,bsA T 23 false i 1 [(0,.int .i64 0)] σ=some (.sl i 0 (List.length l5),σ.put i ⟨3,1,eL rI l5⟩):=by rw[← Option.some.inj hl5];exact fun _ _=>rfl
 refine Sx tok [] [0,3,4] (by intro K k;simp -dsimp -implicitDefEqProofs [q0];exact k) ?_
 refine Wbl (Wth ?_)
 obtain⟨e2,hse2,H⟩:=bE H
 refine zS [0,3,4] (fun s a σ=>∃M1 o1 o2:Nat,N0≤M1∧N0≤o1∧o1<M1∧N0≤o2∧o2<M1∧¬o1=o2∧a=[(0,.fsl (eL rQuad p0)),(3,.sl o1 0 s.1.length),(4,.sl o2 0 s.2.length)]∧σ=hp E0 [(o1,some ⟨4,1,eL rB s.1⟩),(o2,some ⟨3,1,eL rI s.2⟩)] M1) (fun s x a σ=>x=.exit 0∧Rc G 56 N0 (fun a σ=>∃M2 o3:Nat,N0≤M2∧N0≤o3∧o3<M2∧a=[(3,.sl o3 0 s.length)]∧σ=hp E0 [(o3,some ⟨4,1,eL rB s⟩)] M2) (AAct.keep a [3]) σ) hse2 ?_ ?_ ?_
 ·refine Rc.kp [0,3,4] [(0,.fsl (eL rQuad p0)),(3,.sl (N0+6) 0 l4.length),(4,.sl (N0+11) 0 l5.length)] rfl ?_
  exact Rf ⟨N0+13,(N0+6),(N0+11),(by omega),(by omega),(by omega),(by omega),(by omega),(by omega),rfl,rfl⟩
 ·clear H hse2
  rintro⟨s6,s7⟩ fl a σ H ⟨M1,o1,o2,fM1_0,fM1_1,fM1_2,fM1_3,fM1_4,fM1_5,rfl,rfl⟩ K3 O3 hK3 hO3
  unfold vM at H;dsimp only at H
  refine Wsq [0,3,4] fun K4 hK4=>?_
  refine Sx tok [] [0,3,4,19] (by
   intro K k
   have e0:=nQ o1 o2
   simp -dsimp -implicitDefEqProofs [e0]
   exact k) ?_
  refine Ci H (fun H=>?_) fun H=>?_
  ·refine Wsk (Jn hK4 ?_)
   refine Wbl (Wth ?_)
   obtain⟨v9,hv9,H⟩:=bE H
   refine Sx tok [] [0,3,4,5] (by
    intro K k
    have e0:=nQ o1 o2
    simp -dsimp -implicitDefEqProofs [e0,ixo23 hv9,(zG hv9).2.2]
    exact k) ?_
   obtain⟨l10,hl10,H⟩:=bE H
   refine Sx tok [] [0,3,4,5] (by
    intro K k
    have e0:=nQ o1 o2
    simp -dsimp -implicitDefEqProofs [e0,cutoh_23 hl10]
    exact k) ?_
   refine gTrunc Wre (o:=o2) (ob:=⟨3,1,eL rI s7⟩) l10.length [(o1,some ⟨4,1,eL rB s6⟩),(o2,some ⟨3,1,eL rI l10⟩)] (by simp(disch:=omega)) (by simp(disch:=omega) [cut_take hl10]) ?_
   obtain⟨v11,hv11,H⟩:=bE H
   obtain⟨r12,hr12,H⟩:=bE H
   refine Sx tok [] [0,3,4,36,37,38] (by
    intro K k
    have e0:=nQ o1 o2
    repeat first|simp -dsimp -implicitDefEqProofs [e0,ix34 hv11]|refine(c51 hr12).app ?_
    exact k) ?_
   refine Wbl (Wth ?_)
   obtain⟨e1,hse1,H⟩:=bE H
   refine zS [0,3,4,36,37,38] (fun s a σ=>∃M3 o4 o5:Nat,N0≤M3∧N0≤o4∧o4<M3∧N0≤o5∧o5<M3∧¬o4=o5∧a=[(0,.fsl (eL rQuad p0)),(3,.sl o4 0 s.2.1.length),(4,.sl o5 0 s.2.2.length),(36,.fsl (eL rI r12)),(37,.int .i64 (ilen r12)),(38,.int .i64 s.1)]∧σ=hp E0 [(o4,some ⟨4,1,eL rB s.2.1⟩),(o5,some ⟨3,1,eL rI s.2.2⟩)] M3) (fun s x a σ=>x=.exit 2∧Rc G 56 N0 (fun a σ=>∃M4 o6 o7:Nat,N0≤M4∧N0≤o6∧o6<M4∧N0≤o7∧o7<M4∧¬o6=o7∧a=[(0,.fsl (eL rQuad p0)),(3,.sl o6 0 s.1.length),(4,.sl o7 0 s.2.length)]∧σ=hp E0 [(o6,some ⟨4,1,eL rB s.1⟩),(o7,some ⟨3,1,eL rI s.2⟩)] M4) (AAct.keep a [0,3,4]) σ) hse1 ?_ ?_ ?_
   ·refine Rc.kp [0,3,4,36,37,38] [(0,.fsl (eL rQuad p0)),(3,.sl o1 0 s6.length),(4,.sl o2 0 l10.length),(36,.fsl (eL rI r12)),(37,.int .i64 (ilen r12)),(38,.int .i64 0)] rfl ?_
    exact Rf ⟨M1+24,o1,o2,(by omega),(by omega),(by omega),(by omega),(by omega),(by omega),rfl,rfl⟩
   ·clear H hse1
    rintro⟨s13,s14,s15⟩ fl a σ H ⟨M3,o4,o5,fM3_0,fM3_1,fM3_2,fM3_3,fM3_4,fM3_5,rfl,rfl⟩ K5 O5 hK5 hO5
    unfold vL at H;dsimp only at H
    refine Sx tok [] [0,3,4,36,37,38,39] (by
     intro K k
     have e0:=nQ o4 o5
     simp -dsimp -implicitDefEqProofs [e0]
     exact k) ?_
    refine Wsq [0,3,4,36,37,38] fun K6 hK6=>?_
    refine Ci H (fun H=>?_) fun H=>?_
    ·refine Wsk (Jn hK6 ?_)
     refine Wsq [0,3,4,36,37,38] fun K7 hK7=>?_
     refine Wbl (Wth ?_)
     obtain⟨v18,hv18,H⟩:=bE H
     refine Sx tok [] [0,3,4,7,36,37,38] (by
      intro K k
      have e0:=nQ o4 o5
      simp -dsimp -implicitDefEqProofs [e0,ix23 hv18]
      exact k) ?_
     obtain⟨v19,hv19,H⟩:=bE H
     refine Sx tok [] [0,3,4,7,36,37,38,46] (by
      intro K k
      have e0:=nQ o4 o5
      simp -dsimp -implicitDefEqProofs [e0,ixo39 hv19,(zG hv19).2.2]
      exact k) ?_
     refine Ci H (fun H=>?_) fun H=>?_
     ·obtain⟨l20,hl20,H⟩:=bE H
      refine Sx tok [] [0,3,4,7,36,37,38] (by
       intro K k
       have e0:=nQ o4 o5
       simp -dsimp -implicitDefEqProofs [e0,ixo39 hv19,(zG hv19).2.2,(setx_iff.1 hl20).2.symm]
       exact k) ?_
      try rw[← zH hl20]
      obtain⟨l21,hl21,H⟩:=bE H
      have q1:∀σ i,bsA T 23 true i 1 [(0,.int .i64 v18)] σ=some (.fsl (eL rI ([v18]:List Int)),σ):=fun _ _=>rfl
      refine Rt tok [2] [0,3,4,36,37,38] (by
       intro K k
       have e0:=nQ o4 o5
       have e1:=nQ o4 (M3+16)
       have e2:=nQ o5 (M3+16)
       simp -dsimp -implicitDefEqProofs [e0,e1,e2,q1,app23 hl21]
       exact k) fun a ha=>?_
      refine hK7 _ _ ?_;rw[ha]
      refine Rc.mk ?_
      refine Rt tok [] [0,3,4,36,37,38] (by
       intro K k
       have e0:=nQ o4 (M3+16)
       simp -dsimp -implicitDefEqProofs [e0]
       exact k) fun a ha=>?_
      obtain rfl:=oi H
      refine hK5 _ _ _ rfl ?_;rw[ha]
      exact Rf ⟨M3+20,o4,(M3+16),(by omega),(by omega),(by omega),(by omega),(by omega),(by omega),rfl,rfl⟩
     refine Wsk (Jn hK7 ?_)
     refine Rt tok [] [0,3,4,36,37,38] (by
      intro K k
      have e0:=nQ o4 o5
      simp -dsimp -implicitDefEqProofs [e0]
      exact k) fun a ha=>?_
     obtain rfl:=oi H
     refine hK5 _ _ _ rfl ?_;rw[ha]
     exact Rf ⟨M3+11,o4,o5,(by omega),(by omega),(by omega),(by omega),(by omega),(by omega),rfl,rfl⟩
    obtain rfl:=oi H
    refine zJ (hO5 _ _ _ _ rfl ⟨rfl,?_⟩)
    refine Rc.rw (l:=[0,3,4]) (X:=[(0,.fsl (eL rQuad p0)),(3,.sl o4 0 s14.length),(4,.sl o5 0 s15.length)]) rfl ?_
    exact Rf ⟨M3+1,o4,o5,(by omega),(by omega),(by omega),(by omega),(by omega),(by omega),rfl,rfl⟩
   intro x a σ hx
   obtain⟨y16,y17⟩:=e1
   obtain⟨rfl,b,τ,hr,M4,o6,o7,fM4_0,fM4_1,fM4_2,fM4_3,fM4_4,fM4_5,rfl,rfl⟩:=hx
   (try dsimp only at H)
   show K3 _ _
   obtain rfl:=oi H
   refine hK3 _ _ _ rfl (zK hr ?_)
   exact Rf ⟨M4,o6,o7,(by omega),(by omega),(by omega),(by omega),(by omega),(by omega),rfl,rfl⟩
  obtain rfl:=oi H
  refine zJ (hO3 _ _ _ _ rfl ⟨rfl,?_⟩)
  refine Rc.rw (l:=[3]) (X:=[(3,.sl o1 0 s6.length)]) rfl ?_
  exact Rc.fin (zP (AHeap.Sub.trans (AHeap.Sub.refl _) (zY rfl (by simp;try omega)))) ⟨M1+3,o1,(by omega),(by omega),(by omega),rfl,rfl⟩
 intro x a σ hx
 obtain⟨y8,rfl⟩:∃x,x=e2:=⟨_,rfl⟩
 obtain⟨rfl,b,τ,hr,M2,o3,fM2_0,fM2_1,fM2_2,rfl,rfl⟩:=hx
 (try dsimp only at H)
 show K2 _ _
 refine hK2 _ _ (zK hr ?_)
 refine Rc.mk ?_
 refine S0 tok [] [2] ?_
 obtain rfl:=oi H;exact Wr ⟨_,rfl,4,by simp[eN]⟩
end Go.Proofs.YtolmjhgondilhaaGreat
