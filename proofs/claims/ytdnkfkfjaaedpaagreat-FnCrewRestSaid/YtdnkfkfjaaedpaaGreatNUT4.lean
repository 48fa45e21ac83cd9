/- The contracts of functions of the program (UT4): each computes what its mirror computes. No conditions. -/
import Derived.Test.YtdnkfkfjaaedpaaGreatNUT3
set_option linter.unusedSimpArgs false
set_option linter.unusedVariables false
set_option maxRecDepth 20000
set_option maxHeartbeats 4000000
namespace Go.Proofs.YtdnkfkfjaaedpaaGreat
open Go Go.Abs Go.RowKit

theorem c45 {p0:List Int}{p1:(List (List gQuad))}{p2:Int}{r:gCrew}(H:gG p0 p1 p2=some r):APure Tryz.prog G 45 [.fsl (eL rI p0),.fsl (eL zA p1),.int .i64 p2] (.agg [.fsl (eL zA r.Codes),.fsl (eL zF r.Threads),.fsl (eL rBox r.Boxes),.int .i64 r.Turn,.int .i64 r.Idle,.fsl (eL rI r.Out)]):=by
 refine zE (fun N0=>?_) (by simp)
 refine fnK tok Tryz.func45 Tryz.ntmps45 Tryz.results45 ?_
 simp only[argsA,Nat.reduceAdd,hpN]
 unfold gG at H
 refine S0 tok [] [0,1,2,6] ?_
 refine gW Wre N0 0 0 ?_
 refine gW Wre N0 0 1 ?_
 refine gW Wre N0 0 2 ?_
 refine gW Wre N0 0 5 ?_
 obtain⟨r1,hr1,H⟩:=bE H
 refine Sx tok [] [2,6,7,8] (by intro K k;(repeat first|simp -dsimp -implicitDefEqProofs|refine(c41 hr1).app ?_);exact k) ?_
 obtain⟨r2,hr2,H⟩:=bE H
 refine Sx tok [] [6,8,9,10] (by intro K k;(repeat first|simp -dsimp -implicitDefEqProofs|refine(c46 hr2).app ?_);exact k) ?_
 refine Wsq [6,9] fun K1 hK1=>?_
 obtain⟨g3,hg3,H⟩:=bE H
 refine Sx tok [] [6,9,28] (X:=[(6,.ptr N0 0 0),(9,.ptr (N0+16) 0 0),(28,.bool g3)]) (Y:=hp E0 [(N0,some ⟨59,6,[[.fsl [],.fsl [],.fsl [],.int .i64 0,.int .i64 0,.fsl []]]⟩),(N0+7,some ⟨59,6,[[.fsl (eL zA r1.1.Codes),.fsl (eL zF r1.1.Threads),.fsl (eL rBox r1.1.Boxes),.int .i64 r1.1.Turn,.int .i64 r1.1.Idle,.fsl (eL rI r1.1.Out)]]⟩),(N0+16,some ⟨59,6,[[.fsl (eL zA r2.1.Codes),.fsl (eL zF r2.1.Threads),.fsl (eL rBox r2.1.Boxes),.int .i64 r2.1.Turn,.int .i64 r2.1.Idle,.fsl (eL rI r2.1.Out)]]⟩)] (N0+25)) (by
  intro K k
  simp -dsimp -implicitDefEqProofs
  cases hbg3:bnot r1.2
  ·obtain rfl:=oi (ifF hbg3 hg3)
   try simp -dsimp -implicitDefEqProofs [hbg3]
   exact k
  obtain rfl:=oi (ifT hbg3 hg3)
  try simp -dsimp -implicitDefEqProofs [hbg3]
  exact k) ?_
 refine Ci H (fun H=>?_) fun H=>?_
 ·refine S0 tok [] [6] ?_
  obtain rfl:=oi H
  refine Kp [6] ?_
  refine Wr ?_
  exact⟨[.agg [.fsl [],.fsl [],.fsl [],.int .i64 0,.int .i64 0,.fsl []]],by simp,4,by simp[eN]⟩
 refine Wsk (Jn hK1 ?_)
 refine S0 tok [] [6] ?_
 obtain rfl:=oi H
 refine Kp [6] ?_
 refine Wr ?_
 exact⟨[.agg [.fsl (eL zA r2.1.Codes),.fsl (eL zF r2.1.Threads),.fsl (eL rBox r2.1.Boxes),.int .i64 r2.1.Turn,.int .i64 r2.1.Idle,.fsl (eL rI r2.1.Out)]],by simp,4,by simp[eN]⟩

theorem c24 {p0:List gQuad}{p1:gThread}{p2:List gBox}{r:gThread×(List gBox)×(List Int)×Int}(H:uC p0 p1 p2=some r):APure Tryz.prog G 24 [.fsl (eL rQuad p0),.agg [.fsl (eL rI p1.Regs),.int .i64 p1.Pc],.fsl (eL rBox p2)] (.tup [.agg [.fsl (eL rI r.1.Regs),.int .i64 r.1.Pc],.fsl (eL rBox r.2.1),.fsl (eL rI r.2.2.1),.int .i64 r.2.2.2]):=by
 refine zE (fun N0=>?_) (by simp)
 refine fnK tok Tryz.func24 Tryz.ntmps24 Tryz.results24 ?_
 simp only[argsA,Nat.reduceAdd,hpN]
 unfold uC at H
 refine S0 tok [0] [0,2,4,6] ?_
 refine Wsq [0,2,4,6] fun K1 hK1=>?_
 refine gW Wre (N0+1) 0 0 ?_
 obtain⟨r1,hr1,H⟩:=bE H
 obtain⟨g3,hg3,H⟩:=bE H
 obtain⟨g6,hg6,H⟩:=bE H
 refine Sx tok [] [0,2,4,6,33] (X:=[(0,.fsl (eL rQuad p0)),(2,.fsl (eL rBox p2)),(4,.fptr [.fsl (eL rI p1.Regs),.int .i64 p1.Pc] 0),(6,.ptr (N0+1) 0 0),(33,.bool g6)]) (Y:=hp E0 [(N0+1,some ⟨26,2,[[.fsl [],.int .i64 0]]⟩)] (N0+25)) (by
  intro K k
  simp -dsimp -implicitDefEqProofs
  refine(c30 hr1).app ?_;try simp -dsimp -implicitDefEqProofs
  cases hbg3:bnot r1
  ·replace hg3:=ifF hbg3 hg3
   obtain⟨r2,hr2,hg3⟩:=bE hg3
   obtain rfl:=oi hg3
   try simp -dsimp -implicitDefEqProofs [hbg3]
   refine(c68 hr2).app ?_;try simp -dsimp -implicitDefEqProofs [hbg3]
   cases hbg6:(bnot r2)
   ·replace hg6:=ifF hbg6 hg6
    obtain⟨v4,hv4,hg6⟩:=bE hg6
    obtain⟨r5,hr5,hg6⟩:=bE hg6
    obtain rfl:=oi hg6
    try simp -dsimp -implicitDefEqProofs [hbg3,hbg6,ix23 hv4]
    refine(c69 hr5).app ?_;try simp -dsimp -implicitDefEqProofs [hbg3,hbg6,ix23 hv4]
    exact k
   obtain rfl:=oi (ifT hbg6 hg6)
   try simp -dsimp -implicitDefEqProofs [hbg3,hbg6]
   exact k
  obtain rfl:=oi (ifT hbg3 hg3)
  obtain rfl:=oi (ifT rfl hg6)
  try simp -dsimp -implicitDefEqProofs [hbg3]
  exact k) ?_
 refine Ci H (fun H=>?_) fun H=>?_
 ·refine S0 tok [] [6,7,8,9] ?_
  obtain rfl:=oi H
  refine Kp [6,7,8,9] ?_
  refine Wr ?_
  exact⟨[.agg [.fsl [],.int .i64 0],.nilsl,.nilsl,.int .i64 0],by simp,4,by simp[eN]⟩
 refine Wsk (Jn hK1 ?_)
 obtain⟨r7,hr7,H⟩:=bE H
 refine AWP_syC tok tokM [] [2,6,7] [0,1,3,4,2,5,6,7] [] [0,2,6,10] (fun a σ=>∃M1 o1:Nat,N0+33≤M1∧N0+33≤o1∧o1<M1∧a=[(0,.fsl (eL rQuad p0)),(2,.fsl (eL rBox p2)),(6,.ptr (N0+1) 0 0),(10,.ptr (N0+31) 0 0)]∧σ=hp E0 [(N0+1,some ⟨26,2,[[.fsl [],.int .i64 0]]⟩),(o1,some ⟨3,1,eL rI r7⟩),(N0+31,some ⟨26,2,[[.sl o1 0 r7.length,.int .i64 p1.Pc]]⟩)] M1) (by decide) (by kernel_rfl) (fun K hK=>?_) ?_
 ·simp only[pickL,zN,zO]
  simp -dsimp -implicitDefEqProofs
  refine(c70_o (H:=hr7)).mono ?_;rintro _ _ ⟨M1,o1,fM1_0,fM1_1,fM1_2,rfl,rfl⟩;simp only[hpN] at fM1_0 fM1_1 fM1_2
  have eM1_0:=nQ o1 (N0+1)
  have eM1_1:=nQ o1 (N0+31)
  try simp -dsimp -implicitDefEqProofs [eM1_0,eM1_1,hoS,hoN]
  exact hK _ _ ⟨M1,o1,(by omega),(by omega),(by omega),rfl,rfl⟩
 rintro a σ ⟨M1,o1,fM1_0,fM1_1,fM1_2,rfl,rfl⟩
 refine gP Wre (N0+31) 0 0 ?_
 obtain⟨r8,hr8,H⟩:=bE H
 refine jH tok [] [0,6,10,11] (fun a σ=>∃M2 o2:Nat,M1+3≤M2∧M1+3≤o2∧o2<M2∧a=[(0,.fsl (eL rQuad p0)),(6,.ptr (N0+1) 0 0),(10,.ptr (N0+31) 0 0),(11,.sl o2 0 r8.length)]∧σ=hp E0 [(N0+1,some ⟨26,2,[[.fsl [],.int .i64 0]]⟩),(N0+31,some ⟨26,2,[[.osl 3 1 (eL rI r7),.int .i64 p1.Pc]]⟩),(o2,some ⟨40,2,eL kA r8⟩)] M2) (fun K hK=>?_) ?_
 ·skip
  simp -dsimp -implicitDefEqProofs
  refine(c71_o2 (H:=hr8)).mono ?_;rintro _ _ ⟨M2,o2,fM2_0,fM2_1,fM2_2,rfl,rfl⟩;simp only[hpN] at fM2_0 fM2_1 fM2_2
  have eM2_0:=nQ o2 (N0+1)
  have eM2_1:=nQ o2 (N0+31)
  try simp -dsimp -implicitDefEqProofs [eM2_0,eM2_1,hoS,hoN]
  exact hK _ _ ⟨M2,o2,(by omega),(by omega),(by omega),rfl,rfl⟩
 rintro a σ ⟨M2,o2,fM2_0,fM2_1,fM2_2,rfl,rfl⟩
 refine Sx tok [] [0,6,10,11,12] (by
  intro K k
  have e0:=nQ (N0+1) o2
  have e1:=nQ (N0+1) M2
  have e2:=nQ (N0+31) o2
  have e3:=nQ (N0+31) M2
  have e4:=nQ o2 M2
  simp -dsimp -implicitDefEqProofs [e0,e1,e2,e3,e4]
  exact k) ?_
 refine gP0 Wre M2 0 0 3 1 (eL rI ([]:List Int)) ?_
 obtain⟨r9,hr9,H⟩:=bE H
 refine jH tok [] [6,10,11,12,13] (fun a σ=>∃M3:Nat,M2+5≤M3∧r9.2.2.1.length=r8.length∧a=[(6,.ptr (N0+1) 0 0),(10,.ptr (N0+31) 0 0),(11,.sl o2 0 r8.length),(12,.ptr M2 0 0),(13,.int .i64 r9.1)]∧σ=hp E0 [(N0+1,some ⟨26,2,[[.fsl [],.int .i64 0]]⟩),(N0+31,some ⟨26,2,[[.osl 3 1 (eL rI r9.2.1.Regs),.int .i64 r9.2.1.Pc]]⟩),(o2,some ⟨40,2,eL kA r9.2.2.1⟩),(M2,some ⟨24,1,[[.osl 3 1 (eL rI r9.2.2.2)]]⟩)] M3) (fun K hK=>?_) ?_
 ·skip
  have e0:=nQ (N0+1) o2
  have e1:=nQ (N0+1) M2
  have e2:=nQ (N0+31) o2
  have e3:=nQ (N0+31) M2
  have e4:=nQ o2 M2
  simp -dsimp -implicitDefEqProofs [e0,e1,e2,e3,e4]
  refine(c72 (W0:=[[.osl 3 1 (eL rI r7),.int .i64 p1.Pc]]) (r0_:=0) (W3:=[[.osl 3 1 (eL rI ([]:List Int))]]) (r3_:=0) (x3_:=[.osl 3 1 (eL rI ([]:List Int))]) (i3_:=0) (t3_:=24) (s3_:=1) (H:=hr9) (by simp[e0,e1,e2,e3,e4]) (by simp[e0,e1,e2,e3,e4]) (by simp[e0,e1,e2,e3,e4]) (by simp[e0,e1,e2,e3,e4]) (by simp[e0,e1,e2,e3,e4]) (by simp[e0,e1,e2,e3,e4]) (by simp[e0,e1,e2,e3,e4]) (by simp[e0,e1,e2,e3,e4]) (by simp[e0,e1,e2,e3,e4])).mono ?_;rintro _ _ ⟨M3,fM3_0,fM3_1,rfl,rfl⟩;simp only[hpN] at fM3_0
  try simp -dsimp -implicitDefEqProofs [e0,e1,e2,e3,e4,hoS,hoN]
  exact hK _ _ ⟨M3,(by omega),fM3_1,rfl,rfl⟩
 rintro a σ ⟨M3,fM3_0,fM3_1,rfl,rfl⟩
 try rw[← fM3_1]
 refine gU Wre (N0+31) 0 0 ?_
 refine gU Wre M2 0 0 ?_
 refine AWP_sy tok tokM [] [0,2,4,5] [1,3,0,2,4,5,6,7] [(4,[2])] [6,7,8,9] (fun a σ=>a=[(6,.ptr (N0+1) 0 0),(7,.sl o2 0 r9.2.2.1.length),(8,.sl (M3+1) 0 r9.2.2.2.length),(9,.int .i64 r9.1)]∧σ=hp E0 [(N0+1,some ⟨26,2,[[.sl M3 0 r9.2.1.Regs.length,.int .i64 r9.2.1.Pc]]⟩),(N0+31,some ⟨26,2,[[.sl M3 0 r9.2.1.Regs.length,.int .i64 r9.2.1.Pc]]⟩),(o2,some ⟨40,2,eL kA r9.2.2.1⟩),(M2,some ⟨24,1,[[.sl (M3+1) 0 r9.2.2.2.length]]⟩),(M3,some ⟨3,1,eL rI r9.2.1.Regs⟩),(M3+1,some ⟨3,1,eL rI r9.2.2.2⟩)] (M3+10)) (by decide) (fun K hK=>?_) ?_
 ·simp only[pickL,zN,zO]
  have e0:=nQ (N0+1) o2
  have e1:=nQ (N0+1) M2
  have e2:=nQ (N0+1) M3
  have e3:=nQ (N0+1) (M3+1)
  have e4:=nQ N0 M3
  have e5:=nQ (N0+31) o2
  have e6:=nQ (N0+31) M2
  have e7:=nQ (N0+31) M3
  have e8:=nQ (N0+31) (M3+1)
  have e9:=nQ (N0+30) M3
  have e10:=nQ o2 M2
  have e11:=nQ o2 M3
  have e12:=nQ o2 (M3+1)
  have e13:=nQ M2 M3
  have e14:=nQ M2 (M3+1)
  simp -dsimp -implicitDefEqProofs [e0,e1,e2,e3,e4,e5,e6,e7,e8,e9,e10,e11,e12,e13,e14]
  exact hK _ _ ⟨rfl,rfl⟩
 rintro a σ ⟨rfl,rfl⟩
 obtain rfl:=oi H
 refine Kp [6,7,8,9] ?_
 have z0:=nQ (N0+1) o2
 have z1:=nQ (N0+1) M2
 have z2:=nQ (N0+1) M3
 have z3:=nQ (N0+1) (M3+1)
 have z4:=nQ N0 M3
 have z5:=nQ (N0+31) o2
 have z6:=nQ (N0+31) M2
 have z7:=nQ (N0+31) M3
 have z8:=nQ (N0+31) (M3+1)
 have z9:=nQ (N0+30) M3
 have z10:=nQ o2 M2
 have z11:=nQ o2 M3
 have z12:=nQ o2 (M3+1)
 have z13:=nQ M2 M3
 have z14:=nQ M2 (M3+1)
 refine Wr ?_
 exact⟨[.agg [.sl M3 0 r9.2.1.Regs.length,.int .i64 r9.2.1.Pc],.sl o2 0 r9.2.2.1.length,.sl (M3+1) 0 r9.2.2.2.length,.int .i64 r9.1],by simp[z0,z1,z2,z3,z4,z5,z6,z7,z8,z9,z10,z11,z12,z13,z14],4,by simp[eN,z0,z1,z2,z3,z4,z5,z6,z7,z8,z9,z10,z11,z12,z13,z14]⟩
end Go.Proofs.YtdnkfkfjaaedpaaGreat
