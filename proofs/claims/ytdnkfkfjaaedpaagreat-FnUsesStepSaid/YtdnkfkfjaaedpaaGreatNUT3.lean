/- The contracts of functions of the program (UT3): each computes what its mirror computes. No conditions. -/
import Derived.Test.YtdnkfkfjaaedpaaGreatNUT2
set_option linter.unusedSimpArgs false
set_option linter.unusedVariables false
set_option maxRecDepth 20000
set_option maxHeartbeats 4000000
namespace Go.Proofs.YtdnkfkfjaaedpaaGreat
open Go Go.Abs Go.RowKit

theorem c23 {p0:(List Int)}{r:(List gQuad)×gThread×(List gBox)}(H:kQ p0=some r):APure Tryz.prog G 23 [.fsl (eL rU8 p0)] (.tup [.fsl (eL rQuad r.1),.agg [.fsl (eL rI r.2.1.Regs),.int .i64 r.2.1.Pc],.fsl (eL rBox r.2.2)]):=by
 refine zB (fun N0=>?_) (by simp)
 refine fnK tok Tryz.func23 Tryz.ntmps23 Tryz.results23 ?_
 simp only[argsA,Nat.reduceAdd,hpN]
 unfold kQ at H
 refine S0 tok [] [0,3] ?_
 refine gW Wre (N0+1) 0 0 ?_
 obtain⟨r1,hr1,H⟩:=bE H
 refine kX tok [] [3,5] (fun a σ=>∃M1 o1:Nat,N0+6≤M1∧N0+6≤o1∧o1<M1∧a=[(3,.ptr (N0+1) 0 0),(5,.ptr o1 0 0)]∧σ=hp E0 [(N0+1,some ⟨26,2,[[.fsl [],.int .i64 0]]⟩),(o1,some ⟨127,2,[[.fsl (eL rU8 r1.b),.int .i64 r1.p]]⟩)] M1) (fun K hK=>?_) ?_
 ·skip
  simp -dsimp -implicitDefEqProofs
  refine(c64_o (H:=hr1)).mono ?_;rintro _ _ ⟨M1,o1,fM1_0,fM1_1,fM1_2,rfl,rfl⟩;simp only[hpN] at fM1_0 fM1_1 fM1_2
  have eM1_0:=nQ o1 (N0+1)
  try simp -dsimp -implicitDefEqProofs [eM1_0,hoS,hoN]
  exact hK _ _ ⟨M1,o1,(by omega),(by omega),(by omega),rfl,rfl⟩
 rintro a σ ⟨M1,o1,fM1_0,fM1_1,fM1_2,rfl,rfl⟩
 obtain⟨r2,hr2,H⟩:=bE H
 refine Sm tok [] [3,5,6] (M1+3) (by
  intro K k
  have e0:=nQ (N0+1) o1
  simp -dsimp -implicitDefEqProofs [e0]
  refine(c65 (W0:=[[.fsl (eL rU8 r1.b),.int .i64 r1.p]]) (r0_:=0) (H:=hr2) (by simp[e0]) (by simp[e0])).mono ?_;rintro _ _ ⟨M2,fM2_0,rfl,rfl⟩;simp only[hpN] at fM2_0
  try simp -dsimp -implicitDefEqProofs [e0,hoS,hoN]
  exact k M2 (by omega)) fun M2 fM2_0=>?_
 obtain⟨r3,hr3,H⟩:=bE H
 refine Sm tok [] [3,5,6,7] (M2+5) (by
  intro K k
  have e0:=nQ (N0+1) o1
  have e1:=nQ (N0+1) (M2+3)
  have e2:=nQ N0 (M2+2)
  have e3:=nQ o1 (M2+3)
  simp -dsimp -implicitDefEqProofs [e0,e1,e2,e3]
  refine(c66 (W0:=[[.fsl (eL rU8 r2.2.b),.int .i64 r2.2.p]]) (r0_:=0) (H:=hr3) (by simp[e0,e1,e2,e3]) (by simp[e0,e1,e2,e3])).mono ?_;rintro _ _ ⟨M3,fM3_0,rfl,rfl⟩;simp only[hpN] at fM3_0
  try simp -dsimp -implicitDefEqProofs [e0,e1,e2,e3,hoS,hoN]
  exact k M3 (by omega)) fun M3 fM3_0=>?_
 obtain⟨r4,hr4,H⟩:=bE H
 refine AWP_sy tok tokM [] [1,3,4,5] [0,2,1,3,4,5,6] [(3,[1])] [2,3,4] (fun a σ=>∃M4:Nat,M3+7≤M4∧a=[(2,.fsl (eL rQuad r2.1)),(3,.ptr (N0+1) 0 0),(4,.fsl (eL rBox r4.1))]∧σ=hp E0 [(N0+1,some ⟨26,2,[[.fsl (eL rI r3.1.Regs),.int .i64 r3.1.Pc]]⟩),(o1,some ⟨127,2,[[.fsl (eL rU8 r4.2.b),.int .i64 r4.2.p]]⟩),(M2+3,some ⟨26,2,[[.fsl (eL rI r3.1.Regs),.int .i64 r3.1.Pc]]⟩)] M4) (by decide) (fun K hK=>?_) ?_
 ·simp only[pickL,zH,zJ]
  have e0:=nQ (N0+1) o1
  have e1:=nQ (N0+1) (M2+3)
  have e2:=nQ N0 (M2+2)
  have e3:=nQ o1 (M2+3)
  simp -dsimp -implicitDefEqProofs [e0,e1,e2,e3]
  refine(c67 (W0:=[[.fsl (eL rU8 r3.2.b),.int .i64 r3.2.p]]) (r0_:=0) (H:=hr4) (by simp[e0,e1,e2,e3]) (by simp[e0,e1,e2,e3])).mono ?_;rintro _ _ ⟨M4,fM4_0,rfl,rfl⟩;simp only[hpN] at fM4_0
  try simp -dsimp -implicitDefEqProofs [e0,e1,e2,e3,hoS,hoN]
  exact hK _ _ ⟨M4,(by omega),rfl,rfl⟩
 rintro a σ ⟨M4,fM4_0,rfl,rfl⟩
 obtain rfl:=oi H
 refine Kp [2,3,4] ?_
 have z0:=nQ (N0+1) o1
 have z1:=nQ (N0+1) (M2+3)
 have z2:=nQ N0 (M2+2)
 have z3:=nQ o1 (M2+3)
 refine Wr ?_
 exact⟨[.fsl (eL rQuad r2.1),.agg [.fsl (eL rI r3.1.Regs),.int .i64 r3.1.Pc],.fsl (eL rBox r4.1)],by simp[z0,z1,z2,z3],4,by simp[eN,z0,z1,z2,z3]⟩

theorem c125 {p0:Int}{r:Bool}(H:i_isReg p0=some r):APure Tryz.prog G 125 [.int .i64 p0] (.bool r):=by
 refine zB (fun N0=>?_) (by simp)
 refine fnK tok Tryz.func125 Tryz.ntmps125 Tryz.results125 ?_
 simp only[argsA,Nat.reduceAdd,hpN]
 unfold i_isReg at H
 refine S0 tok [] [0] ?_
 obtain⟨g1,hg1,H⟩:=bE H
 refine Sx tok [] [2] (X:=[(2,.bool g1)]) (Y:=hp E0 [] (N0+8)) (by
  intro K k
  simp -dsimp -implicitDefEqProofs
  cases hbg1:ige p0 0
  ·obtain rfl:=oi (ifF hbg1 hg1)
   try simp -dsimp -implicitDefEqProofs [hbg1]
   exact k
  obtain rfl:=oi (ifT hbg1 hg1)
  try simp -dsimp -implicitDefEqProofs [hbg1]
  exact k) ?_
 obtain rfl:=oi H;exact Wr ⟨_,rfl,4,by simp[eN]⟩

theorem c81 {p0:Int}{r:Bool}(H:jB p0=some r):APure Tryz.prog G 81 [.int .i64 p0] (.bool r):=by
 refine zB (fun N0=>?_) (by simp)
 refine fnK tok Tryz.func81 Tryz.ntmps81 Tryz.results81 ?_
 simp only[argsA,Nat.reduceAdd,hpN]
 unfold jB at H
 refine S0 tok [] [0] ?_
 obtain⟨g1,hg1,H⟩:=bE H
 refine Sx tok [] [2] (X:=[(2,.bool g1)]) (Y:=hp E0 [] (N0+8)) (by
  intro K k
  simp -dsimp -implicitDefEqProofs
  cases hbg1:ige p0 (-2147483648)
  ·obtain rfl:=oi (ifF hbg1 hg1)
   try simp -dsimp -implicitDefEqProofs [hbg1]
   exact k
  obtain rfl:=oi (ifT hbg1 hg1)
  try simp -dsimp -implicitDefEqProofs [hbg1]
  exact k) ?_
 obtain rfl:=oi H;exact Wr ⟨_,rfl,4,by simp[eN]⟩

theorem c80 {p0:Int}{r:Bool}(H:i_OpValid p0=some r):APure Tryz.prog G 80 [.int .i64 p0] (.bool r):=by
 refine zB (fun N0=>?_) (by simp)
 refine fnK tok Tryz.func80 Tryz.ntmps80 Tryz.results80 ?_
 simp only[argsA,Nat.reduceAdd,hpN]
 unfold i_OpValid at H
 refine S0 tok [] [0] ?_
 obtain⟨g1,hg1,H⟩:=bE H
 refine Sx tok [] [2] (X:=[(2,.bool g1)]) (Y:=hp E0 [] (N0+8)) (by
  intro K k
  simp -dsimp -implicitDefEqProofs
  cases hbg1:ige p0 1
  ·obtain rfl:=oi (ifF hbg1 hg1)
   try simp -dsimp -implicitDefEqProofs [hbg1]
   exact k
  obtain rfl:=oi (ifT hbg1 hg1)
  try simp -dsimp -implicitDefEqProofs [hbg1]
  exact k) ?_
 obtain rfl:=oi H;exact Wr ⟨_,rfl,4,by simp[eN]⟩

theorem c84 {p0:gQuad}{p1:Int}{r:Bool}(H:jY p0 p1=some r):APure Tryz.prog G 84 [.agg [.int .i64 p0.Op,.int .i64 p0.Dst,.int .i64 p0.A,.int .i64 p0.B,.int .i64 p0.N],.int .i64 p1] (.bool r):=by
 refine zB (fun N0=>?_) (by simp)
 refine fnK tok Tryz.func84 Tryz.ntmps84 Tryz.results84 ?_
 simp only[argsA,Nat.reduceAdd,hpN]
 unfold jY at H
 refine S0 tok [0] [1,2] ?_
 obtain⟨r1,hr1,H⟩:=bE H
 obtain⟨r2,hr2,H⟩:=bE H
 obtain⟨r3,hr3,H⟩:=bE H
 refine Sd tok tokM [] [] [0,1,2,3,4,5,6,7,8,9,10,11,12,13,14] [1,2,5,6,7,8] (by
  intro K k
  simp only[pickL,zH,zJ]
  repeat first|simp -dsimp -implicitDefEqProofs|refine Pc.mk (c125 hr1) ?_|refine Pc.mk (c125 hr2) ?_|refine Pc.mk (c125 hr3) ?_
  exact k) ?_
 refine Wsq [] fun K1 hK1=>?_
 refine S0 tok [] [1,2,5,6,7,8,21] ?_
 refine Wbl (Wth ?_)
 refine S0 tok [] [1,2,5,6,7,8,21,22] ?_
 refine Cd (fun C1=>?_) fun C1=>?_
 ·replace H:=ifT C1 H
  obtain⟨g4,hg4,H⟩:=bE H
  obtain⟨g6,hg6,H⟩:=bE H
  refine Sx tok [] [4] (X:=[(4,.bool g6)]) (Y:=hp E0 [] (N0+35)) (by
   intro K k
   simp -dsimp -implicitDefEqProofs
   cases hbg4:eqD p0 (⟨1,p0.Dst,0,0,p0.N⟩:gQuad)
   ·obtain rfl:=oi (ifF hbg4 hg4)
    obtain rfl:=oi (ifF rfl hg6)
    try simp -dsimp -implicitDefEqProofs [hbg4]
    exact k
   obtain rfl:=oi (ifT hbg4 hg4)
   try simp -dsimp -implicitDefEqProofs [hbg4]
   cases hbg6:r1
   ·obtain rfl:=oi (ifF hbg6 hg6)
    try simp -dsimp -implicitDefEqProofs [hbg4,hbg6]
    exact k
   replace hg6:=ifT hbg6 hg6
   obtain⟨r5,hr5,hg6⟩:=bE hg6
   obtain rfl:=oi hg6
   try simp -dsimp -implicitDefEqProofs [hbg4,hbg6]
   refine(c81 hr5).app ?_;try simp -dsimp -implicitDefEqProofs [hbg4,hbg6]
   exact k) ?_
  obtain rfl:=oi H;exact Wr ⟨_,rfl,4,by simp[eN]⟩
 replace H:=ifF C1 H
 refine S0 tok [] [1,2,5,6,7,8,21,37] ?_
 refine Cd (fun C2=>?_) fun C2=>?_
 ·replace H:=ifT C2 H
  obtain⟨g7,hg7,H⟩:=bE H
  obtain⟨g8,hg8,H⟩:=bE H
  refine Sx tok [] [4] (X:=[(4,.bool g8)]) (Y:=hp E0 [] (N0+37)) (by
   intro K k
   simp -dsimp -implicitDefEqProofs
   cases hbg7:eqD p0 (⟨2,p0.Dst,p0.A,0,0⟩:gQuad)
   ·obtain rfl:=oi (ifF hbg7 hg7)
    obtain rfl:=oi (ifF rfl hg8)
    try simp -dsimp -implicitDefEqProofs [hbg7]
    exact k
   obtain rfl:=oi (ifT hbg7 hg7)
   try simp -dsimp -implicitDefEqProofs [hbg7]
   cases hbg8:r1
   ·obtain rfl:=oi (ifF hbg8 hg8)
    try simp -dsimp -implicitDefEqProofs [hbg7,hbg8]
    exact k
   obtain rfl:=oi (ifT hbg8 hg8)
   try simp -dsimp -implicitDefEqProofs [hbg7,hbg8]
   exact k) ?_
  obtain rfl:=oi H;exact Wr ⟨_,rfl,4,by simp[eN]⟩
 replace H:=ifF C2 H
 refine S0 tok [] [1,2,5,6,7,8,21,52] ?_
 refine Cd (fun C3=>?_) fun C3=>?_
 ·replace H:=ifT C3 H
  obtain⟨g9,hg9,H⟩:=bE H
  obtain⟨g10,hg10,H⟩:=bE H
  obtain⟨g12,hg12,H⟩:=bE H
  refine Sx tok [] [4] (X:=[(4,.bool g12)]) (Y:=hp E0 [] (N0+37)) (by
   intro K k
   simp -dsimp -implicitDefEqProofs
   cases hbg9:r1
   ·obtain rfl:=oi (ifF hbg9 hg9)
    obtain rfl:=oi (ifF rfl hg10)
    obtain rfl:=oi (ifF rfl hg12)
    try simp -dsimp -implicitDefEqProofs [hbg9]
    exact k
   obtain rfl:=oi (ifT hbg9 hg9)
   try simp -dsimp -implicitDefEqProofs [hbg9]
   cases hbg10:r2
   ·obtain rfl:=oi (ifF hbg10 hg10)
    obtain rfl:=oi (ifF rfl hg12)
    try simp -dsimp -implicitDefEqProofs [hbg9,hbg10]
    exact k
   obtain rfl:=oi (ifT hbg10 hg10)
   try simp -dsimp -implicitDefEqProofs [hbg9,hbg10]
   cases hbg12:r3
   ·obtain rfl:=oi (ifF hbg12 hg12)
    try simp -dsimp -implicitDefEqProofs [hbg9,hbg10,hbg12]
    exact k
   replace hg12:=ifT hbg12 hg12
   obtain⟨r11,hr11,hg12⟩:=bE hg12
   obtain rfl:=oi hg12
   try simp -dsimp -implicitDefEqProofs [hbg9,hbg10,hbg12]
   refine(c80 hr11).app ?_;try simp -dsimp -implicitDefEqProofs [hbg9,hbg10,hbg12]
   exact k) ?_
  obtain rfl:=oi H;exact Wr ⟨_,rfl,4,by simp[eN]⟩
 replace H:=ifF C3 H
 refine S0 tok [] [1,2,5,6,8,21,65] ?_
 refine Cd (fun C4=>?_) fun C4=>?_
 ·replace H:=ifT C4 H
  obtain⟨g13,hg13,H⟩:=bE H
  obtain⟨g14,hg14,H⟩:=bE H
  refine Sx tok [] [4] (X:=[(4,.bool g14)]) (Y:=hp E0 [] (N0+41)) (by
   intro K k
   simp -dsimp -implicitDefEqProofs
   cases hbg13:eqD p0 (⟨4,0,0,0,p0.N⟩:gQuad)
   ·obtain rfl:=oi (ifF hbg13 hg13)
    obtain rfl:=oi (ifF rfl hg14)
    try simp -dsimp -implicitDefEqProofs [hbg13]
    exact k
   obtain rfl:=oi (ifT hbg13 hg13)
   try simp -dsimp -implicitDefEqProofs [hbg13]
   cases hbg14:(ige p0.N 0)
   ·obtain rfl:=oi (ifF hbg14 hg14)
    try simp -dsimp -implicitDefEqProofs [hbg13,hbg14]
    exact k
   obtain rfl:=oi (ifT hbg14 hg14)
   try simp -dsimp -implicitDefEqProofs [hbg13,hbg14]
   exact k) ?_
  obtain rfl:=oi H;exact Wr ⟨_,rfl,4,by simp[eN]⟩
 replace H:=ifF C4 H
 refine S0 tok [] [1,2,5,6,8,21,80] ?_
 refine Cd (fun C5=>?_) fun C5=>?_
 ·replace H:=ifT C5 H
  obtain⟨g15,hg15,H⟩:=bE H
  obtain⟨g16,hg16,H⟩:=bE H
  obtain⟨g17,hg17,H⟩:=bE H
  refine Sx tok [] [4] (X:=[(4,.bool g17)]) (Y:=hp E0 [] (N0+48)) (by
   intro K k
   simp -dsimp -implicitDefEqProofs
   cases hbg15:eqD p0 (⟨5,0,p0.A,0,p0.N⟩:gQuad)
   ·obtain rfl:=oi (ifF hbg15 hg15)
    obtain rfl:=oi (ifF rfl hg16)
    obtain rfl:=oi (ifF rfl hg17)
    try simp -dsimp -implicitDefEqProofs [hbg15]
    exact k
   obtain rfl:=oi (ifT hbg15 hg15)
   try simp -dsimp -implicitDefEqProofs [hbg15]
   cases hbg16:r2
   ·obtain rfl:=oi (ifF hbg16 hg16)
    obtain rfl:=oi (ifF rfl hg17)
    try simp -dsimp -implicitDefEqProofs [hbg15,hbg16]
    exact k
   obtain rfl:=oi (ifT hbg16 hg16)
   try simp -dsimp -implicitDefEqProofs [hbg15,hbg16]
   cases hbg17:(ige p0.N 0)
   ·obtain rfl:=oi (ifF hbg17 hg17)
    try simp -dsimp -implicitDefEqProofs [hbg15,hbg16,hbg17]
    exact k
   obtain rfl:=oi (ifT hbg17 hg17)
   try simp -dsimp -implicitDefEqProofs [hbg15,hbg16,hbg17]
   exact k) ?_
  obtain rfl:=oi H;exact Wr ⟨_,rfl,4,by simp[eN]⟩
 replace H:=ifF C5 H
 refine S0 tok [] [2,5,6,8,21,100] ?_
 refine Cd (fun C6=>?_) fun C6=>?_
 ·replace H:=ifT C6 H
  obtain⟨g18,hg18,H⟩:=bE H
  obtain⟨g19,hg19,H⟩:=bE H
  obtain⟨g20,hg20,H⟩:=bE H
  refine Sx tok [] [4] (X:=[(4,.bool g20)]) (Y:=hp E0 [] (N0+49)) (by
   intro K k
   simp -dsimp -implicitDefEqProofs
   cases hbg18:eqD p0 (⟨6,0,p0.A,0,p0.N⟩:gQuad)
   ·obtain rfl:=oi (ifF hbg18 hg18)
    obtain rfl:=oi (ifF rfl hg19)
    obtain rfl:=oi (ifF rfl hg20)
    try simp -dsimp -implicitDefEqProofs [hbg18]
    exact k
   obtain rfl:=oi (ifT hbg18 hg18)
   try simp -dsimp -implicitDefEqProofs [hbg18]
   cases hbg19:r2
   ·obtain rfl:=oi (ifF hbg19 hg19)
    obtain rfl:=oi (ifF rfl hg20)
    try simp -dsimp -implicitDefEqProofs [hbg18,hbg19]
    exact k
   obtain rfl:=oi (ifT hbg19 hg19)
   try simp -dsimp -implicitDefEqProofs [hbg18,hbg19]
   cases hbg20:(ige p0.N 0)
   ·obtain rfl:=oi (ifF hbg20 hg20)
    try simp -dsimp -implicitDefEqProofs [hbg18,hbg19,hbg20]
    exact k
   obtain rfl:=oi (ifT hbg20 hg20)
   try simp -dsimp -implicitDefEqProofs [hbg18,hbg19,hbg20]
   exact k) ?_
  obtain rfl:=oi H;exact Wr ⟨_,rfl,4,by simp[eN]⟩
 replace H:=ifF C6 H
 refine S0 tok [] [2,5,6,8,21,119] ?_
 refine Cd (fun C7=>?_) fun C7=>?_
 ·replace H:=ifT C7 H
  obtain⟨g21,hg21,H⟩:=bE H
  obtain⟨g22,hg22,H⟩:=bE H
  obtain⟨g23,hg23,H⟩:=bE H
  refine Sx tok [] [4] (X:=[(4,.bool g23)]) (Y:=hp E0 [] (N0+51)) (by
   intro K k
   simp -dsimp -implicitDefEqProofs
   cases hbg21:eqD p0 (⟨7,p0.Dst,0,0,p0.N⟩:gQuad)
   ·obtain rfl:=oi (ifF hbg21 hg21)
    obtain rfl:=oi (ifF rfl hg22)
    obtain rfl:=oi (ifF rfl hg23)
    try simp -dsimp -implicitDefEqProofs [hbg21]
    exact k
   obtain rfl:=oi (ifT hbg21 hg21)
   try simp -dsimp -implicitDefEqProofs [hbg21]
   cases hbg22:r1
   ·obtain rfl:=oi (ifF hbg22 hg22)
    obtain rfl:=oi (ifF rfl hg23)
    try simp -dsimp -implicitDefEqProofs [hbg21,hbg22]
    exact k
   obtain rfl:=oi (ifT hbg22 hg22)
   try simp -dsimp -implicitDefEqProofs [hbg21,hbg22]
   cases hbg23:(ige p0.N 0)
   ·obtain rfl:=oi (ifF hbg23 hg23)
    try simp -dsimp -implicitDefEqProofs [hbg21,hbg22,hbg23]
    exact k
   obtain rfl:=oi (ifT hbg23 hg23)
   try simp -dsimp -implicitDefEqProofs [hbg21,hbg22,hbg23]
   exact k) ?_
  obtain rfl:=oi H;exact Wr ⟨_,rfl,4,by simp[eN]⟩
 replace H:=ifF C7 H
 refine S0 tok [] [2,6,21,138] ?_
 refine Cd (fun C8=>?_) fun C8=>?_
 ·replace H:=ifT C8 H
  obtain⟨g24,hg24,H⟩:=bE H
  refine Sx tok [] [4] (X:=[(4,.bool g24)]) (Y:=hp E0 [] (N0+44)) (by
   intro K k
   simp -dsimp -implicitDefEqProofs
   cases hbg24:eqD p0 (⟨9,0,p0.A,0,0⟩:gQuad)
   ·obtain rfl:=oi (ifF hbg24 hg24)
    try simp -dsimp -implicitDefEqProofs [hbg24]
    exact k
   obtain rfl:=oi (ifT hbg24 hg24)
   try simp -dsimp -implicitDefEqProofs [hbg24]
   exact k) ?_
  obtain rfl:=oi H;exact Wr ⟨_,rfl,4,by simp[eN]⟩
 replace H:=ifF C8 H
 obtain⟨j1,hj1,H⟩:=bE H
 refine kL (kI fun K2 hK2=>?_)
 have hJ1:∀a σ,Rc G 156 N0 (fun a σ=>∃M1:Nat,N0≤M1∧a=[(2,.fptr [.int .i64 p0.Op,.int .i64 p0.Dst,.int .i64 p0.A,.int .i64 p0.B,.int .i64 p0.N] 0),(148,.bool j1)]∧σ=hp E0 [] M1) (a.keep [2,148]) σ→K2 a σ:=by
  rintro a σ ⟨b,τ,hr,M1,fM1_0,rfl,rfl⟩
  refine hK2 _ _ (kA [2,148] (Wre hr ?_))
  refine Cd (fun C9=>?_) fun C9=>?_
  ·replace H:=ifT C9 H
   refine S0 tok [] [4] ?_
   obtain rfl:=oi H;exact Wr ⟨_,rfl,4,by simp[eN]⟩
  replace H:=ifF C9 H
  refine Wsk (Jn hK1 ?_)
  refine S0 tok [] [4] ?_
  obtain rfl:=oi H;exact Wr ⟨_,rfl,4,by simp[eN]⟩
 replace H:=hj1
 refine S0 tok [] [2,21,148] ?_
 refine Cd (fun C10=>?_) fun C10=>?_
 ·replace H:=ifT C10 H
  refine Wsk ?_
  show K2 _ _
  refine kE [2,148] fun a' ha=>?_
  obtain rfl:=oi H
  refine hJ1 _ _ ?_;rw[ha]
  exact Rf ⟨N0+37,(by omega),rfl,rfl⟩
 replace H:=ifF C10 H
 refine Rt0 tok [] [2,148] fun a ha=>?_
 obtain rfl:=oi H
 refine hJ1 _ _ ?_;rw[ha]
 exact Rf ⟨N0+39,(by omega),rfl,rfl⟩

theorem c78 {p0:(List gQuad)}{r:Bool}(H:i_CodeValid p0=some r):APure Tryz.prog G 78 [.fsl (eL rQuad p0)] (.bool r):=by
 refine zB (fun N0=>?_) (by simp)
 refine fnK tok Tryz.func78 Tryz.ntmps78 Tryz.results78 ?_
 simp only[argsA,Nat.reduceAdd,hpN]
 unfold i_CodeValid at H
 refine S0 tok [] [0] ?_
 refine Wsq [0] fun K1 hK1=>?_
 obtain⟨g1,hg1,H⟩:=bE H
 refine Sx tok [] [0,13] (X:=[(0,.fsl (eL rQuad p0)),(13,.bool g1)]) (Y:=hp E0 [] (N0+9)) (by
  intro K k
  simp -dsimp -implicitDefEqProofs
  cases hbg1:ilt (ilen p0) 1
  ·obtain rfl:=oi (ifF hbg1 hg1)
   try simp -dsimp -implicitDefEqProofs [hbg1]
   exact k
  obtain rfl:=oi (ifT hbg1 hg1)
  try simp -dsimp -implicitDefEqProofs [hbg1]
  exact k) ?_
 refine Cd (fun C1=>?_) fun C1=>?_
 ·replace H:=ifT C1 H
  refine S0 tok [] [2] ?_
  obtain rfl:=oi H;exact Wr ⟨_,rfl,4,by simp[eN]⟩
 replace H:=ifF C1 H
 refine Wsk (Jn hK1 ?_)
 refine Wsq [0] fun K2 hK2=>?_
 refine S0 tok [] [0,14,15,16] ?_
 refine Wbl (Wth ?_)
 obtain⟨e1,hse1,H⟩:=bE H
 refine zU [0,14,15,16] (fun s a σ=>∃M1:Nat,N0≤M1∧a=[(0,.fsl (eL rQuad p0)),(14,.fsl (eL rQuad p0)),(15,.int .i64 (ilen p0)),(16,.int .i64 s)]∧σ=hp E0 [] M1) (fun e x a σ=>match e with|.inl s=>x=.exit 0∧Rc G 39 N0 (fun a σ=>∃M2:Nat,N0≤M2∧a=[(0,.fsl (eL rQuad p0))]∧σ=hp E0 [] M2) (AAct.keep a [0]) σ|.inr s=>x=.ret∧∃vs,resA T σ a [.tmp 2]=some vs∧∃d,thawA (fun _=>true) σ d (tupA vs)=.bool s) hse1 ?_ ?_ ?_
 ·refine Rc.kp [0,14,15,16] [(0,.fsl (eL rQuad p0)),(14,.fsl (eL rQuad p0)),(15,.int .i64 (ilen p0)),(16,.int .i64 0)] rfl ?_
  exact Rf ⟨N0+12,(by omega),rfl,rfl⟩
 ·clear H hse1
  rintro s2 fl a σ H ⟨M1,fM1_0,rfl,rfl⟩ K3 O3 hK3 hO3
  unfold i_CodeValid_L1 at H;dsimp only at H
  refine S0 tok [] [0,14,15,16,17] ?_
  refine Wsq [0,14,15,16] fun K4 hK4=>?_
  refine Cd (fun C2=>?_) fun C2=>?_
  ·replace H:=ifT C2 H
   refine Wsk (Jn hK4 ?_)
   refine Wsq [0,14,15,16] fun K5 hK5=>?_
   refine Wbl (Wth ?_)
   obtain⟨v3,hv3,H⟩:=bE H
   refine Sx tok [] [0,4,14,15,16] (by intro K k;simp -dsimp -implicitDefEqProofs [ix23 hv3];exact k) ?_
   obtain⟨r4,hr4,H⟩:=bE H
   refine Sx tok [] [0,14,15,16,24] (by intro K k;(repeat first|simp -dsimp -implicitDefEqProofs|refine(c84 hr4).app ?_);exact k) ?_
   refine Cd (fun C3=>?_) fun C3=>?_
   ·replace H:=ifT C3 H
    refine S0 tok [] [2] ?_
    obtain rfl:=oi H
    refine Kp [2] ?_
    refine Wr (hO3 _ _ _ _ rfl ⟨rfl,?_⟩)
    exact⟨[.bool false],by simp,4,by simp[eN]⟩
   replace H:=ifF C3 H
   refine Wsk (Jn hK5 ?_)
   refine Rt0 tok [] [0,14,15,16] fun a ha=>?_
   obtain rfl:=oi H
   refine hK3 _ _ _ rfl ?_;rw[ha]
   exact Rc.fin (AHeap.Sub.trans (AHeap.Sub.refl _) (zR rfl (by simp;try omega))) ⟨M1+12,(by omega),rfl,rfl⟩
  obtain rfl:=oi (ifF C2 H)
  refine zM (hO3 _ _ _ _ rfl ⟨rfl,?_⟩)
  refine Rc.rw (l:=[0]) (X:=[(0,.fsl (eL rQuad p0))]) rfl ?_
  exact Rf ⟨M1+1,(by omega),rfl,rfl⟩
 intro x a σ hx
 rcases e1 with⟨⟩|r0
 ·obtain⟨rfl,b,τ,hr,M2,fM2_0,rfl,rfl⟩:=hx
  (try dsimp only at H)
  show K2 _ _
  refine hK2 _ _ (zL hr ?_)
  refine Rc.mk ?_
  obtain⟨v5,hv5,H⟩:=bE H
  refine Sx tok [] [5] (by intro K k;simp -dsimp -implicitDefEqProofs [ix23 hv5];exact k) ?_
  obtain⟨g6,hg6,H⟩:=bE H
  refine Sx tok [] [2] (X:=[(2,.bool g6)]) (Y:=hp E0 [] (M2+15)) (by
   intro K k
   simp -dsimp -implicitDefEqProofs
   cases hbg6:ieq v5.Op 10
   ·obtain rfl:=oi (ifF hbg6 hg6)
    try simp -dsimp -implicitDefEqProofs [hbg6]
    exact k
   obtain rfl:=oi (ifT hbg6 hg6)
   try simp -dsimp -implicitDefEqProofs [hbg6]
   exact k) ?_
  obtain rfl:=oi H;exact Wr ⟨_,rfl,4,by simp[eN]⟩
 obtain⟨rfl,hx2⟩:=hx
 (try dsimp only at H)
 obtain rfl:=oi H;first|exact hx2|(simp only[List.set_set] at hx2 ⊢;exact hx2)

theorem c77 {p0:(List Int)}{r:Bool}(H:i_areWords p0=some r):APure Tryz.prog G 77 [.fsl (eL rI p0)] (.bool r):=by
 refine zB (fun N0=>?_) (by simp)
 refine fnK tok Tryz.func77 Tryz.ntmps77 Tryz.results77 ?_
 simp only[argsA,Nat.reduceAdd,hpN]
 unfold i_areWords at H
 refine S0 tok [] [0] ?_
 refine Wsq [] fun K1 hK1=>?_
 refine S0 tok [] [5,6,7] ?_
 refine Wbl (Wth ?_)
 obtain⟨e1,hse1,H⟩:=bE H
 refine zU [5,6,7] (fun s a σ=>∃M1:Nat,N0≤M1∧a=[(5,.fsl (eL rI p0)),(6,.int .i64 (ilen p0)),(7,.int .i64 s)]∧σ=hp E0 [] M1) (fun e x a σ=>match e with|.inl s=>x=.exit 0∧Rc G 15 N0 (fun a σ=>∃M2:Nat,N0≤M2∧a=[]∧σ=hp E0 [] M2) (AAct.keep a []) σ|.inr s=>x=.ret∧∃vs,resA T σ a [.tmp 2]=some vs∧∃d,thawA (fun _=>true) σ d (tupA vs)=.bool s) hse1 ?_ ?_ ?_
 ·refine Rc.kp [5,6,7] [(5,.fsl (eL rI p0)),(6,.int .i64 (ilen p0)),(7,.int .i64 0)] rfl ?_
  exact Rf ⟨N0+4,(by omega),rfl,rfl⟩
 ·clear H hse1
  rintro s1 fl a σ H ⟨M1,fM1_0,rfl,rfl⟩ K2 O2 hK2 hO2
  unfold wE at H;dsimp only at H
  refine S0 tok [] [5,6,7,8] ?_
  refine Wsq [5,6,7] fun K3 hK3=>?_
  refine Cd (fun C1=>?_) fun C1=>?_
  ·replace H:=ifT C1 H
   refine Wsk (Jn hK3 ?_)
   refine Wsq [5,6,7] fun K4 hK4=>?_
   refine Wbl (Wth ?_)
   obtain⟨v2,hv2,H⟩:=bE H
   refine Sx tok [] [4,5,6,7] (by intro K k;simp -dsimp -implicitDefEqProofs [ix24 hv2];exact k) ?_
   obtain⟨r3,hr3,H⟩:=bE H
   refine Sx tok [] [5,6,7,13] (by intro K k;(repeat first|simp -dsimp -implicitDefEqProofs|refine(c81 hr3).app ?_);exact k) ?_
   refine Cd (fun C2=>?_) fun C2=>?_
   ·replace H:=ifT C2 H
    refine S0 tok [] [2] ?_
    obtain rfl:=oi H
    refine Kp [2] ?_
    refine Wr (hO2 _ _ _ _ rfl ⟨rfl,?_⟩)
    exact⟨[.bool false],by simp,4,by simp[eN]⟩
   replace H:=ifF C2 H
   refine Wsk (Jn hK4 ?_)
   refine Rt0 tok [] [5,6,7] fun a ha=>?_
   obtain rfl:=oi H
   refine hK2 _ _ _ rfl ?_;rw[ha]
   exact Rf ⟨M1+9,(by omega),rfl,rfl⟩
  obtain rfl:=oi (ifF C1 H)
  refine zM (hO2 _ _ _ _ rfl ⟨rfl,?_⟩)
  refine Rc.rw (l:=[]) (X:=[]) rfl ?_
  exact Rf ⟨M1+1,(by omega),rfl,rfl⟩
 intro x a σ hx
 rcases e1 with⟨⟩|r0
 ·obtain⟨rfl,b,τ,hr,M2,fM2_0,rfl,rfl⟩:=hx
  (try dsimp only at H)
  show K1 _ _
  refine hK1 _ _ (zL hr ?_)
  refine Rc.mk ?_
  refine S0 tok [] [2] ?_
  obtain rfl:=oi H;exact Wr ⟨_,rfl,4,by simp[eN]⟩
 obtain⟨rfl,hx2⟩:=hx
 (try dsimp only at H)
 obtain rfl:=oi H;first|exact hx2|(simp only[List.set_set] at hx2 ⊢;exact hx2)

theorem c79 {p0:gThread}{p1:(List gQuad)}{r:Bool}(H:i_threadFits p0 p1=some r):APure Tryz.prog G 79 [.agg [.fsl (eL rI p0.Regs),.int .i64 p0.Pc],.fsl (eL rQuad p1)] (.bool r):=by
 refine zB (fun N0=>?_) (by simp)
 refine fnK tok Tryz.func79 Tryz.ntmps79 Tryz.results79 ?_
 simp only[argsA,Nat.reduceAdd,hpN]
 unfold i_threadFits at H
 refine S0 tok [0] [1,2] ?_
 obtain⟨g2,hg2,H⟩:=bE H
 obtain⟨g3,hg3,H⟩:=bE H
 obtain⟨g4,hg4,H⟩:=bE H
 refine Sx tok [] [4] (X:=[(4,.bool g4)]) (Y:=hp E0 [] (N0+24)) (by
  intro K k
  simp -dsimp -implicitDefEqProofs
  cases hbg2:ieq (ilen p0.Regs) 12
  ·obtain rfl:=oi (ifF hbg2 hg2)
   obtain rfl:=oi (ifF rfl hg3)
   obtain rfl:=oi (ifF rfl hg4)
   try simp -dsimp -implicitDefEqProofs [hbg2]
   exact k
  replace hg2:=ifT hbg2 hg2
  obtain⟨r1,hr1,hg2⟩:=bE hg2
  obtain rfl:=oi hg2
  try simp -dsimp -implicitDefEqProofs [hbg2]
  refine(c77 hr1).app ?_;try simp -dsimp -implicitDefEqProofs [hbg2]
  cases hbg3:r1
  ·obtain rfl:=oi (ifF hbg3 hg3)
   obtain rfl:=oi (ifF rfl hg4)
   try simp -dsimp -implicitDefEqProofs [hbg2,hbg3]
   exact k
  obtain rfl:=oi (ifT hbg3 hg3)
  try simp -dsimp -implicitDefEqProofs [hbg2,hbg3]
  cases hbg4:(ige p0.Pc 0)
  ·obtain rfl:=oi (ifF hbg4 hg4)
   try simp -dsimp -implicitDefEqProofs [hbg2,hbg3,hbg4]
   exact k
  obtain rfl:=oi (ifT hbg4 hg4)
  try simp -dsimp -implicitDefEqProofs [hbg2,hbg3,hbg4]
  exact k) ?_
 obtain rfl:=oi H;exact Wr ⟨_,rfl,4,by simp[eN]⟩

theorem c30 {p0:gThread}{p1:(List gQuad)}{r:Bool}(H:wF p0 p1=some r):APure Tryz.prog G 30 [.agg [.fsl (eL rI p0.Regs),.int .i64 p0.Pc],.fsl (eL rQuad p1)] (.bool r):=by
 refine zB (fun N0=>?_) (by simp)
 refine fnK tok Tryz.func30 Tryz.ntmps30 Tryz.results30 ?_
 simp only[argsA,Nat.reduceAdd,hpN]
 unfold wF at H
 refine S0 tok [0] [1,2] ?_
 obtain⟨r1,hr1,H⟩:=bE H
 obtain⟨g3,hg3,H⟩:=bE H
 refine Sx tok [] [4] (X:=[(4,.bool g3)]) (Y:=hp E0 [] (N0+10)) (by
  intro K k
  simp -dsimp -implicitDefEqProofs
  refine(c78 hr1).app ?_;try simp -dsimp -implicitDefEqProofs
  cases hbg3:r1
  ·obtain rfl:=oi (ifF hbg3 hg3)
   try simp -dsimp -implicitDefEqProofs [hbg3]
   exact k
  replace hg3:=ifT hbg3 hg3
  obtain⟨r2,hr2,hg3⟩:=bE hg3
  obtain rfl:=oi hg3
  try simp -dsimp -implicitDefEqProofs [hbg3]
  refine(c79 hr2).app ?_;try simp -dsimp -implicitDefEqProofs [hbg3]
  exact k) ?_
 obtain rfl:=oi H;exact Wr ⟨_,rfl,4,by simp[eN]⟩

theorem c29 {p0:gBox}{r:Bool}(H:wO p0=some r):APure Tryz.prog G 29 [.agg [.int .i64 p0.Room,.fsl (eL rI p0.Items)]] (.bool r):=by
 refine zB (fun N0=>?_) (by simp)
 refine fnK tok Tryz.func29 Tryz.ntmps29 Tryz.results29 ?_
 simp only[argsA,Nat.reduceAdd,hpN]
 unfold wO at H
 refine S0 tok [0] [1] ?_
 obtain⟨g1,hg1,H⟩:=bE H
 obtain⟨g2,hg2,H⟩:=bE H
 obtain⟨g4,hg4,H⟩:=bE H
 refine Sx tok [] [2] (X:=[(2,.bool g4)]) (Y:=hp E0 [] (N0+24)) (by
  intro K k
  simp -dsimp -implicitDefEqProofs
  cases hbg1:ige p0.Room 1
  ·obtain rfl:=oi (ifF hbg1 hg1)
   obtain rfl:=oi (ifF rfl hg2)
   obtain rfl:=oi (ifF rfl hg4)
   try simp -dsimp -implicitDefEqProofs [hbg1]
   exact k
  obtain rfl:=oi (ifT hbg1 hg1)
  try simp -dsimp -implicitDefEqProofs [hbg1]
  cases hbg2:(ile p0.Room 4)
  ·obtain rfl:=oi (ifF hbg2 hg2)
   obtain rfl:=oi (ifF rfl hg4)
   try simp -dsimp -implicitDefEqProofs [hbg1,hbg2]
   exact k
  obtain rfl:=oi (ifT hbg2 hg2)
  try simp -dsimp -implicitDefEqProofs [hbg1,hbg2]
  cases hbg4:(ile (ilen p0.Items) p0.Room)
  ·obtain rfl:=oi (ifF hbg4 hg4)
   try simp -dsimp -implicitDefEqProofs [hbg1,hbg2,hbg4]
   exact k
  replace hg4:=ifT hbg4 hg4
  obtain⟨r3,hr3,hg4⟩:=bE hg4
  obtain rfl:=oi hg4
  try simp -dsimp -implicitDefEqProofs [hbg1,hbg2,hbg4]
  refine(c77 hr3).app ?_;try simp -dsimp -implicitDefEqProofs [hbg1,hbg2,hbg4]
  exact k) ?_
 obtain rfl:=oi H;exact Wr ⟨_,rfl,4,by simp[eN]⟩

theorem c68 {p0:(List gBox)}{r:Bool}(H:xE p0=some r):APure Tryz.prog G 68 [.fsl (eL rBox p0)] (.bool r):=by
 refine zB (fun N0=>?_) (by simp)
 refine fnK tok Tryz.func68 Tryz.ntmps68 Tryz.results68 ?_
 simp only[argsA,Nat.reduceAdd,hpN]
 unfold xE at H
 refine S0 tok [] [0] ?_
 refine Wsq [0] fun K1 hK1=>?_
 refine S0 tok [] [0,5,6,7] ?_
 refine Wbl (Wth ?_)
 obtain⟨e1,hse1,H⟩:=bE H
 refine zU [0,5,6,7] (fun s a σ=>∃M1:Nat,N0≤M1∧a=[(0,.fsl (eL rBox p0)),(5,.fsl (eL rBox p0)),(6,.int .i64 (ilen p0)),(7,.int .i64 s)]∧σ=hp E0 [] M1) (fun e x a σ=>match e with|.inl s=>x=.exit 0∧Rc G 18 N0 (fun a σ=>∃M2:Nat,N0≤M2∧a=[(0,.fsl (eL rBox p0))]∧σ=hp E0 [] M2) (AAct.keep a [0]) σ|.inr s=>x=.ret∧∃vs,resA T σ a [.tmp 2]=some vs∧∃d,thawA (fun _=>true) σ d (tupA vs)=.bool s) hse1 ?_ ?_ ?_
 ·refine Rc.kp [0,5,6,7] [(0,.fsl (eL rBox p0)),(5,.fsl (eL rBox p0)),(6,.int .i64 (ilen p0)),(7,.int .i64 0)] rfl ?_
  exact Rf ⟨N0+4,(by omega),rfl,rfl⟩
 ·clear H hse1
  rintro s1 fl a σ H ⟨M1,fM1_0,rfl,rfl⟩ K2 O2 hK2 hO2
  unfold jA at H;dsimp only at H
  refine S0 tok [] [0,5,6,7,8] ?_
  refine Wsq [0,5,6,7] fun K3 hK3=>?_
  refine Cd (fun C1=>?_) fun C1=>?_
  ·replace H:=ifT C1 H
   refine Wsk (Jn hK3 ?_)
   refine Wsq [0,5,6,7] fun K4 hK4=>?_
   refine Wbl (Wth ?_)
   obtain⟨v2,hv2,H⟩:=bE H
   refine Sx tok [] [0,4,5,6,7] (by intro K k;simp -dsimp -implicitDefEqProofs [ix27 hv2];exact k) ?_
   obtain⟨r3,hr3,H⟩:=bE H
   refine Sx tok [] [0,5,6,7,13] (by intro K k;(repeat first|simp -dsimp -implicitDefEqProofs|refine(c29 hr3).app ?_);exact k) ?_
   refine Cd (fun C2=>?_) fun C2=>?_
   ·replace H:=ifT C2 H
    refine S0 tok [] [2] ?_
    obtain rfl:=oi H
    refine Kp [2] ?_
    refine Wr (hO2 _ _ _ _ rfl ⟨rfl,?_⟩)
    exact⟨[.bool false],by simp,4,by simp[eN]⟩
   replace H:=ifF C2 H
   refine Wsk (Jn hK4 ?_)
   refine Rt0 tok [] [0,5,6,7] fun a ha=>?_
   obtain rfl:=oi H
   refine hK2 _ _ _ rfl ?_;rw[ha]
   exact Rc.fin (AHeap.Sub.trans (AHeap.Sub.refl _) (zR rfl (by simp;try omega))) ⟨M1+10,(by omega),rfl,rfl⟩
  obtain rfl:=oi (ifF C1 H)
  refine zM (hO2 _ _ _ _ rfl ⟨rfl,?_⟩)
  refine Rc.rw (l:=[0]) (X:=[(0,.fsl (eL rBox p0))]) rfl ?_
  exact Rf ⟨M1+1,(by omega),rfl,rfl⟩
 intro x a σ hx
 rcases e1 with⟨⟩|r0
 ·obtain⟨rfl,b,τ,hr,M2,fM2_0,rfl,rfl⟩:=hx
  (try dsimp only at H)
  show K1 _ _
  refine hK1 _ _ (zL hr ?_)
  refine Rc.mk ?_
  refine S0 tok [] [2] ?_
  obtain rfl:=oi H;exact Wr ⟨_,rfl,4,by simp[eN]⟩
 obtain⟨rfl,hx2⟩:=hx
 (try dsimp only at H)
 obtain rfl:=oi H;first|exact hx2|(simp only[List.set_set] at hx2 ⊢;exact hx2)

theorem c69 {p0:gQuad}{p1:Int}{r:Bool}(H:i_boxThere p0 p1=some r):APure Tryz.prog G 69 [.agg [.int .i64 p0.Op,.int .i64 p0.Dst,.int .i64 p0.A,.int .i64 p0.B,.int .i64 p0.N],.int .i64 p1] (.bool r):=by
 refine zB (fun N0=>?_) (by simp)
 refine fnK tok Tryz.func69 Tryz.ntmps69 Tryz.results69 ?_
 simp only[argsA,Nat.reduceAdd,hpN]
 unfold i_boxThere at H
 refine S0 tok [0] [1,2] ?_
 obtain⟨g1,hg1,H⟩:=bE H
 obtain⟨g2,hg2,H⟩:=bE H
 refine Sx tok [] [4] (X:=[(4,.bool g2)]) (Y:=hp E0 [] (N0+17)) (by
  intro K k
  simp -dsimp -implicitDefEqProofs
  cases hbg1:ine p0.Op 6
  ·obtain rfl:=oi (ifF hbg1 hg1)
   obtain rfl:=oi (ifF rfl hg2)
   try simp -dsimp -implicitDefEqProofs [hbg1]
   exact k
  obtain rfl:=oi (ifT hbg1 hg1)
  try simp -dsimp -implicitDefEqProofs [hbg1]
  cases hbg2:(ine p0.Op 7)
  ·obtain rfl:=oi (ifF hbg2 hg2)
   try simp -dsimp -implicitDefEqProofs [hbg1,hbg2]
   exact k
  obtain rfl:=oi (ifT hbg2 hg2)
  try simp -dsimp -implicitDefEqProofs [hbg1,hbg2]
  exact k) ?_
 obtain rfl:=oi H;exact Wr ⟨_,rfl,4,by simp[eN]⟩

theorem c124 {p0:Bool}{r:Int}(H:i_truth p0=some r):APure Tryz.prog G 124 [.bool p0] (.int .i64 r):=by
 refine zB (fun N0=>?_) (by simp)
 refine fnK tok Tryz.func124 Tryz.ntmps124 Tryz.results124 ?_
 simp only[argsA,Nat.reduceAdd,hpN]
 unfold i_truth at H
 refine S0 tok [] [0] ?_
 refine Wsq [] fun K1 hK1=>?_
 refine S0 tok [] [3] ?_
 refine Cd (fun C1=>?_) fun C1=>?_
 ·replace H:=ifT C1 H
  refine S0 tok [] [2] ?_
  obtain rfl:=oi H;exact Wr ⟨_,rfl,4,by simp[eN]⟩
 replace H:=ifF C1 H
 refine Wsk (Jn hK1 ?_)
 refine S0 tok [] [2] ?_
 obtain rfl:=oi H;exact Wr ⟨_,rfl,4,by simp[eN]⟩

theorem c58 {p0:Int}{r:Int}(H:i_Wrap p0=some r):APure Tryz.prog G 58 [.int .i64 p0] (.int .i64 r):=by
 refine zB (fun N0=>?_) (by simp)
 refine fnK tok Tryz.func58 Tryz.ntmps58 Tryz.results58 ?_
 simp only[argsA,Nat.reduceAdd,hpN]
 unfold i_Wrap at H
 refine S0 tok [] [0] ?_
 refine S0 tok [] [2] ?_
 obtain rfl:=oi H;exact Wr ⟨_,rfl,4,by simp[eN]⟩

theorem c82 {p0:Int}{p1:Int}{p2:Int}{r:Int}(H:i_apply p0 p1 p2=some r):APure Tryz.prog G 82 [.int .i64 p0,.int .i64 p1,.int .i64 p2] (.int .i64 r):=by
 refine zB (fun N0=>?_) (by simp)
 refine fnK tok Tryz.func82 Tryz.ntmps82 Tryz.results82 ?_
 simp only[argsA,Nat.reduceAdd,hpN]
 unfold i_apply at H
 refine S0 tok [] [0,1,2] ?_
 refine Wsq [1,2] fun K1 hK1=>?_
 refine S0 tok [] [1,2,7] ?_
 refine Wbl (Wth ?_)
 refine S0 tok [] [1,2,7,8] ?_
 refine Cd (fun C1=>?_) fun C1=>?_
 ·replace H:=ifT C1 H
  refine S0 tok [] [6] ?_
  obtain rfl:=oi H;exact Wr ⟨_,rfl,4,by simp[eN]⟩
 replace H:=ifF C1 H
 refine S0 tok [] [1,2,7,13] ?_
 refine Cd (fun C2=>?_) fun C2=>?_
 ·replace H:=ifT C2 H
  refine S0 tok [] [6] ?_
  obtain rfl:=oi H;exact Wr ⟨_,rfl,4,by simp[eN]⟩
 replace H:=ifF C2 H
 refine S0 tok [] [1,2,7,18] ?_
 refine Cd (fun C3=>?_) fun C3=>?_
 ·replace H:=ifT C3 H
  refine S0 tok [] [6] ?_
  obtain rfl:=oi H;exact Wr ⟨_,rfl,4,by simp[eN]⟩
 replace H:=ifF C3 H
 refine S0 tok [] [1,2,7,23] ?_
 refine Cd (fun C4=>?_) fun C4=>?_
 ·replace H:=ifT C4 H
  obtain⟨r1,hr1,H⟩:=bE H
  refine Sx tok [] [6] (by intro K k;(repeat first|simp -dsimp -implicitDefEqProofs|refine(c124 hr1).app ?_);exact k) ?_
  obtain rfl:=oi H;exact Wr ⟨_,rfl,4,by simp[eN]⟩
 replace H:=ifF C4 H
 refine S0 tok [] [1,2,7,29] ?_
 refine Cd (fun C5=>?_) fun C5=>?_
 ·replace H:=ifT C5 H
  obtain⟨r2,hr2,H⟩:=bE H
  refine Sx tok [] [6] (by intro K k;(repeat first|simp -dsimp -implicitDefEqProofs|refine(c124 hr2).app ?_);exact k) ?_
  obtain rfl:=oi H;exact Wr ⟨_,rfl,4,by simp[eN]⟩
 replace H:=ifF C5 H
 refine S0 tok [] [1,2,7,35] ?_
 refine Cd (fun C6=>?_) fun C6=>?_
 ·replace H:=ifT C6 H
  obtain⟨v3,hv3,H⟩:=bE H
  obtain⟨r4,hr4,H⟩:=bE H
  refine Sx tok [] [6] (by intro K k;(repeat first|simp -dsimp -implicitDefEqProofs [hv3]|refine(c58 hr4).app ?_);exact k) ?_
  obtain rfl:=oi H;exact Wr ⟨_,rfl,4,by simp[eN]⟩
 replace H:=ifF C6 H
 refine S0 tok [] [1,2,7,42] ?_
 refine Cd (fun C7=>?_) fun C7=>?_
 ·replace H:=ifT C7 H
  obtain⟨v5,hv5,H⟩:=bE H
  refine Sx tok [] [6] (by intro K k;simp -dsimp -implicitDefEqProofs [hv5];exact k) ?_
  obtain rfl:=oi H;exact Wr ⟨_,rfl,4,by simp[eN]⟩
 replace H:=ifF C7 H
 refine S0 tok [] [1,2,7,48] ?_
 refine Cd (fun C8=>?_) fun C8=>?_
 ·replace H:=ifT C8 H
  obtain⟨r6,hr6,H⟩:=bE H
  refine Sx tok [] [6] (by intro K k;(repeat first|simp -dsimp -implicitDefEqProofs|refine(c58 hr6).app ?_);exact k) ?_
  obtain rfl:=oi H;exact Wr ⟨_,rfl,4,by simp[eN]⟩
 replace H:=ifF C8 H
 refine S0 tok [] [1,2,7,54] ?_
 refine Cd (fun C9=>?_) fun C9=>?_
 ·replace H:=ifT C9 H
  obtain⟨r7,hr7,H⟩:=bE H
  refine Sx tok [] [6] (by intro K k;(repeat first|simp -dsimp -implicitDefEqProofs|refine(c58 hr7).app ?_);exact k) ?_
  obtain rfl:=oi H;exact Wr ⟨_,rfl,4,by simp[eN]⟩
 replace H:=ifF C9 H
 refine S0 tok [] [1,2,7,60] ?_
 refine Cd (fun C10=>?_) fun C10=>?_
 ·replace H:=ifT C10 H
  obtain⟨r8,hr8,H⟩:=bE H
  refine Sx tok [] [6] (by intro K k;(repeat first|simp -dsimp -implicitDefEqProofs|refine(c58 hr8).app ?_);exact k) ?_
  obtain rfl:=oi H;exact Wr ⟨_,rfl,4,by simp[eN]⟩
 replace H:=ifF C10 H
 refine S0 tok [] [1,2,66] ?_
 refine Cd (fun C11=>?_) fun C11=>?_
 ·replace H:=ifT C11 H
  refine Wsq [1,2] fun K2 hK2=>?_
  refine S0 tok [] [1,2,69] ?_
  refine Cd (fun C12=>?_) fun C12=>?_
  ·replace H:=ifT C12 H
   refine S0 tok [] [6] ?_
   obtain rfl:=oi H;exact Wr ⟨_,rfl,4,by simp[eN]⟩
  replace H:=ifF C12 H
  refine Wsk (Jn hK2 ?_)
  obtain⟨v9,hv9,H⟩:=bE H
  obtain⟨r10,hr10,H⟩:=bE H
  refine Sx tok [] [6] (by intro K k;(repeat first|simp -dsimp -implicitDefEqProofs [hv9]|refine(c58 hr10).app ?_);exact k) ?_
  obtain rfl:=oi H;exact Wr ⟨_,rfl,4,by simp[eN]⟩
 replace H:=ifF C11 H
 refine Wsk (Jn hK1 ?_)
 refine Wsq [1,2] fun K3 hK3=>?_
 refine S0 tok [] [1,2,75] ?_
 refine Cd (fun C13=>?_) fun C13=>?_
 ·replace H:=ifT C13 H
  refine S0 tok [] [6] ?_
  obtain rfl:=oi H;exact Wr ⟨_,rfl,4,by simp[eN]⟩
 replace H:=ifF C13 H
 refine Wsk (Jn hK3 ?_)
 obtain⟨v11,hv11,H⟩:=bE H
 refine Sx tok [] [6] (by intro K k;simp -dsimp -implicitDefEqProofs [hv11];exact k) ?_
 obtain rfl:=oi H;exact Wr ⟨_,rfl,4,by simp[eN]⟩

theorem c115 {p0:gBox}{p1:Int}{r:Bool×gBox}(H:i_Box_put p0 p1=some r){σ:AHeap}{w0:Nat}{W0:List (List AV)}{r0_:Nat}(q0:σ.objs w0=some ⟨40,2,W0⟩)(g0:W0[r0_]? =some [.int .i64 p0.Room,.osl 3 1 (eL rI p0.Items)]):ACalls Tryz.prog G 115 [.ptr w0 r0_ 0,.int .i64 p1] σ (fun v σ'=>∃M:Nat,σ.next≤M∧v=.bool r.1∧σ'=hp σ.objs [(w0,some ⟨40,2,W0.set r0_ [.int .i64 r.2.Room,.osl 3 1 (eL rI r.2.Items)]⟩)] M):=by
 refine zP (L:=[(w0,some ⟨40,2,W0⟩)]) (Q1:=fun v σ'=>∃M:Nat,σ.next≤M∧v=.bool r.1∧σ'=hp E0 [(w0,some ⟨40,2,W0.set r0_ [.int .i64 r.2.Room,.osl 3 1 (eL rI r.2.Items)]⟩)] M) (by simp[q0]) (fun hlt=>?_) ?_ ⟨_,Tryz.func115,rfl,rfl⟩
 rotate_left
 ·rintro v σ1 ⟨M,h0,rfl,rfl⟩
  exact⟨_,M,rfl,by simp,by simp;try omega,M,h0,rfl,rfl⟩
 generalize σ.next=N0 at hlt ⊢
 have lw0:w0<N0:=hlt _ (.head _) rfl
 have gs_W0:∀x,(W0.set r0_ x)[r0_]? =some x:=gsetW g0
 rw[← kB g0]
 refine fnK tok Tryz.func115 Tryz.ntmps115 Tryz.results115 ?_
 simp only[argsA,Nat.reduceAdd,hpN]
 unfold i_Box_put at H
 refine Sx tok [] [0,1] (by intro K k;simp -dsimp -implicitDefEqProofs [gs_W0];exact k) ?_
 refine Wsq [0,1] fun K1 hK1=>?_
 refine gU Wre w0 r0_ 1 ?_ (hr:=by exact gs_W0 _)
 refine Sd tok tokM [] [3,8] [0,1,2,5,6,7,3,4,8,9] [0,1,14] (by
  intro K k
  have e0:=nQ w0 (N0+1)
  simp only[pickL,zH,zJ]
  simp -dsimp -implicitDefEqProofs [e0,gs_W0]
  exact k) ?_
 refine Cd (fun C1=>?_) fun C1=>?_
 ·replace H:=ifT C1 H
  refine Sx tok [] [4] (by
   intro K k
   have e0:=nQ w0 (N0+1)
   simp -dsimp -implicitDefEqProofs [e0,gs_W0]
   exact k) ?_
  obtain rfl:=oi H
  refine Kp [4] ?_
  refine gP Wre w0 r0_ 1 ?_ (hr:=by exact gs_W0 _)
  refine Wr ?_
  refine⟨[.bool false],by simp[gs_W0],N0+13,by omega,?_,?_⟩
  ·simp[eN]
  first|rfl|simp
 replace H:=ifF C1 H
 refine Wsk (Jn hK1 ?_)
 obtain⟨l1,hl1,H⟩:=bE H
 have q0:∀σ i,bsA T 24 true i 1 [(0,.int .i64 p1)] σ=some (.fsl (eL rI ([p1]:List Int)),σ):=fun _ _=>rfl
 refine Sx tok [6] [] (by
  intro K k
  have e0:=nQ w0 (N0+1)
  have e1:=nQ w0 (N0+19)
  simp -dsimp -implicitDefEqProofs [e0,e1,gs_W0,q0,app24 hl1]
  exact k) ?_
 refine Sx tok [] [4] (by
  intro K k
  have e0:=nQ w0 (N0+19)
  simp -dsimp -implicitDefEqProofs [e0,gs_W0]
  exact k) ?_
 obtain rfl:=oi H
 refine Kp [4] ?_
 refine gP Wre w0 r0_ 1 ?_ (hr:=by exact gs_W0 _)
 refine Wr ?_
 refine⟨[.bool true],by simp[gs_W0],N0+24,by omega,?_,?_⟩
 ·simp[eN]
 first|rfl|simp

theorem c116 {p0:gBox}{r:Int×Bool×gBox}(H:i_Box_take p0=some r){σ:AHeap}{w0:Nat}{W0:List (List AV)}{r0_:Nat}(q0:σ.objs w0=some ⟨40,2,W0⟩)(g0:W0[r0_]? =some [.int .i64 p0.Room,.osl 3 1 (eL rI p0.Items)]):ACalls Tryz.prog G 116 [.ptr w0 r0_ 0] σ (fun v σ'=>∃M:Nat,σ.next≤M∧v=.tup [.int .i64 r.1,.bool r.2.1]∧σ'=hp σ.objs [(w0,some ⟨40,2,W0.set r0_ [.int .i64 r.2.2.Room,.osl 3 1 (eL rI r.2.2.Items)]⟩)] M):=by
 refine zP (L:=[(w0,some ⟨40,2,W0⟩)]) (Q1:=fun v σ'=>∃M:Nat,σ.next≤M∧v=.tup [.int .i64 r.1,.bool r.2.1]∧σ'=hp E0 [(w0,some ⟨40,2,W0.set r0_ [.int .i64 r.2.2.Room,.osl 3 1 (eL rI r.2.2.Items)]⟩)] M) (by simp[q0]) (fun hlt=>?_) ?_ ⟨_,Tryz.func116,rfl,rfl⟩
 rotate_left
 ·rintro v σ1 ⟨M,h0,rfl,rfl⟩
  exact⟨_,M,rfl,by simp,by simp;try omega,M,h0,rfl,rfl⟩
 generalize σ.next=N0 at hlt ⊢
 have lw0:w0<N0:=hlt _ (.head _) rfl
 have gs_W0:∀x,(W0.set r0_ x)[r0_]? =some x:=gsetW g0
 rw[← kB g0]
 refine fnK tok Tryz.func116 Tryz.ntmps116 Tryz.results116 ?_
 simp only[argsA,Nat.reduceAdd,hpN]
 unfold i_Box_take at H
 refine Sx tok [] [0] (by intro K k;simp -dsimp -implicitDefEqProofs (maxDischargeDepth:=6) [gs_W0];exact k) ?_
 refine Wsq [0] fun K1 hK1=>?_
 refine gU Wre w0 r0_ 1 ?_ (hr:=by exact gs_W0 _)
 refine Sx tok [] [0,10] (by
  intro K k
  have e0:=nQ w0 (N0+2)
  simp -dsimp -implicitDefEqProofs (maxDischargeDepth:=6) [e0,gs_W0]
  exact k) ?_
 refine Cd (fun C1=>?_) fun C1=>?_
 ·replace H:=ifT C1 H
  refine Sx tok [] [2,3] (by
   intro K k
   have e0:=nQ w0 (N0+2)
   simp -dsimp -implicitDefEqProofs (maxDischargeDepth:=6) [e0,gs_W0]
   exact k) ?_
  obtain rfl:=oi H
  refine Kp [2,3] ?_
  refine gP Wre w0 r0_ 1 ?_ (hr:=by exact gs_W0 _)
  refine Wr ?_
  refine⟨[.int .i64 0,.bool false],by simp[gs_W0],N0+11,by omega,?_,?_⟩
  ·simp[eN]
  first|rfl|simp
 replace H:=ifF C1 H
 refine Wsk (Jn hK1 ?_)
 obtain⟨v1,hv1,H⟩:=bE H
 refine Sx tok [] [0,4] (by
  intro K k
  have e0:=nQ w0 (N0+2)
  simp -dsimp -implicitDefEqProofs (maxDischargeDepth:=6) [e0,gs_W0,ixo24 hv1,(show _[0]? =some v1 from(zE hv1).2.2)]
  exact k) ?_
 obtain⟨l2,hl2,H⟩:=bE H
 obtain⟨l3,hl3,H⟩:=bE H
 obtain⟨l4,hl4,H⟩:=bE H
 refine Sd tok tokM [] [4,5,9,10,11,14] [0,1,2,3,6,7,8,4,5,9,10,11,12,13,14] [4] (by
  intro K k
  have e0:=nQ w0 (N0+2)
  have e1:=nQ w0 (N0+27)
  simp only[pickL,zH,zJ]
  simp -dsimp -implicitDefEqProofs (maxDischargeDepth:=6) [e0,e1,gs_W0,cutoh_24 hl2,cutol_24 hl3,appv24 hl2 hl4,srcvn24 1 hl3 rfl]
  exact k) ?_
 refine Sx tok [] [2,3] (by
  intro K k
  have e0:=nQ w0 (N0+27)
  simp -dsimp -implicitDefEqProofs (maxDischargeDepth:=6) [e0,gs_W0]
  exact k) ?_
 obtain rfl:=oi H
 refine Kp [2,3] ?_
 refine gP Wre w0 r0_ 1 ?_ (hr:=by exact gs_W0 _)
 refine Wr ?_
 refine⟨[.int .i64 v1,.bool true],by simp[gs_W0],N0+34,by omega,?_,?_⟩
 ·simp[eN]
 first|rfl|simp

theorem c72 {p0:gThread}{p1:(List gQuad)}{p2:(List gBox)}{p3:(List Int)}{r:Int×gThread×(List gBox)×(List Int)}(H:jK p0 p1 p2 p3=some r){σ:AHeap}{w0:Nat}{W0:List (List AV)}{r0_:Nat}{w2:Nat}{w3:Nat}{W3:List (List AV)}{r3_:Nat}{x3_:List AV}{i3_:Nat}{t3_ s3_:Nat}(q0:σ.objs w0=some ⟨26,2,W0⟩)(g0:W0[r0_]? =some [.osl 3 1 (eL rI p0.Regs),.int .i64 p0.Pc])(q2:σ.objs w2=some ⟨40,2,eL zW p2⟩)(q3:σ.objs w3=some ⟨t3_,s3_,W3⟩)(g3:W3[r3_]? =some x3_)(k3:x3_[i3_]? =some (.osl 3 1 (eL rI p3)))(d0_1:¬w0=w2)(d0_2:¬w0=w3)(d1_2:¬w2=w3):ACalls Tryz.prog G 72 [.ptr w0 r0_ 0,.fsl (eL rQuad p1),.sl w2 0 p2.length,.ptr w3 r3_ i3_] σ (fun v σ'=>∃M:Nat,σ.next≤M∧r.2.2.1.length=p2.length∧v=.int .i64 r.1∧σ'=hp σ.objs [(w0,some ⟨26,2,W0.set r0_ [.osl 3 1 (eL rI r.2.1.Regs),.int .i64 r.2.1.Pc]⟩),(w2,some ⟨40,2,eL zW r.2.2.1⟩),(w3,some ⟨t3_,s3_,W3.set r3_ (x3_.set i3_ (.osl 3 1 (eL rI r.2.2.2)))⟩)] M):=by
 refine zP (L:=[(w0,some ⟨26,2,W0⟩),(w2,some ⟨40,2,eL zW p2⟩),(w3,some ⟨t3_,s3_,W3⟩)]) (Q1:=fun v σ'=>∃M:Nat,σ.next≤M∧r.2.2.1.length=p2.length∧v=.int .i64 r.1∧σ'=hp E0 [(w0,some ⟨26,2,W0.set r0_ [.osl 3 1 (eL rI r.2.1.Regs),.int .i64 r.2.1.Pc]⟩),(w2,some ⟨40,2,eL zW r.2.2.1⟩),(w3,some ⟨t3_,s3_,W3.set r3_ (x3_.set i3_ (.osl 3 1 (eL rI r.2.2.2)))⟩)] M) (by simp[q0,q2,q3]) (fun hlt=>?_) ?_ ⟨_,Tryz.func72,rfl,rfl⟩
 rotate_left
 ·rintro v σ1 ⟨M,h0,h1,rfl,rfl⟩
  exact⟨_,M,rfl,by simp,by simp;try omega,M,h0,h1,rfl,rfl⟩
 generalize σ.next=N0 at hlt ⊢
 have lw0:w0<N0:=hlt _ (.head _) rfl
 have lw2:w2<N0:=hlt _ (.tail _ (.head _)) rfl
 have lw3:w3<N0:=hlt _ (.tail _ (.tail _ (.head _))) rfl
 have gs_W0:∀x,(W0.set r0_ x)[r0_]? =some x:=gsetW g0
 rw[← kB g0]
 have gs_W3:∀x,(W3.set r3_ x)[r3_]? =some x:=gsetW g3
 have gs_x3_:∀x,(x3_.set i3_ x)[i3_]? =some x:=gsetC k3
 have ws_x3_:=winS k3
 have wl_x3_:=winL k3
 rw[show W3=W3.set r3_ (x3_.set i3_ (.osl 3 1 (eL rI p3))) from by rw[kB k3,kB g3]]
 refine fnK tok Tryz.func72 Tryz.ntmps72 Tryz.results72 ?_
 simp only[argsA,Nat.reduceAdd,hpN]
 unfold jK at H
 refine Sx tok [] [0,1,2,3] (by
  intro K k
  have e0:=nQ w0 w2
  have e1:=nQ w0 w3
  have e2:=nQ w2 w3
  simp -dsimp -implicitDefEqProofs [e0,e1,e2,gs_W0,gs_W3,gs_x3_,ws_x3_,wl_x3_]
  exact k) ?_
 obtain⟨v1,hv1,H⟩:=bE H
 refine Sx tok [] [0,2,3,9] (by
  intro K k
  have e0:=nQ w0 w2
  have e1:=nQ w0 w3
  have e2:=nQ w0 (N0+8)
  have e3:=nQ w2 w3
  have e4:=nQ w2 (N0+8)
  have e5:=nQ w3 (N0+8)
  simp -dsimp -implicitDefEqProofs [e0,e1,e2,e3,e4,e5,gs_W0,gs_W3,gs_x3_,ws_x3_,wl_x3_,ix23 hv1]
  exact k) ?_
 refine Sx tok [] [0,2,3,9,10] (by
  intro K k
  have e0:=nQ w0 w2
  have e1:=nQ w0 w3
  have e2:=nQ w0 (N0+8)
  have e3:=nQ w2 w3
  have e4:=nQ w2 (N0+8)
  have e5:=nQ w3 (N0+8)
  simp -dsimp -implicitDefEqProofs [e0,e1,e2,e3,e4,e5,gs_W0,gs_W3,gs_x3_,ws_x3_,wl_x3_]
  exact k) ?_
 obtain⟨flj1,hflj1,H⟩:=bE H
 refine kL (kI fun K1 hK1=>?_)
 have hJ1:∀(j1:Int×gThread×(List gBox)×(List Int)) a σ,flj1=.next j1→Rc G 165 N0 (fun a σ=>∃M1:Nat,N0≤M1∧j1.2.2.1.length=p2.length∧a=[(0,.ptr w0 r0_ 0),(10,.int .i64 j1.1)]∧σ=hp E0 [(w0,some ⟨26,2,W0.set r0_ [.osl 3 1 (eL rI j1.2.1.Regs),.int .i64 j1.2.1.Pc]⟩),(w2,some ⟨40,2,eL zW j1.2.2.1⟩),(w3,some ⟨t3_,s3_,W3.set r3_ (x3_.set i3_ (.osl 3 1 (eL rI j1.2.2.2)))⟩)] M1) (AAct.keep a [0,10]) σ→K1 a σ:=by
  rintro j1 a σ hfl ⟨b,τ,hr,M1,fM1_0,fM1_1,rfl,rfl⟩
  subst hfl;dsimp only at H
  refine hK1 _ _ (kA [0,10] (Wre hr ?_))
  refine Sx tok [] [] (by
   intro K k
   have e0:=nQ w0 w2
   have e1:=nQ w0 w3
   have e2:=nQ w2 w3
   simp -dsimp -implicitDefEqProofs [e0,e1,e2,gs_W0,gs_W3,gs_x3_,ws_x3_,wl_x3_]
   exact k) ?_
  refine Sx tok [] [8] (by
   intro K k
   have e0:=nQ w0 w2
   have e1:=nQ w0 w3
   have e2:=nQ w2 w3
   simp -dsimp -implicitDefEqProofs [e0,e1,e2,gs_W0,gs_W3,gs_x3_,ws_x3_,wl_x3_]
   exact k) ?_
  obtain rfl:=oi H
  refine Kp [8] ?_
  have z0:=nQ w0 w2
  have z1:=nQ w0 w3
  have z2:=nQ w2 w3
  refine Wr ?_
  refine⟨[.int .i64 1],by simp[z0,z1,z2,gs_W0,gs_W3,gs_x3_,ws_x3_,wl_x3_],M1+6,by omega,by first|rfl|exact fM1_1|omega,?_,?_⟩
  ·simp[eN]
  first|rfl|simp
 have Gj1:=H;replace H:=hflj1
 refine Sx tok [] [0,2,3,9,10,26] (by
  intro K k
  have e0:=nQ w0 w2
  have e1:=nQ w0 w3
  have e2:=nQ w0 (N0+8)
  have e3:=nQ w2 w3
  have e4:=nQ w2 (N0+8)
  have e5:=nQ w3 (N0+8)
  simp -dsimp -implicitDefEqProofs [e0,e1,e2,e3,e4,e5,gs_W0,gs_W3,gs_x3_,ws_x3_,wl_x3_]
  exact k) ?_
 refine Wbl (Wth ?_)
 refine Sx tok [] [0,2,3,9,10,26,27] (by
  intro K k
  have e0:=nQ w0 w2
  have e1:=nQ w0 w3
  have e2:=nQ w0 (N0+8)
  have e3:=nQ w2 w3
  have e4:=nQ w2 (N0+8)
  have e5:=nQ w3 (N0+8)
  simp -dsimp -implicitDefEqProofs [e0,e1,e2,e3,e4,e5,gs_W0,gs_W3,gs_x3_,ws_x3_,wl_x3_]
  exact k) ?_
 refine Cd (fun C1=>?_) fun C1=>?_
 ·replace H:=ifT C1 H
  refine gU Wre w0 r0_ 0 ?_ (hr:=by exact gs_W0 _)
  obtain⟨v6,hv6,H⟩:=bE H
  obtain⟨l7,hl7,H⟩:=bE H
  refine AWP_rd tok tokM [] [3,5,7,8,9] [0,1,2,4,6,3,5,7,8,9] [0,10] (fun a σ=>a=[(0,.ptr w0 r0_ 0),(10,.int .i64 (iadd .i64 p0.Pc 1))]∧σ=hp E0 [(w0,some ⟨26,2,W0.set r0_ [.sl (N0+20) 0 p0.Regs.length,.int .i64 p0.Pc]⟩),(w2,some ⟨40,2,eL zW p2⟩),(w3,some ⟨t3_,s3_,W3.set r3_ (x3_.set i3_ (.osl 3 1 (eL rI p3)))⟩),(N0+8,some ⟨36,5,[[.int .i64 v1.Op,.int .i64 v1.Dst,.int .i64 v1.A,.int .i64 v1.B,.int .i64 v1.N]]⟩),(N0+20,some ⟨3,1,eL rI l7⟩)] (N0+31)) (by decide) (fun K hK=>?_) ?_
  ·simp only[pickL,zH,zJ]
   have e0:=nQ w0 w2
   have e1:=nQ w0 w3
   have e2:=nQ w0 (N0+8)
   have e3:=nQ w0 (N0+20)
   have e4:=nQ w2 w3
   have e5:=nQ w2 (N0+8)
   have e6:=nQ w2 (N0+20)
   have e7:=nQ w3 (N0+8)
   have e8:=nQ w3 (N0+20)
   simp -dsimp -implicitDefEqProofs [e0,e1,e2,e3,e4,e5,e6,e7,e8,gs_W0,gs_W3,gs_x3_,ws_x3_,wl_x3_,ixo24 hv6,(zE hv6).2.2,(setx_iff.1 hl7).2.symm]
   exact hK _ _ ⟨rfl,rfl⟩
  rintro a σ ⟨ha,rfl⟩
  (try rw[← zD hl7] at ha);(try rw[← zD hl7])
  replace H:=oi H
  refine hJ1 _ _ _ H.symm ?_;rw[ha]
  refine gP zL w0 r0_ 0 ?_ (hr:=by exact gs_W0 _)
  exact Rc.fin (zK (zK (zK (AHeap.Sub.trans (AHeap.Sub.refl _) (zR rfl (by simp;try omega)))))) ⟨N0+31,(by omega),(by first|rfl|exact rfl|omega),rfl,rfl⟩
 replace H:=ifF C1 H
 refine Sx tok [] [0,2,3,9,10,26,38] (by
  intro K k
  have e0:=nQ w0 w2
  have e1:=nQ w0 w3
  have e2:=nQ w0 (N0+8)
  have e3:=nQ w2 w3
  have e4:=nQ w2 (N0+8)
  have e5:=nQ w3 (N0+8)
  simp -dsimp -implicitDefEqProofs [e0,e1,e2,e3,e4,e5,gs_W0,gs_W3,gs_x3_,ws_x3_,wl_x3_]
  exact k) ?_
 refine Cd (fun C2=>?_) fun C2=>?_
 ·replace H:=ifT C2 H
  refine gU Wre w0 r0_ 0 ?_ (hr:=by exact gs_W0 _)
  obtain⟨v8,hv8,H⟩:=bE H
  obtain⟨v9,hv9,H⟩:=bE H
  obtain⟨l10,hl10,H⟩:=bE H
  refine AWP_rd tok tokM [] [3,5,9,11,12,13,14,15] [0,1,2,4,6,7,8,10,3,5,9,11,12,13,14,15] [0,10] (fun a σ=>a=[(0,.ptr w0 r0_ 0),(10,.int .i64 (iadd .i64 p0.Pc 1))]∧σ=hp E0 [(w0,some ⟨26,2,W0.set r0_ [.sl (N0+22) 0 p0.Regs.length,.int .i64 p0.Pc]⟩),(w2,some ⟨40,2,eL zW p2⟩),(w3,some ⟨t3_,s3_,W3.set r3_ (x3_.set i3_ (.osl 3 1 (eL rI p3)))⟩),(N0+8,some ⟨36,5,[[.int .i64 v1.Op,.int .i64 v1.Dst,.int .i64 v1.A,.int .i64 v1.B,.int .i64 v1.N]]⟩),(N0+22,some ⟨3,1,eL rI l10⟩)] (N0+39)) (by decide) (fun K hK=>?_) ?_
  ·simp only[pickL,zH,zJ]
   have e0:=nQ w0 w2
   have e1:=nQ w0 w3
   have e2:=nQ w0 (N0+8)
   have e3:=nQ w0 (N0+22)
   have e4:=nQ w2 w3
   have e5:=nQ w2 (N0+8)
   have e6:=nQ w2 (N0+22)
   have e7:=nQ w3 (N0+8)
   have e8:=nQ w3 (N0+22)
   simp -dsimp -implicitDefEqProofs [e0,e1,e2,e3,e4,e5,e6,e7,e8,gs_W0,gs_W3,gs_x3_,ws_x3_,wl_x3_,ixo24 hv8,(zE hv8).2.2,ixo24 hv9,(zE hv9).2.2,(setx_iff.1 hl10).2.symm]
   exact hK _ _ ⟨rfl,rfl⟩
  rintro a σ ⟨ha,rfl⟩
  (try rw[← zD hl10] at ha);(try rw[← zD hl10])
  replace H:=oi H
  refine hJ1 _ _ _ H.symm ?_;rw[ha]
  refine gP zL w0 r0_ 0 ?_ (hr:=by exact gs_W0 _)
  exact Rc.fin (zK (zK (zK (AHeap.Sub.trans (AHeap.Sub.refl _) (zR rfl (by simp;try omega)))))) ⟨N0+39,(by omega),(by first|rfl|exact rfl|omega),rfl,rfl⟩
 replace H:=ifF C2 H
 refine Sx tok [] [0,2,3,9,10,26,55] (by
  intro K k
  have e0:=nQ w0 w2
  have e1:=nQ w0 w3
  have e2:=nQ w0 (N0+8)
  have e3:=nQ w2 w3
  have e4:=nQ w2 (N0+8)
  have e5:=nQ w3 (N0+8)
  simp -dsimp -implicitDefEqProofs [e0,e1,e2,e3,e4,e5,gs_W0,gs_W3,gs_x3_,ws_x3_,wl_x3_]
  exact k) ?_
 refine Cd (fun C3=>?_) fun C3=>?_
 ·replace H:=ifT C3 H
  refine gU Wre w0 r0_ 0 ?_ (hr:=by exact gs_W0 _)
  obtain⟨v11,hv11,H⟩:=bE H
  obtain⟨v12,hv12,H⟩:=bE H
  obtain⟨r13,hr13,H⟩:=bE H
  obtain⟨v14,hv14,H⟩:=bE H
  obtain⟨l15,hl15,H⟩:=bE H
  refine AWP_ry tok tokM [] [3,5,7,11,13,14,15,19,21,22,23,24,25,26] [0,1,2,4,6,8,9,10,12,16,17,18,20,3,5,7,11,13,14,15,19,21,22,23,24,25,26] [(24,[3,5])] [0,10] (fun a σ=>a=[(0,.ptr w0 r0_ 0),(10,.int .i64 (iadd .i64 p0.Pc 1))]∧σ=hp E0 [(w0,some ⟨26,2,W0.set r0_ [.sl (N0+24) 0 p0.Regs.length,.int .i64 p0.Pc]⟩),(w2,some ⟨40,2,eL zW p2⟩),(w3,some ⟨t3_,s3_,W3.set r3_ (x3_.set i3_ (.osl 3 1 (eL rI p3)))⟩),(N0+8,some ⟨36,5,[[.int .i64 v1.Op,.int .i64 v1.Dst,.int .i64 v1.A,.int .i64 v1.B,.int .i64 v1.N]]⟩),(N0+24,some ⟨3,1,eL rI l15⟩)] (N0+52)) (by decide) (fun K hK=>?_) ?_
  ·simp only[pickL,zH,zJ]
   have e0:=nQ w0 w2
   have e1:=nQ w0 w3
   have e2:=nQ w0 (N0+8)
   have e3:=nQ w0 (N0+24)
   have e4:=nQ w2 w3
   have e5:=nQ w2 (N0+8)
   have e6:=nQ w2 (N0+24)
   have e7:=nQ w3 (N0+8)
   have e8:=nQ w3 (N0+24)
   simp -dsimp -implicitDefEqProofs [e0,e1,e2,e3,e4,e5,e6,e7,e8,gs_W0,gs_W3,gs_x3_,ws_x3_,wl_x3_,ixo24 hv11,(zE hv11).2.2,ixo24 hv12,(zE hv12).2.2,ixo24 hv14,(zE hv14).2.2,(setx_iff.1 hl15).2.symm]
   refine(c82 hr13).app ?_;try simp -dsimp -implicitDefEqProofs [e0,e1,e2,e3,e4,e5,e6,e7,e8,gs_W0,gs_W3,gs_x3_,ws_x3_,wl_x3_,ixo24 hv11,(zE hv11).2.2,ixo24 hv12,(zE hv12).2.2,ixo24 hv14,(zE hv14).2.2,(setx_iff.1 hl15).2.symm]
   exact hK _ _ ⟨rfl,rfl⟩
  rintro a σ ⟨ha,rfl⟩
  (try rw[← zD hl15] at ha);(try rw[← zD hl15])
  replace H:=oi H
  refine hJ1 _ _ _ H.symm ?_;rw[ha]
  refine gP zL w0 r0_ 0 ?_ (hr:=by exact gs_W0 _)
  exact Rc.fin (zK (zK (zK (AHeap.Sub.trans (AHeap.Sub.refl _) (zR rfl (by simp;try omega)))))) ⟨N0+52,(by omega),(by first|rfl|exact rfl|omega),rfl,rfl⟩
 replace H:=ifF C3 H
 refine Sx tok [] [0,2,3,9,10,26,83] (by
  intro K k
  have e0:=nQ w0 w2
  have e1:=nQ w0 w3
  have e2:=nQ w0 (N0+8)
  have e3:=nQ w2 w3
  have e4:=nQ w2 (N0+8)
  have e5:=nQ w3 (N0+8)
  simp -dsimp -implicitDefEqProofs [e0,e1,e2,e3,e4,e5,gs_W0,gs_W3,gs_x3_,ws_x3_,wl_x3_]
  exact k) ?_
 refine Cd (fun C4=>?_) fun C4=>?_
 ·replace H:=ifT C4 H
  refine Rt tok [] [0,10] (by
   intro K k
   have e0:=nQ w0 w2
   have e1:=nQ w0 w3
   have e2:=nQ w0 (N0+8)
   have e3:=nQ w2 w3
   have e4:=nQ w2 (N0+8)
   have e5:=nQ w3 (N0+8)
   simp -dsimp -implicitDefEqProofs [e0,e1,e2,e3,e4,e5,gs_W0,gs_W3,gs_x3_,ws_x3_,wl_x3_]
   exact k) fun a ha=>?_
  replace H:=oi H
  refine hJ1 _ _ _ H.symm ?_;rw[ha]
  exact Rc.fin (zK (zK (zK (AHeap.Sub.trans (AHeap.Sub.refl _) (zR rfl (by simp;try omega)))))) ⟨N0+29,(by omega),(by first|rfl|exact rfl|omega),rfl,rfl⟩
 replace H:=ifF C4 H
 refine Sx tok [] [0,2,3,9,10,26,87] (by
  intro K k
  have e0:=nQ w0 w2
  have e1:=nQ w0 w3
  have e2:=nQ w0 (N0+8)
  have e3:=nQ w2 w3
  have e4:=nQ w2 (N0+8)
  have e5:=nQ w3 (N0+8)
  simp -dsimp -implicitDefEqProofs [e0,e1,e2,e3,e4,e5,gs_W0,gs_W3,gs_x3_,ws_x3_,wl_x3_]
  exact k) ?_
 refine Cd (fun C5=>?_) fun C5=>?_
 ·replace H:=ifT C5 H
  refine gU Wre w0 r0_ 0 ?_ (hr:=by exact gs_W0 _)
  obtain⟨v16,hv16,H⟩:=bE H
  refine Sd tok tokM [] [3,5,6,7] [0,1,2,4,3,5,6,7,8] [0,9,10,97] (by
   intro K k
   have e0:=nQ w0 w2
   have e1:=nQ w0 w3
   have e2:=nQ w0 (N0+8)
   have e3:=nQ w0 (N0+28)
   have e4:=nQ w2 w3
   have e5:=nQ w2 (N0+8)
   have e6:=nQ w2 (N0+28)
   have e7:=nQ w3 (N0+8)
   have e8:=nQ w3 (N0+28)
   simp only[pickL,zH,zJ]
   simp -dsimp -implicitDefEqProofs [e0,e1,e2,e3,e4,e5,e6,e7,e8,gs_W0,gs_W3,gs_x3_,ws_x3_,wl_x3_,ixo24 hv16,(zE hv16).2.2]
   exact k) ?_
  refine Cd (fun C6=>?_) fun C6=>?_
  ·replace H:=ifT C6 H
   refine Rt tok [] [0,10] (by
    intro K k
    have e0:=nQ w0 w2
    have e1:=nQ w0 w3
    have e2:=nQ w0 (N0+8)
    have e3:=nQ w0 (N0+28)
    have e4:=nQ w2 w3
    have e5:=nQ w2 (N0+8)
    have e6:=nQ w2 (N0+28)
    have e7:=nQ w3 (N0+8)
    have e8:=nQ w3 (N0+28)
    simp -dsimp -implicitDefEqProofs [e0,e1,e2,e3,e4,e5,e6,e7,e8,gs_W0,gs_W3,gs_x3_,ws_x3_,wl_x3_]
    exact k) fun a ha=>?_
   replace H:=oi H
   refine hJ1 _ _ _ H.symm ?_;rw[ha]
   refine gP zL w0 r0_ 0 ?_ (hr:=by exact gs_W0 _)
   exact Rc.fin (zK (zK (zK (AHeap.Sub.trans (AHeap.Sub.refl _) (zR rfl (by simp;try omega)))))) ⟨N0+41,(by omega),(by first|rfl|exact rfl|omega),rfl,rfl⟩
  replace H:=ifF C6 H
  refine Wsk ?_
  show K1 _ _
  refine kE [0,10] fun a' ha=>?_
  replace H:=oi H
  refine hJ1 _ _ _ H.symm ?_;rw[ha]
  refine gP zL w0 r0_ 0 ?_ (hr:=by exact gs_W0 _)
  exact Rc.fin (zK (zK (zK (AHeap.Sub.trans (AHeap.Sub.refl _) (zR rfl (by simp;try omega)))))) ⟨N0+38,(by omega),(by first|rfl|exact rfl|omega),rfl,rfl⟩
 replace H:=ifF C5 H
 refine Sx tok [] [0,2,3,9,10,26,100] (by
  intro K k
  have e0:=nQ w0 w2
  have e1:=nQ w0 w3
  have e2:=nQ w0 (N0+8)
  have e3:=nQ w2 w3
  have e4:=nQ w2 (N0+8)
  have e5:=nQ w3 (N0+8)
  simp -dsimp -implicitDefEqProofs [e0,e1,e2,e3,e4,e5,gs_W0,gs_W3,gs_x3_,ws_x3_,wl_x3_]
  exact k) ?_
 refine Cd (fun C7=>?_) fun C7=>?_
 ·replace H:=ifT C7 H
  refine gU Wre w0 r0_ 0 ?_ (hr:=by exact gs_W0 _)
  obtain⟨v18,hv18,H⟩:=bE H
  obtain⟨v19,hv19,H⟩:=bE H
  obtain⟨r20,hr20,H⟩:=bE H
  obtain⟨l21,hl21,H⟩:=bE H
  refine AWP_sd tok tokM [] [2,3,7,9,10,11,12] [0,1,4,5,6,8,2,3,7,9,10,11,12,13] [0,10,115] (fun a σ=>∃M2:Nat,N0+45≤M2∧a=[(0,.ptr w0 r0_ 0),(10,.int .i64 (iadd .i64 p0.Pc 1)),(115,.bool (bnot r20.1))]∧σ=hp E0 [(w0,some ⟨26,2,W0.set r0_ [.sl (N0+30) 0 p0.Regs.length,.int .i64 p0.Pc]⟩),(w2,some ⟨40,2,eL zW l21⟩),(w3,some ⟨t3_,s3_,W3.set r3_ (x3_.set i3_ (.osl 3 1 (eL rI p3)))⟩),(N0+8,some ⟨36,5,[[.int .i64 v1.Op,.int .i64 v1.Dst,.int .i64 v1.A,.int .i64 v1.B,.int .i64 v1.N]]⟩),(N0+30,some ⟨3,1,eL rI p0.Regs⟩)] M2) (by decide) (fun K hK=>?_) ?_
  ·simp only[pickL,zH,zJ]
   have e0:=nQ w0 w2
   have e1:=nQ w0 w3
   have e2:=nQ w0 (N0+8)
   have e3:=nQ w0 (N0+30)
   have e4:=nQ w2 w3
   have e5:=nQ w2 (N0+8)
   have e6:=nQ w2 (N0+30)
   have e7:=nQ w3 (N0+8)
   have e8:=nQ w3 (N0+30)
   simp -dsimp -implicitDefEqProofs [e0,e1,e2,e3,e4,e5,e6,e7,e8,gs_W0,gs_W3,gs_x3_,ws_x3_,wl_x3_,ixo27 hv18,(zE hv18).2.2,ixo24 hv19,(zE hv19).2.2,(setx_iff.1 hl21).2.symm,xC]
   refine(c115 (W0:=eL zW p2) (r0_:=v1.N.toNat) (H:=hr20) (by simp[e0,e1,e2,e3,e4,e5,e6,e7,e8,gs_W0,gs_W3,gs_x3_,ws_x3_,wl_x3_,ixo27 hv18,(zE hv18).2.2,ixo24 hv19,(zE hv19).2.2,(setx_iff.1 hl21).2.symm,xC]) (by simp[e0,e1,e2,e3,e4,e5,e6,e7,e8,gs_W0,gs_W3,gs_x3_,ws_x3_,wl_x3_,ixo27 hv18,(zE hv18).2.2,ixo24 hv19,(zE hv19).2.2,(setx_iff.1 hl21).2.symm,xC])).mono ?_;rintro _ _ ⟨M2,fM2_0,rfl,rfl⟩;simp only[hpN] at fM2_0
   try simp -dsimp -implicitDefEqProofs [e0,e1,e2,e3,e4,e5,e6,e7,e8,gs_W0,gs_W3,gs_x3_,ws_x3_,wl_x3_,ixo27 hv18,(zE hv18).2.2,ixo24 hv19,(zE hv19).2.2,(setx_iff.1 hl21).2.symm,xC,hoS,hoN]
   exact hK _ _ ⟨M2,(by omega),rfl,rfl⟩
  rintro a σ ⟨M2,fM2_0,rfl,rfl⟩
  try rw[← zD hl21]
  refine Cd (fun C8=>?_) fun C8=>?_
  ·replace H:=ifT C8 H
   refine Sx tok [] [8] (by
    intro K k
    have e0:=nQ w0 w2
    have e1:=nQ w0 w3
    have e2:=nQ w0 (N0+8)
    have e3:=nQ w0 (N0+30)
    have e4:=nQ w2 w3
    have e5:=nQ w2 (N0+8)
    have e6:=nQ w2 (N0+30)
    have e7:=nQ w3 (N0+8)
    have e8:=nQ w3 (N0+30)
    simp -dsimp -implicitDefEqProofs [e0,e1,e2,e3,e4,e5,e6,e7,e8,gs_W0,gs_W3,gs_x3_,ws_x3_,wl_x3_]
    exact k) ?_
   obtain⟨z,hz,H⟩:=bE H
   obtain rfl:=oi H;dsimp only at Gj1;obtain rfl:=oi Gj1;have H:=hz
   obtain rfl:=oi H
   refine Kp [8] ?_
   refine gP Wre w0 r0_ 0 ?_ (hr:=by exact gs_W0 _)
   have z3:=nQ w0 w2
   have z4:=nQ w0 w3
   have z5:=nQ w0 (N0+8)
   have z6:=nQ w2 w3
   have z7:=nQ w2 (N0+8)
   have z8:=nQ w3 (N0+8)
   refine gDrop Wre [(w0,some ⟨26,2,W0.set r0_ [.osl 3 1 (eL rI p0.Regs),.int .i64 p0.Pc]⟩),(w2,some ⟨40,2,eL zW l21⟩),(w3,some ⟨t3_,s3_,W3.set r3_ (x3_.set i3_ (.osl 3 1 (eL rI p3)))⟩)] (zK (zK (zK (AHeap.Sub.trans (AHeap.Sub.refl _) (zR rfl (by simp;try omega)))))) ?_
   refine Wr ?_
   refine⟨[.int .i64 3],by simp[z3,z4,z5,z6,z7,z8,gs_W0,gs_W3,gs_x3_,ws_x3_,wl_x3_],M2+1,by omega,by first|rfl|exact(zD hl21)|omega,?_,?_⟩
   ·simp[eN]
   first|rfl|simp
  replace H:=ifF C8 H
  refine Wsk ?_
  show K1 _ _
  refine kE [0,10] fun a' ha=>?_
  replace H:=oi H
  refine hJ1 _ _ _ H.symm ?_;rw[ha]
  refine gP zL w0 r0_ 0 ?_ (hr:=by exact gs_W0 _)
  exact Rc.fin (zK (zK (zK (AHeap.Sub.trans (AHeap.Sub.refl _) (zR rfl (by simp;try omega)))))) ⟨M2,(by omega),(by first|rfl|exact(zD hl21)|omega),rfl,rfl⟩
 replace H:=ifF C7 H
 refine Sx tok [] [0,2,3,9,10,26,116] (by
  intro K k
  have e0:=nQ w0 w2
  have e1:=nQ w0 w3
  have e2:=nQ w0 (N0+8)
  have e3:=nQ w2 w3
  have e4:=nQ w2 (N0+8)
  have e5:=nQ w3 (N0+8)
  simp -dsimp -implicitDefEqProofs [e0,e1,e2,e3,e4,e5,gs_W0,gs_W3,gs_x3_,ws_x3_,wl_x3_]
  exact k) ?_
 refine Cd (fun C9=>?_) fun C9=>?_
 ·replace H:=ifT C9 H
  obtain⟨v22,hv22,H⟩:=bE H
  obtain⟨r23,hr23,H⟩:=bE H
  obtain⟨l24,hl24,H⟩:=bE H
  refine Sm tok [] [0,9,10,11,12] (N0+42) (by
   intro K k
   have e0:=nQ w0 w2
   have e1:=nQ w0 w3
   have e2:=nQ w0 (N0+8)
   have e3:=nQ w2 w3
   have e4:=nQ w2 (N0+8)
   have e5:=nQ w3 (N0+8)
   simp -dsimp -implicitDefEqProofs [e0,e1,e2,e3,e4,e5,gs_W0,gs_W3,gs_x3_,ws_x3_,wl_x3_,ixo27 hv22,(zE hv22).2.2,(setx_iff.1 hl24).2.symm,xC]
   refine(c116 (W0:=eL zW p2) (r0_:=v1.N.toNat) (H:=hr23) (by simp[e0,e1,e2,e3,e4,e5,gs_W0,gs_W3,gs_x3_,ws_x3_,wl_x3_,ixo27 hv22,(zE hv22).2.2,(setx_iff.1 hl24).2.symm,xC]) (by simp[e0,e1,e2,e3,e4,e5,gs_W0,gs_W3,gs_x3_,ws_x3_,wl_x3_,ixo27 hv22,(zE hv22).2.2,(setx_iff.1 hl24).2.symm,xC])).mono ?_;rintro _ _ ⟨M3,fM3_0,rfl,rfl⟩;simp only[hpN] at fM3_0
   try simp -dsimp -implicitDefEqProofs [e0,e1,e2,e3,e4,e5,gs_W0,gs_W3,gs_x3_,ws_x3_,wl_x3_,ixo27 hv22,(zE hv22).2.2,(setx_iff.1 hl24).2.symm,xC,hoS,hoN]
   exact k M3 (by omega)) fun M3 fM3_0=>?_
  try rw[← zD hl24]
  refine Wsq [0,9,10,11] fun K2 hK2=>?_
  refine Sx tok [] [0,9,10,11,127] (by
   intro K k
   have e0:=nQ w0 w2
   have e1:=nQ w0 w3
   have e2:=nQ w0 (N0+8)
   have e3:=nQ w2 w3
   have e4:=nQ w2 (N0+8)
   have e5:=nQ w3 (N0+8)
   simp -dsimp -implicitDefEqProofs [e0,e1,e2,e3,e4,e5,gs_W0,gs_W3,gs_x3_,ws_x3_,wl_x3_]
   exact k) ?_
  refine Cd (fun C10=>?_) fun C10=>?_
  ·replace H:=ifT C10 H
   refine Sx tok [] [8] (by
    intro K k
    have e0:=nQ w0 w2
    have e1:=nQ w0 w3
    have e2:=nQ w0 (N0+8)
    have e3:=nQ w2 w3
    have e4:=nQ w2 (N0+8)
    have e5:=nQ w3 (N0+8)
    simp -dsimp -implicitDefEqProofs [e0,e1,e2,e3,e4,e5,gs_W0,gs_W3,gs_x3_,ws_x3_,wl_x3_]
    exact k) ?_
   obtain⟨z,hz,H⟩:=bE H
   obtain rfl:=oi H;dsimp only at Gj1;obtain rfl:=oi Gj1;have H:=hz
   obtain rfl:=oi H
   refine Kp [8] ?_
   have z9:=nQ w0 w2
   have z10:=nQ w0 w3
   have z11:=nQ w0 (N0+8)
   have z12:=nQ w2 w3
   have z13:=nQ w2 (N0+8)
   have z14:=nQ w3 (N0+8)
   refine gDrop Wre [(w0,some ⟨26,2,W0.set r0_ [.osl 3 1 (eL rI p0.Regs),.int .i64 p0.Pc]⟩),(w2,some ⟨40,2,eL zW l24⟩),(w3,some ⟨t3_,s3_,W3.set r3_ (x3_.set i3_ (.osl 3 1 (eL rI p3)))⟩)] (zK (zK (zK (AHeap.Sub.trans (AHeap.Sub.refl _) (zR rfl (by simp;try omega)))))) ?_
   refine Wr ?_
   refine⟨[.int .i64 3],by simp[z9,z10,z11,z12,z13,z14,gs_W0,gs_W3,gs_x3_,ws_x3_,wl_x3_],M3+3,by omega,by first|rfl|exact(zD hl24)|omega,?_,?_⟩
   ·simp[eN]
   first|rfl|simp
  replace H:=ifF C10 H
  refine Wsk (Jn hK2 ?_)
  refine gU Wre w0 r0_ 0 ?_ (hr:=by exact gs_W0 _)
  obtain⟨v25,hv25,H⟩:=bE H
  obtain⟨l26,hl26,H⟩:=bE H
  refine AWP_rd tok tokM [] [3,5,7,8] [0,1,2,4,6,3,5,7,8] [0,10] (fun a σ=>a=[(0,.ptr w0 r0_ 0),(10,.int .i64 (iadd .i64 p0.Pc 1))]∧σ=hp E0 [(w0,some ⟨26,2,W0.set r0_ [.sl (M3+2) 0 p0.Regs.length,.int .i64 p0.Pc]⟩),(w2,some ⟨40,2,eL zW l24⟩),(w3,some ⟨t3_,s3_,W3.set r3_ (x3_.set i3_ (.osl 3 1 (eL rI p3)))⟩),(N0+8,some ⟨36,5,[[.int .i64 v1.Op,.int .i64 v1.Dst,.int .i64 v1.A,.int .i64 v1.B,.int .i64 v1.N]]⟩),(M3+2,some ⟨3,1,eL rI l26⟩)] (M3+12)) (by decide) (fun K hK=>?_) ?_
  ·simp only[pickL,zH,zJ]
   have e0:=nQ w0 w2
   have e1:=nQ w0 w3
   have e2:=nQ w0 (N0+8)
   have e3:=nQ w0 (M3+2)
   have e4:=nQ w2 w3
   have e5:=nQ w2 (N0+8)
   have e6:=nQ w2 (M3+2)
   have e7:=nQ w3 (N0+8)
   have e8:=nQ w3 (M3+2)
   have e9:=nQ (N0+8) (M3+2)
   have e10:=nQ (N0+6) M3
   simp -dsimp -implicitDefEqProofs [e0,e1,e2,e3,e4,e5,e6,e7,e8,e9,e10,gs_W0,gs_W3,gs_x3_,ws_x3_,wl_x3_,ixo24 hv25,(zE hv25).2.2,(setx_iff.1 hl26).2.symm]
   exact hK _ _ ⟨rfl,rfl⟩
  rintro a σ ⟨ha,rfl⟩
  (try rw[← zD hl26] at ha);(try rw[← zD hl26])
  replace H:=oi H
  refine hJ1 _ _ _ H.symm ?_;rw[ha]
  refine gP zL w0 r0_ 0 ?_ (hr:=by exact gs_W0 _)
  exact Rc.fin (zK (zK (zK (AHeap.Sub.trans (AHeap.Sub.refl _) (zR rfl (by simp;try omega)))))) ⟨M3+12,(by omega),(by first|rfl|exact(zD hl24)|omega),rfl,rfl⟩
 replace H:=ifF C9 H
 refine Sx tok [] [0,3,9,10,26,136] (by
  intro K k
  have e0:=nQ w0 w2
  have e1:=nQ w0 w3
  have e2:=nQ w0 (N0+8)
  have e3:=nQ w2 w3
  have e4:=nQ w2 (N0+8)
  have e5:=nQ w3 (N0+8)
  simp -dsimp -implicitDefEqProofs [e0,e1,e2,e3,e4,e5,gs_W0,gs_W3,gs_x3_,ws_x3_,wl_x3_]
  exact k) ?_
 refine Cd (fun C11=>?_) fun C11=>?_
 ·replace H:=ifT C11 H
  refine Sx tok [] [] (by
   intro K k
   have e0:=nQ w0 w2
   have e1:=nQ w0 w3
   have e2:=nQ w0 (N0+8)
   have e3:=nQ w2 w3
   have e4:=nQ w2 (N0+8)
   have e5:=nQ w3 (N0+8)
   simp -dsimp -implicitDefEqProofs [e0,e1,e2,e3,e4,e5,gs_W0,gs_W3,gs_x3_,ws_x3_,wl_x3_]
   exact k) ?_
  refine Sx tok [] [8] (by
   intro K k
   have e0:=nQ w0 w2
   have e1:=nQ w0 w3
   have e2:=nQ w0 (N0+8)
   have e3:=nQ w2 w3
   have e4:=nQ w2 (N0+8)
   have e5:=nQ w3 (N0+8)
   simp -dsimp -implicitDefEqProofs [e0,e1,e2,e3,e4,e5,gs_W0,gs_W3,gs_x3_,ws_x3_,wl_x3_]
   exact k) ?_
  obtain⟨z,hz,H⟩:=bE H
  obtain rfl:=oi H;dsimp only at Gj1;obtain rfl:=oi Gj1;have H:=hz
  obtain rfl:=oi H
  refine Kp [8] ?_
  have z15:=nQ w0 w2
  have z16:=nQ w0 w3
  have z17:=nQ w0 (N0+8)
  have z18:=nQ w2 w3
  have z19:=nQ w2 (N0+8)
  have z20:=nQ w3 (N0+8)
  refine gDrop Wre [(w0,some ⟨26,2,W0.set r0_ [.osl 3 1 (eL rI p0.Regs),.int .i64 (iadd .i64 p0.Pc 1)]⟩),(w2,some ⟨40,2,eL zW p2⟩),(w3,some ⟨t3_,s3_,W3.set r3_ (x3_.set i3_ (.osl 3 1 (eL rI p3)))⟩)] (zK (zK (zK (AHeap.Sub.trans (AHeap.Sub.refl _) (zR rfl (by simp;try omega)))))) ?_
  refine Wr ?_
  refine⟨[.int .i64 2],by simp[z15,z16,z17,z18,z19,z20,gs_W0,gs_W3,gs_x3_,ws_x3_,wl_x3_],N0+40,by omega,by first|rfl|exact rfl|omega,?_,?_⟩
  ·simp[eN]
  first|rfl|simp
 replace H:=ifF C11 H
 refine Sx tok [] [0,3,9,10,26,142] (by
  intro K k
  have e0:=nQ w0 w2
  have e1:=nQ w0 w3
  have e2:=nQ w0 (N0+8)
  have e3:=nQ w2 w3
  have e4:=nQ w2 (N0+8)
  have e5:=nQ w3 (N0+8)
  simp -dsimp -implicitDefEqProofs [e0,e1,e2,e3,e4,e5,gs_W0,gs_W3,gs_x3_,ws_x3_,wl_x3_]
  exact k) ?_
 refine Cd (fun C12=>?_) fun C12=>?_
 ·replace H:=ifT C12 H
  refine gUnp Wre (ty:=3) (sz:=1) (es:=eL rI p3) (o:=w3) (ob:=⟨t3_,s3_,W3.set r3_ (x3_.set i3_ (.osl 3 1 (eL rI p3)))⟩) (row:=x3_.set i3_ (.osl 3 1 (eL rI p3))) (r:=r3_) (i:=i3_) [(w0,some ⟨26,2,W0.set r0_ [.osl 3 1 (eL rI p0.Regs),.int .i64 p0.Pc]⟩),(w2,some ⟨40,2,eL zW p2⟩),(w3,some ⟨t3_,s3_,W3.set r3_ (x3_.set i3_ (.sl (N0+36) 0 p3.length))⟩),(N0+8,some ⟨36,5,[[.int .i64 v1.Op,.int .i64 v1.Dst,.int .i64 v1.A,.int .i64 v1.B,.int .i64 v1.N]]⟩),(N0+36,some ⟨3,1,eL rI p3⟩)] (by simp(disch:=omega)) (by simp(disch:=omega) [gs_W3]) (by simp(disch:=omega) [gs_x3_]) (by simp(disch:=omega)) ?_
  refine gU Wre w0 r0_ 0 ?_ (hr:=by exact gs_W0 _)
  obtain⟨v27,hv27,H⟩:=bE H
  obtain⟨l28,hl28,H⟩:=bE H
  have q0:∀σ i,bsA T 24 true i 1 [(0,.int .i64 v27)] σ=some (.fsl (eL rI ([v27]:List Int)),σ):=fun _ _=>rfl
  refine AWP_ry tok tokM [12] [3,7,9,10,11,12,13,15] [0,1,2,4,5,6,8,3,7,9,10,11,12,13,14,15] [(12,[3])] [0,10] (fun a σ=>a=[(0,.ptr w0 r0_ 0),(10,.int .i64 (iadd .i64 p0.Pc 1))]∧σ=hp E0 [(w0,some ⟨26,2,W0.set r0_ [.sl (N0+37) 0 p0.Regs.length,.int .i64 p0.Pc]⟩),(w2,some ⟨40,2,eL zW p2⟩),(w3,some ⟨t3_,s3_,W3.set r3_ (x3_.set i3_ (.sl (N0+51) 0 l28.length))⟩),(N0+8,some ⟨36,5,[[.int .i64 v1.Op,.int .i64 v1.Dst,.int .i64 v1.A,.int .i64 v1.B,.int .i64 v1.N]]⟩),(N0+37,some ⟨3,1,eL rI p0.Regs⟩),(N0+51,some ⟨3,1,eL rI l28⟩)] (N0+54)) (by decide) (fun K hK=>?_) ?_
  ·simp only[pickL,zH,zJ]
   have e0:=nQ w0 w2
   have e1:=nQ w0 w3
   have e2:=nQ w0 (N0+8)
   have e3:=nQ w0 (N0+36)
   have e4:=nQ w0 (N0+37)
   have e5:=nQ w0 (N0+51)
   have e6:=nQ w2 w3
   have e7:=nQ w2 (N0+8)
   have e8:=nQ w2 (N0+36)
   have e9:=nQ w2 (N0+37)
   have e10:=nQ w2 (N0+51)
   have e11:=nQ w3 (N0+8)
   have e12:=nQ w3 (N0+36)
   have e13:=nQ w3 (N0+37)
   have e14:=nQ w3 (N0+51)
   simp -dsimp -implicitDefEqProofs [e0,e1,e2,e3,e4,e5,e6,e7,e8,e9,e10,e11,e12,e13,e14,gs_W0,gs_W3,gs_x3_,ws_x3_,wl_x3_,ixo24 hv27,(zE hv27).2.2,q0,app24 hl28]
   exact hK _ _ ⟨rfl,rfl⟩
  rintro a σ ⟨ha,rfl⟩
  replace H:=oi H
  refine hJ1 _ _ _ H.symm ?_;rw[ha]
  refine gP zL w0 r0_ 0 ?_ (hr:=by exact gs_W0 _)
  refine gPk zL (k:=l28.length) (o:=w3) (ob:=⟨t3_,s3_,W3.set r3_ (x3_.set i3_ (.sl (N0+51) 0 l28.length))⟩) (row:=x3_.set i3_ (.sl (N0+51) 0 l28.length)) (d:=(N0+51)) (obd:=⟨3,1,eL rI l28⟩) (r:=r3_) (i:=i3_) [(w0,some ⟨26,2,W0.set r0_ [.osl 3 1 (eL rI p0.Regs),.int .i64 p0.Pc]⟩),(w2,some ⟨40,2,eL zW p2⟩),(w3,some ⟨t3_,s3_,W3.set r3_ (x3_.set i3_ (.osl 3 1 (eL rI l28)))⟩),(N0+8,some ⟨36,5,[[.int .i64 v1.Op,.int .i64 v1.Dst,.int .i64 v1.A,.int .i64 v1.B,.int .i64 v1.N]]⟩)] (by simp(disch:=omega)) (by simp(disch:=omega) [gs_W3]) (by simp(disch:=omega) [gs_x3_]) (by simp(disch:=omega)) (by simp(disch:=omega)) (by first|omega|simp) (by simp(disch:=omega) [app_set]<;>omega) (by simp(disch:=omega) [app_set]) ?_
  exact Rc.fin (zK (zK (zK (AHeap.Sub.trans (AHeap.Sub.refl _) (zR rfl (by simp;try omega)))))) ⟨N0+54,(by omega),(by first|rfl|exact rfl|omega),rfl,rfl⟩
 replace H:=ifF C12 H
 refine Sx tok [] [0,10,159] (by
  intro K k
  have e0:=nQ w0 w2
  have e1:=nQ w0 w3
  have e2:=nQ w0 (N0+8)
  have e3:=nQ w2 w3
  have e4:=nQ w2 (N0+8)
  have e5:=nQ w3 (N0+8)
  simp -dsimp -implicitDefEqProofs [e0,e1,e2,e3,e4,e5,gs_W0,gs_W3,gs_x3_,ws_x3_,wl_x3_]
  exact k) ?_
 refine Cd (fun C13=>?_) fun C13=>?_
 ·replace H:=ifT C13 H
  refine Sx tok [] [8] (by
   intro K k
   have e0:=nQ w0 w2
   have e1:=nQ w0 w3
   have e2:=nQ w0 (N0+8)
   have e3:=nQ w2 w3
   have e4:=nQ w2 (N0+8)
   have e5:=nQ w3 (N0+8)
   simp -dsimp -implicitDefEqProofs [e0,e1,e2,e3,e4,e5,gs_W0,gs_W3,gs_x3_,ws_x3_,wl_x3_]
   exact k) ?_
  obtain⟨z,hz,H⟩:=bE H
  obtain rfl:=oi H;dsimp only at Gj1;obtain rfl:=oi Gj1;have H:=hz
  obtain rfl:=oi H
  refine Kp [8] ?_
  have z21:=nQ w0 w2
  have z22:=nQ w0 w3
  have z23:=nQ w0 (N0+8)
  have z24:=nQ w2 w3
  have z25:=nQ w2 (N0+8)
  have z26:=nQ w3 (N0+8)
  refine gDrop Wre [(w0,some ⟨26,2,W0.set r0_ [.osl 3 1 (eL rI p0.Regs),.int .i64 p0.Pc]⟩),(w2,some ⟨40,2,eL zW p2⟩),(w3,some ⟨t3_,s3_,W3.set r3_ (x3_.set i3_ (.osl 3 1 (eL rI p3)))⟩)] (zK (zK (zK (AHeap.Sub.trans (AHeap.Sub.refl _) (zR rfl (by simp;try omega)))))) ?_
  refine Wr ?_
  refine⟨[.int .i64 4],by simp[z21,z22,z23,z24,z25,z26,gs_W0,gs_W3,gs_x3_,ws_x3_,wl_x3_],N0+39,by omega,by first|rfl|exact rfl|omega,?_,?_⟩
  ·simp[eN]
  first|rfl|simp
 replace H:=ifF C13 H
 refine Wsk ?_
 show K1 _ _
 refine kE [0,10] fun a' ha=>?_
 replace H:=oi H
 refine hJ1 _ _ _ H.symm ?_;rw[ha]
 exact Rc.fin (zK (zK (zK (AHeap.Sub.trans (AHeap.Sub.refl _) (zR rfl (by simp;try omega)))))) ⟨N0+38,(by omega),(by first|rfl|exact rfl|omega),rfl,rfl⟩

theorem c70_o {p0:(List Int)}{r:(List Int)}(H:kC p0=some r){σ:AHeap}:ACalls Tryz.prog G 70 [.fsl (eL rI p0)] σ (fun v σ'=>∃M n0:Nat,σ.next≤M∧σ.next≤n0∧n0<M∧v=.sl n0 0 r.length∧σ'=hp σ.objs [(n0,some ⟨3,1,eL rI r⟩)] M):=by
 refine zP (L:=[]) (Q1:=fun v σ'=>∃M n0:Nat,σ.next≤M∧σ.next≤n0∧n0<M∧v=.sl n0 0 r.length∧σ'=hp E0 [(n0,some ⟨3,1,eL rI r⟩)] M) (by simp) (fun hlt=>?_) ?_ ⟨_,Tryz.func70,rfl,rfl⟩
 rotate_left
 ·rintro v σ1 ⟨M,n0,h0,h1,h2,rfl,rfl⟩
  exact⟨_,M,rfl,by simp,by simp;try omega,M,n0,h0,h1,h2,rfl,rfl⟩
 generalize σ.next=N0 at hlt ⊢
 refine fnK tok Tryz.func70 Tryz.ntmps70 Tryz.results70 ?_
 simp only[argsA,Nat.reduceAdd,hpN]
 unfold kC at H
 refine S0 tok [] [0] ?_
 refine Wsq [0] fun K1 hK1=>?_
 refine AWP_isnil tok [4,0] ([(0,.fsl (eL rI p0))]) rfl rfl (by decide) (by decide) (by decide) (fun _=>rfl) (fun n0=>?_) ?_
 ·replace n0:p0=[]:=encL_isnil n0
  replace H:(if true=true then   some ([]:List Int) else   (appx 8 ([]:List Int) p0).bind fun l2=>   some l2:Option ((List Int)))=some r:=by simpa [n0,appx] using H
  refine Cd (fun C2=>?_) fun C2=>?_
  ·replace H:=ifT C2 H
   refine S0 tok [] [2] ?_
   obtain rfl:=oi H
   refine Kp [2] ?_
   refine gNilS Wre 2 3 1 [(N0+2,some ⟨3,1,eL rI ([]:List Int)⟩)] [(2,.sl (N0+2) 0 ([]:List Int).length)] (by simp(disch:=omega)) (by simp(disch:=omega) [eN]) [2] rfl ?_
   refine Wr ?_
   refine⟨[.sl (N0+2) 0 ([]:List Int).length],by simp,N0+3,N0+2,by omega,by omega,by omega,?_,?_⟩
   ·simp[eN]
   first|rfl|simp
  replace H:=ifF C2 H
  refine Wsk (Jn hK1 ?_)
  obtain⟨l2,hl2,H⟩:=bE H
  have q2:∀σ i,bsA T 24 true i 0 [] σ=some (.esl,σ):=fun _ _=>rfl
  refine Sx tok [0] [2] (by intro K k;simp -dsimp -implicitDefEqProofs [q2,appe24 hl2];exact k) ?_
  obtain rfl:=oi H
  refine Kp [2] ?_
  refine Wr ?_
  refine⟨[.sl (N0+3) 0 l2.length],by simp,N0+5,N0+3,by omega,by omega,by omega,?_,?_⟩
  ·simp[eN]
  first|rfl|simp
 ·
  refine Cd (fun C1=>?_) fun C1=>?_
  ·replace H:=ifT C1 H
   refine S0 tok [] [2] ?_
   obtain rfl:=oi H
   refine Kp [2] ?_
   refine gNilS Wre 2 3 1 [(N0+2,some ⟨3,1,eL rI ([]:List Int)⟩)] [(2,.sl (N0+2) 0 ([]:List Int).length)] (by simp(disch:=omega)) (by simp(disch:=omega) [eN]) [2] rfl ?_
   refine Wr ?_
   refine⟨[.sl (N0+2) 0 ([]:List Int).length],by simp,N0+3,N0+2,by omega,by omega,by omega,?_,?_⟩
   ·simp[eN]
   first|rfl|simp
  replace H:=ifF C1 H
  refine Wsk (Jn hK1 ?_)
  obtain⟨l1,hl1,H⟩:=bE H
  have q1:∀σ i,bsA T 24 true i 0 [] σ=some (.esl,σ):=fun _ _=>rfl
  refine Sx tok [0] [2] (by intro K k;simp -dsimp -implicitDefEqProofs [q1,appe24 hl1];exact k) ?_
  obtain rfl:=oi H
  refine Kp [2] ?_
  refine Wr ?_
  refine⟨[.sl (N0+3) 0 l1.length],by simp,N0+5,N0+3,by omega,by omega,by omega,?_,?_⟩
  ·simp[eN]
  first|rfl|simp

theorem c71_o2 {p0:(List gBox)}{r:(List gBox)}(H:jQ p0=some r){σ:AHeap}:ACalls Tryz.prog G 71 [.fsl (eL rBox p0)] σ (fun v σ'=>∃M n0:Nat,σ.next≤M∧σ.next≤n0∧n0<M∧v=.sl n0 0 r.length∧σ'=hp σ.objs [(n0,some ⟨40,2,eL zW r⟩)] M):=by
 refine zP (L:=[]) (Q1:=fun v σ'=>∃M n0:Nat,σ.next≤M∧σ.next≤n0∧n0<M∧v=.sl n0 0 r.length∧σ'=hp E0 [(n0,some ⟨40,2,eL zW r⟩)] M) (by simp) (fun hlt=>?_) ?_ ⟨_,Tryz.func71,rfl,rfl⟩
 rotate_left
 ·rintro v σ1 ⟨M,n0,h0,h1,h2,rfl,rfl⟩
  exact⟨_,M,rfl,by simp,by simp;try omega,M,n0,h0,h1,h2,rfl,rfl⟩
 generalize σ.next=N0 at hlt ⊢
 refine fnK tok Tryz.func71 Tryz.ntmps71 Tryz.results71 ?_
 simp only[argsA,Nat.reduceAdd,hpN]
 unfold jQ at H
 refine S0 tok [] [0] ?_
 refine S0 tok [] [0,3] ?_
 refine Wsq [3] fun K1 hK1=>?_
 refine S0 tok [] [3,6,7,8] ?_
 refine Wbl (Wth ?_)
 obtain⟨e1,hse1,H⟩:=bE H
 refine zU [3,6,7,8] (fun s a σ=>∃M1 o1:Nat,N0≤M1∧N0≤o1∧o1<M1∧a=[(3,.sl o1 0 s.2.length),(6,.fsl (eL rBox p0)),(7,.int .i64 (ilen p0)),(8,.int .i64 s.1)]∧σ=hp E0 [(o1,some ⟨40,2,eL zW s.2⟩)] M1) (fun s x a σ=>x=.exit 0∧Rc G 23 N0 (fun a σ=>∃M2 o2:Nat,N0≤M2∧N0≤o2∧o2<M2∧a=[(3,.sl o2 0 s.length)]∧σ=hp E0 [(o2,some ⟨40,2,eL zW s⟩)] M2) (AAct.keep a [3]) σ) hse1 ?_ ?_ ?_
 ·refine Rc.kp [3,6,7,8] [(3,.nilsl),(6,.fsl (eL rBox p0)),(7,.int .i64 (ilen p0)),(8,.int .i64 0)] rfl ?_
  refine gNilS zL 3 40 2 [(N0+5,some ⟨40,2,eL zW ([]:List gBox)⟩)] [(3,.sl (N0+5) 0 ([]:List gBox).length),(6,.fsl (eL rBox p0)),(7,.int .i64 (ilen p0)),(8,.int .i64 0)] (by simp(disch:=omega)) (by simp(disch:=omega) [eN]) [3,6,7,8] rfl ?_
  exact Rf ⟨N0+6,(N0+5),(by omega),(by omega),(by omega),rfl,rfl⟩
 ·clear H hse1
  rintro⟨s1,s2⟩ fl a σ H ⟨M1,o1,fM1_0,fM1_1,fM1_2,rfl,rfl⟩ K2 O2 hK2 hO2
  unfold i_boxesCopy_o2_L1 at H;dsimp only at H
  refine S0 tok [] [3,6,7,8,9] ?_
  refine Wsq [3,6,7,8] fun K3 hK3=>?_
  refine Cd (fun C1=>?_) fun C1=>?_
  ·replace H:=ifT C1 H
   refine Wsk (Jn hK3 ?_)
   refine Wsq [3,6,7,8] fun K4 hK4=>?_
   refine Wbl (Wth ?_)
   obtain⟨v4,hv4,H⟩:=bE H
   refine Sx tok [] [3,5,6,7,8] (by
    intro K k
    have e0:=nQ o1 (M1+3)
    simp -dsimp -implicitDefEqProofs [e0,ix27 hv4]
    exact k) ?_
   obtain⟨r5,hr5,H⟩:=bE H
   obtain⟨l6,hl6,H⟩:=bE H
   have q0:∀(a0:Int) (a1:Nat) (a2:Nat) σ i,bsA T 27 true i 1 [(0,.agg [.int .i64 a0,.sl a1 0 a2])] σ=some (.fsl [[.int .i64 a0,.sl a1 0 a2]],σ):=fun _ _ _ _ _=>rfl
   refine AWP_ry tok tokM [7] [2,4,5,8] [0,1,3,2,4,5,6,7,8,9] [(5,[2])] [3,6,7,8] (fun a σ=>∃M3 o3:Nat,M1+15≤M3∧M1+15≤o3∧o3<M3∧a=[(3,.sl (M1+13) 0 l6.length),(6,.fsl (eL rBox p0)),(7,.int .i64 (ilen p0)),(8,.int .i64 s1)]∧σ=hp E0 [(M1+3,some ⟨40,2,[[.int .i64 v4.Room,.fsl (eL rI v4.Items)]]⟩),(o3,some ⟨3,1,eL rI r5⟩),(M1+13,some ⟨40,2,eL zW s2++[[.int .i64 v4.Room,.sl o3 0 r5.length]]⟩)] M3) (by decide) (fun K hK=>?_) ?_
   ·simp only[pickL,zH,zJ]
    have e0:=nQ o1 (M1+3)
    have e1:=nQ o1 (M1+13)
    simp -dsimp -implicitDefEqProofs [e0,e1,q0,apr27 zW hl6]
    refine(c70_o (H:=hr5)).mono ?_;rintro _ _ ⟨M3,o3,fM3_0,fM3_1,fM3_2,rfl,rfl⟩;simp only[hpN] at fM3_0 fM3_1 fM3_2
    have eM3_0:=nQ o3 o1
    have eM3_1:=nQ o3 (M1+3)
    have eM3_2:=nQ o3 (M1+13)
    try simp -dsimp -implicitDefEqProofs [e0,e1,q0,apr27 zW hl6,eM3_0,eM3_1,eM3_2,hoS,hoN]
    exact hK _ _ ⟨M3,o3,(by omega),(by omega),(by omega),rfl,rfl⟩
   rintro a σ ⟨M3,o3,fM3_0,fM3_1,fM3_2,ha,rfl⟩
   refine hK4 _ _ ?_;rw[ha]
   refine Rc.mk ?_
   refine gP Wre (M1+13) s2.length 1 ?_ (hr:=by exact app_get _ _ _)
   rw[show hp E0 [(M1+3,some ⟨40,2,[[.int .i64 v4.Room,.fsl (eL rI v4.Items)]]⟩),(M1+13,some ⟨40,2,eL zW s2++[[.int .i64 v4.Room,.osl 3 1 (eL rI r5)]]⟩)] M3=hp E0 [(M1+3,some ⟨40,2,[[.int .i64 v4.Room,.fsl (eL rI v4.Items)]]⟩),(M1+13,some ⟨40,2,eL zW l6⟩)] M3 from by rw[← app_enc (f:=zW) (c:=[.int .i64 v4.Room,.osl 3 1 (eL rI r5)]) hl6 rfl]]
   refine Rt0 tok [] [3,6,7,8] fun a ha=>?_
   obtain rfl:=oi H
   refine hK2 _ _ _ rfl ?_;rw[ha]
   exact Rc.fin (AHeap.Sub.trans (zK (AHeap.Sub.refl _)) (zR rfl (by simp;try omega))) ⟨M3+2,(M1+13),(by omega),(by omega),(by omega),rfl,rfl⟩
  obtain rfl:=oi (ifF C1 H)
  refine zM (hO2 _ _ _ _ rfl ⟨rfl,?_⟩)
  refine Rc.rw (l:=[3]) (X:=[(3,.sl o1 0 s2.length)]) rfl ?_
  exact Rf ⟨M1+1,o1,(by omega),(by omega),(by omega),rfl,rfl⟩
 intro x a σ hx
 obtain⟨y3,rfl⟩:∃x,x=e1:=⟨_,rfl⟩
 obtain⟨rfl,b,τ,hr,M2,o2,fM2_0,fM2_1,fM2_2,rfl,rfl⟩:=hx
 (try dsimp only at H)
 show K1 _ _
 refine hK1 _ _ (zL hr ?_)
 refine Rc.mk ?_
 refine S0 tok [] [2] ?_
 obtain rfl:=oi H
 refine Kp [2] ?_
 refine Wr ?_
 refine⟨[.sl o2 0 y3.length],by simp,M2+2,o2,by omega,by omega,by omega,?_,?_⟩
 ·simp[eN]
 first|rfl|simp

theorem c24 {p0:(List gQuad)}{p1:gThread}{p2:(List gBox)}{r:gThread×(List gBox)×(List Int)×Int}(H:yJ p0 p1 p2=some r):APure Tryz.prog G 24 [.fsl (eL rQuad p0),.agg [.fsl (eL rI p1.Regs),.int .i64 p1.Pc],.fsl (eL rBox p2)] (.tup [.agg [.fsl (eL rI r.1.Regs),.int .i64 r.1.Pc],.fsl (eL rBox r.2.1),.fsl (eL rI r.2.2.1),.int .i64 r.2.2.2]):=by
 refine zB (fun N0=>?_) (by simp)
 refine fnK tok Tryz.func24 Tryz.ntmps24 Tryz.results24 ?_
 simp only[argsA,Nat.reduceAdd,hpN]
 unfold yJ at H
 refine S0 tok [0] [0,2,4,6] ?_
 refine Wsq [0,2,4,6] fun K1 hK1=>?_
 refine gW Wre (N0+1) 0 0 ?_
 obtain⟨r1,hr1,H⟩:=bE H
 obtain⟨g3,hg3,H⟩:=bE H
 obtain⟨g6,hg6,H⟩:=bE H
 refine Sx tok [] [0,2,4,6,33] (X:=[(0,.fsl (eL rQuad p0)),(2,.fsl (eL rBox p2)),(4,.fptr [.fsl (eL rI p1.Regs),.int .i64 p1.Pc] 0),(6,.ptr (N0+1) 0 0),(33,.bool g6)]) (Y:=hp E0 [(N0+1,some ⟨26,2,[[.fsl [],.int .i64 0]]⟩)] (N0+25)) (by
  intro K k
  simp -dsimp -implicitDefEqProofs
  refine(c30 hr1).app ?_;try simp -dsimp -implicitDefEqProofs
  cases hbg3:bnot r1
  ·replace hg3:=ifF hbg3 hg3
   obtain⟨r2,hr2,hg3⟩:=bE hg3
   obtain rfl:=oi hg3
   try simp -dsimp -implicitDefEqProofs [hbg3]
   refine(c68 hr2).app ?_;try simp -dsimp -implicitDefEqProofs [hbg3]
   cases hbg6:(bnot r2)
   ·replace hg6:=ifF hbg6 hg6
    obtain⟨v4,hv4,hg6⟩:=bE hg6
    obtain⟨r5,hr5,hg6⟩:=bE hg6
    obtain rfl:=oi hg6
    try simp -dsimp -implicitDefEqProofs [hbg3,hbg6,ix23 hv4]
    refine(c69 hr5).app ?_;try simp -dsimp -implicitDefEqProofs [hbg3,hbg6,ix23 hv4]
    exact k
   obtain rfl:=oi (ifT hbg6 hg6)
   try simp -dsimp -implicitDefEqProofs [hbg3,hbg6]
   exact k
  obtain rfl:=oi (ifT hbg3 hg3)
  obtain rfl:=oi (ifT rfl hg6)
  try simp -dsimp -implicitDefEqProofs [hbg3]
  exact k) ?_
 refine Cd (fun C1=>?_) fun C1=>?_
 ·replace H:=ifT C1 H
  refine S0 tok [] [6,7,8,9] ?_
  obtain rfl:=oi H
  refine Kp [6,7,8,9] ?_
  refine Wr ?_
  exact⟨[.agg [.fsl [],.int .i64 0],.nilsl,.nilsl,.int .i64 0],by simp,4,by simp[eN]⟩
 replace H:=ifF C1 H
 refine Wsk (Jn hK1 ?_)
 obtain⟨r7,hr7,H⟩:=bE H
 refine AWP_syC tok tokM [] [2,6,7] [0,1,3,4,2,5,6,7] [] [0,2,6,10] (fun a σ=>∃M1 o1:Nat,N0+33≤M1∧N0+33≤o1∧o1<M1∧a=[(0,.fsl (eL rQuad p0)),(2,.fsl (eL rBox p2)),(6,.ptr (N0+1) 0 0),(10,.ptr (N0+31) 0 0)]∧σ=hp E0 [(N0+1,some ⟨26,2,[[.fsl [],.int .i64 0]]⟩),(o1,some ⟨3,1,eL rI r7⟩),(N0+31,some ⟨26,2,[[.sl o1 0 r7.length,.int .i64 p1.Pc]]⟩)] M1) (by decide) (by kernel_rfl) (fun K hK=>?_) ?_
 ·simp only[pickL,zH,zJ]
  simp -dsimp -implicitDefEqProofs
  refine(c70_o (H:=hr7)).mono ?_;rintro _ _ ⟨M1,o1,fM1_0,fM1_1,fM1_2,rfl,rfl⟩;simp only[hpN] at fM1_0 fM1_1 fM1_2
  have eM1_0:=nQ o1 (N0+1)
  have eM1_1:=nQ o1 (N0+31)
  try simp -dsimp -implicitDefEqProofs [eM1_0,eM1_1,hoS,hoN]
  exact hK _ _ ⟨M1,o1,(by omega),(by omega),(by omega),rfl,rfl⟩
 rintro a σ ⟨M1,o1,fM1_0,fM1_1,fM1_2,rfl,rfl⟩
 refine gP Wre (N0+31) 0 0 ?_
 obtain⟨r8,hr8,H⟩:=bE H
 refine kX tok [] [0,6,10,11] (fun a σ=>∃M2 o2:Nat,M1+3≤M2∧M1+3≤o2∧o2<M2∧a=[(0,.fsl (eL rQuad p0)),(6,.ptr (N0+1) 0 0),(10,.ptr (N0+31) 0 0),(11,.sl o2 0 r8.length)]∧σ=hp E0 [(N0+1,some ⟨26,2,[[.fsl [],.int .i64 0]]⟩),(N0+31,some ⟨26,2,[[.osl 3 1 (eL rI r7),.int .i64 p1.Pc]]⟩),(o2,some ⟨40,2,eL zW r8⟩)] M2) (fun K hK=>?_) ?_
 ·skip
  simp -dsimp -implicitDefEqProofs
  refine(c71_o2 (H:=hr8)).mono ?_;rintro _ _ ⟨M2,o2,fM2_0,fM2_1,fM2_2,rfl,rfl⟩;simp only[hpN] at fM2_0 fM2_1 fM2_2
  have eM2_0:=nQ o2 (N0+1)
  have eM2_1:=nQ o2 (N0+31)
  try simp -dsimp -implicitDefEqProofs [eM2_0,eM2_1,hoS,hoN]
  exact hK _ _ ⟨M2,o2,(by omega),(by omega),(by omega),rfl,rfl⟩
 rintro a σ ⟨M2,o2,fM2_0,fM2_1,fM2_2,rfl,rfl⟩
 refine Sx tok [] [0,6,10,11,12] (by
  intro K k
  have e0:=nQ (N0+1) o2
  have e1:=nQ (N0+1) M2
  have e2:=nQ (N0+31) o2
  have e3:=nQ (N0+31) M2
  have e4:=nQ o2 M2
  simp -dsimp -implicitDefEqProofs [e0,e1,e2,e3,e4]
  exact k) ?_
 refine gP0 Wre M2 0 0 3 1 (eL rI ([]:List Int)) ?_
 obtain⟨r9,hr9,H⟩:=bE H
 refine kX tok [] [6,10,11,12,13] (fun a σ=>∃M3:Nat,M2+5≤M3∧r9.2.2.1.length=r8.length∧a=[(6,.ptr (N0+1) 0 0),(10,.ptr (N0+31) 0 0),(11,.sl o2 0 r8.length),(12,.ptr M2 0 0),(13,.int .i64 r9.1)]∧σ=hp E0 [(N0+1,some ⟨26,2,[[.fsl [],.int .i64 0]]⟩),(N0+31,some ⟨26,2,[[.osl 3 1 (eL rI r9.2.1.Regs),.int .i64 r9.2.1.Pc]]⟩),(o2,some ⟨40,2,eL zW r9.2.2.1⟩),(M2,some ⟨24,1,[[.osl 3 1 (eL rI r9.2.2.2)]]⟩)] M3) (fun K hK=>?_) ?_
 ·skip
  have e0:=nQ (N0+1) o2
  have e1:=nQ (N0+1) M2
  have e2:=nQ (N0+31) o2
  have e3:=nQ (N0+31) M2
  have e4:=nQ o2 M2
  simp -dsimp -implicitDefEqProofs [e0,e1,e2,e3,e4]
  refine(c72 (W0:=[[.osl 3 1 (eL rI r7),.int .i64 p1.Pc]]) (r0_:=0) (W3:=[[.osl 3 1 (eL rI ([]:List Int))]]) (r3_:=0) (x3_:=[.osl 3 1 (eL rI ([]:List Int))]) (i3_:=0) (t3_:=24) (s3_:=1) (H:=hr9) (by simp[e0,e1,e2,e3,e4]) (by simp[e0,e1,e2,e3,e4]) (by simp[e0,e1,e2,e3,e4]) (by simp[e0,e1,e2,e3,e4]) (by simp[e0,e1,e2,e3,e4]) (by simp[e0,e1,e2,e3,e4]) (by simp[e0,e1,e2,e3,e4]) (by simp[e0,e1,e2,e3,e4]) (by simp[e0,e1,e2,e3,e4])).mono ?_;rintro _ _ ⟨M3,fM3_0,fM3_1,rfl,rfl⟩;simp only[hpN] at fM3_0
  try simp -dsimp -implicitDefEqProofs [e0,e1,e2,e3,e4,hoS,hoN]
  exact hK _ _ ⟨M3,(by omega),fM3_1,rfl,rfl⟩
 rintro a σ ⟨M3,fM3_0,fM3_1,rfl,rfl⟩
 try rw[← fM3_1]
 refine gU Wre (N0+31) 0 0 ?_
 refine gU Wre M2 0 0 ?_
 refine AWP_sy tok tokM [] [0,2,4,5] [1,3,0,2,4,5,6,7] [(4,[2])] [6,7,8,9] (fun a σ=>a=[(6,.ptr (N0+1) 0 0),(7,.sl o2 0 r9.2.2.1.length),(8,.sl (M3+1) 0 r9.2.2.2.length),(9,.int .i64 r9.1)]∧σ=hp E0 [(N0+1,some ⟨26,2,[[.sl M3 0 r9.2.1.Regs.length,.int .i64 r9.2.1.Pc]]⟩),(N0+31,some ⟨26,2,[[.sl M3 0 r9.2.1.Regs.length,.int .i64 r9.2.1.Pc]]⟩),(o2,some ⟨40,2,eL zW r9.2.2.1⟩),(M2,some ⟨24,1,[[.sl (M3+1) 0 r9.2.2.2.length]]⟩),(M3,some ⟨3,1,eL rI r9.2.1.Regs⟩),(M3+1,some ⟨3,1,eL rI r9.2.2.2⟩)] (M3+10)) (by decide) (fun K hK=>?_) ?_
 ·simp only[pickL,zH,zJ]
  have e0:=nQ (N0+1) o2
  have e1:=nQ (N0+1) M2
  have e2:=nQ (N0+1) M3
  have e3:=nQ (N0+1) (M3+1)
  have e4:=nQ N0 M3
  have e5:=nQ (N0+31) o2
  have e6:=nQ (N0+31) M2
  have e7:=nQ (N0+31) M3
  have e8:=nQ (N0+31) (M3+1)
  have e9:=nQ (N0+30) M3
  have e10:=nQ o2 M2
  have e11:=nQ o2 M3
  have e12:=nQ o2 (M3+1)
  have e13:=nQ M2 M3
  have e14:=nQ M2 (M3+1)
  simp -dsimp -implicitDefEqProofs [e0,e1,e2,e3,e4,e5,e6,e7,e8,e9,e10,e11,e12,e13,e14]
  exact hK _ _ ⟨rfl,rfl⟩
 rintro a σ ⟨rfl,rfl⟩
 obtain rfl:=oi H
 refine Kp [6,7,8,9] ?_
 have z0:=nQ (N0+1) o2
 have z1:=nQ (N0+1) M2
 have z2:=nQ (N0+1) M3
 have z3:=nQ (N0+1) (M3+1)
 have z4:=nQ N0 M3
 have z5:=nQ (N0+31) o2
 have z6:=nQ (N0+31) M2
 have z7:=nQ (N0+31) M3
 have z8:=nQ (N0+31) (M3+1)
 have z9:=nQ (N0+30) M3
 have z10:=nQ o2 M2
 have z11:=nQ o2 M3
 have z12:=nQ o2 (M3+1)
 have z13:=nQ M2 M3
 have z14:=nQ M2 (M3+1)
 refine Wr ?_
 exact⟨[.agg [.sl M3 0 r9.2.1.Regs.length,.int .i64 r9.2.1.Pc],.sl o2 0 r9.2.2.1.length,.sl (M3+1) 0 r9.2.2.2.length,.int .i64 r9.1],by simp[z0,z1,z2,z3,z4,z5,z6,z7,z8,z9,z10,z11,z12,z13,z14],4,by simp[eN,z0,z1,z2,z3,z4,z5,z6,z7,z8,z9,z10,z11,z12,z13,z14]⟩

theorem c128 {p0:(List Int)}{p1:Int}{r:Bool}(H:s_l4Words p0 p1=some r):APure Tryz.prog G 128 [.fsl (eL rI p0),.int .i64 p1] (.bool r):=by
 refine zB (fun N0=>?_) (by simp)
 refine fnK tok Tryz.func128 Tryz.ntmps128 Tryz.results128 ?_
 simp only[argsA,Nat.reduceAdd,hpN]
 unfold s_l4Words at H
 refine S0 tok [] [0,1] ?_
 refine Wsq [0] fun K1 hK1=>?_
 refine S0 tok [] [0,9] ?_
 refine Cd (fun C1=>?_) fun C1=>?_
 ·replace H:=ifT C1 H
  refine S0 tok [] [4] ?_
  obtain rfl:=oi H;exact Wr ⟨_,rfl,4,by simp[eN]⟩
 replace H:=ifF C1 H
 refine Wsk (Jn hK1 ?_)
 refine Wsq [] fun K2 hK2=>?_
 refine S0 tok [] [0,5] ?_
 refine Wbl (Wth ?_)
 obtain⟨e1,hse1,H⟩:=bE H
 refine zU [0,5] (fun s a σ=>∃M1:Nat,N0≤M1∧a=[(0,.fsl (eL rI p0)),(5,.int .i64 s)]∧σ=hp E0 [] M1) (fun e x a σ=>match e with|.inl s=>x=.exit 0∧Rc G 22 N0 (fun a σ=>∃M2:Nat,N0≤M2∧a=[]∧σ=hp E0 [] M2) (AAct.keep a []) σ|.inr s=>x=.ret∧∃vs,resA T σ a [.tmp 4]=some vs∧∃d,thawA (fun _=>true) σ d (tupA vs)=.bool s) hse1 ?_ ?_ ?_
 ·refine Rc.kp [0,5] [(0,.fsl (eL rI p0)),(5,.int .i64 0)] rfl ?_
  exact Rf ⟨N0+6,(by omega),rfl,rfl⟩
 ·clear H hse1
  rintro s1 fl a σ H ⟨M1,fM1_0,rfl,rfl⟩ K3 O3 hK3 hO3
  unfold s_l4Words_L1 at H;dsimp only at H
  refine Wsq [0,5] fun K4 hK4=>?_
  refine S0 tok [] [0,5,13] ?_
  refine Cd (fun C2=>?_) fun C2=>?_
  ·replace H:=ifT C2 H
   refine Wsk (Jn hK4 ?_)
   refine Wsq [0,5] fun K5 hK5=>?_
   refine Wbl (Wth ?_)
   obtain⟨v2,hv2,H⟩:=bE H
   obtain⟨r3,hr3,H⟩:=bE H
   refine Sx tok [] [0,5,21] (by intro K k;(repeat first|simp -dsimp -implicitDefEqProofs [ix24 hv2]|refine(c144 hr3).app ?_);exact k) ?_
   refine Cd (fun C3=>?_) fun C3=>?_
   ·replace H:=ifT C3 H
    refine S0 tok [] [4] ?_
    obtain rfl:=oi H
    refine Kp [4] ?_
    refine Wr (hO3 _ _ _ _ rfl ⟨rfl,?_⟩)
    exact⟨[.bool false],by simp,4,by simp[eN]⟩
   replace H:=ifF C3 H
   refine Wsk (Jn hK5 ?_)
   refine Rt0 tok [] [0,5] fun a ha=>?_
   obtain rfl:=oi H
   refine hK3 _ _ _ rfl ?_;rw[ha]
   exact Rf ⟨M1+13,(by omega),rfl,rfl⟩
  obtain rfl:=oi (ifF C2 H)
  refine zM (hO3 _ _ _ _ rfl ⟨rfl,?_⟩)
  refine Rc.rw (l:=[]) (X:=[]) rfl ?_
  exact Rf ⟨M1+4,(by omega),rfl,rfl⟩
 intro x a σ hx
 rcases e1 with⟨⟩|r0
 ·obtain⟨rfl,b,τ,hr,M2,fM2_0,rfl,rfl⟩:=hx
  (try dsimp only at H)
  show K2 _ _
  refine hK2 _ _ (zL hr ?_)
  refine Rc.mk ?_
  refine S0 tok [] [4] ?_
  obtain rfl:=oi H;exact Wr ⟨_,rfl,4,by simp[eN]⟩
 obtain⟨rfl,hx2⟩:=hx
 (try dsimp only at H)
 obtain rfl:=oi H;first|exact hx2|(simp only[List.set_set] at hx2 ⊢;exact hx2)

theorem c118 {p0:gThread}{p1:Int}{r:Bool}(H:s_l23Fits p0 p1=some r):APure Tryz.prog G 118 [.agg [.fsl (eL rI p0.Regs),.int .i64 p0.Pc],.int .i64 p1] (.bool r):=by
 refine zB (fun N0=>?_) (by simp)
 refine fnK tok Tryz.func118 Tryz.ntmps118 Tryz.results118 ?_
 simp only[argsA,Nat.reduceAdd,hpN]
 unfold s_l23Fits at H
 refine S0 tok [0] [1,2] ?_
 obtain⟨r1,hr1,H⟩:=bE H
 obtain⟨g3,hg3,H⟩:=bE H
 refine Sx tok [] [4] (X:=[(4,.bool g3)]) (Y:=hp E0 [] (N0+13)) (by
  intro K k
  simp -dsimp -implicitDefEqProofs
  refine(c128 hr1).app ?_;try simp -dsimp -implicitDefEqProofs
  cases hbg3:r1
  ·obtain rfl:=oi (ifF hbg3 hg3)
   try simp -dsimp -implicitDefEqProofs [hbg3]
   exact k
  replace hg3:=ifT hbg3 hg3
  obtain⟨r2,hr2,hg3⟩:=bE hg3
  obtain rfl:=oi hg3
  try simp -dsimp -implicitDefEqProofs [hbg3]
  refine(c100 hr2).app ?_;try simp -dsimp -implicitDefEqProofs [hbg3]
  exact k) ?_
 obtain rfl:=oi H;exact Wr ⟨_,rfl,4,by simp[eN]⟩

theorem c73 {p0:gThread}{p1:(List gQuad)}{r:Bool}(H:xS p0 p1=some r):APure Tryz.prog G 73 [.agg [.fsl (eL rI p0.Regs),.int .i64 p0.Pc],.fsl (eL rQuad p1)] (.bool r):=by
 refine zB (fun N0=>?_) (by simp)
 refine fnK tok Tryz.func73 Tryz.ntmps73 Tryz.results73 ?_
 simp only[argsA,Nat.reduceAdd,hpN]
 unfold xS at H
 refine S0 tok [0] [1,2] ?_
 obtain⟨r1,hr1,H⟩:=bE H
 obtain⟨g3,hg3,H⟩:=bE H
 refine Sx tok [] [4] (X:=[(4,.bool g3)]) (Y:=hp E0 [] (N0+11)) (by
  intro K k
  simp -dsimp -implicitDefEqProofs
  refine(c117 hr1).app ?_;try simp -dsimp -implicitDefEqProofs
  cases hbg3:r1
  ·obtain rfl:=oi (ifF hbg3 hg3)
   try simp -dsimp -implicitDefEqProofs [hbg3]
   exact k
  replace hg3:=ifT hbg3 hg3
  obtain⟨r2,hr2,hg3⟩:=bE hg3
  obtain rfl:=oi hg3
  try simp -dsimp -implicitDefEqProofs [hbg3]
  refine(c118 hr2).app ?_;try simp -dsimp -implicitDefEqProofs [hbg3]
  exact k) ?_
 obtain rfl:=oi H;exact Wr ⟨_,rfl,4,by simp[eN]⟩

theorem c119 {p0:gBox}{r:Bool}(H:wL p0=some r):APure Tryz.prog G 119 [.agg [.int .i64 p0.Room,.fsl (eL rI p0.Items)]] (.bool r):=by
 refine zB (fun N0=>?_) (by simp)
 refine fnK tok Tryz.func119 Tryz.ntmps119 Tryz.results119 ?_
 simp only[argsA,Nat.reduceAdd,hpN]
 unfold wL at H
 refine S0 tok [0] [1] ?_
 obtain⟨r1,hr1,H⟩:=bE H
 obtain⟨g2,hg2,H⟩:=bE H
 obtain⟨g4,hg4,H⟩:=bE H
 refine Sx tok [] [2] (X:=[(2,.bool g4)]) (Y:=hp E0 [] (N0+22)) (by
  intro K k
  simp -dsimp -implicitDefEqProofs
  refine(c100 hr1).app ?_;try simp -dsimp -implicitDefEqProofs
  cases hbg2:r1
  ·obtain rfl:=oi (ifF hbg2 hg2)
   obtain rfl:=oi (ifF rfl hg4)
   try simp -dsimp -implicitDefEqProofs [hbg2]
   exact k
  obtain rfl:=oi (ifT hbg2 hg2)
  try simp -dsimp -implicitDefEqProofs [hbg2]
  cases hbg4:(ile (ilen p0.Items) p0.Room)
  ·obtain rfl:=oi (ifF hbg4 hg4)
   try simp -dsimp -implicitDefEqProofs [hbg2,hbg4]
   exact k
  replace hg4:=ifT hbg4 hg4
  obtain⟨r3,hr3,hg4⟩:=bE hg4
  obtain rfl:=oi hg4
  try simp -dsimp -implicitDefEqProofs [hbg2,hbg4]
  refine(c128 hr3).app ?_;try simp -dsimp -implicitDefEqProofs [hbg2,hbg4]
  exact k) ?_
 obtain rfl:=oi H;exact Wr ⟨_,rfl,4,by simp[eN]⟩

theorem c74 {p0:(List gBox)}{r:Bool}(H:s_l15Boxes p0=some r):APure Tryz.prog G 74 [.fsl (eL rBox p0)] (.bool r):=by
 refine zB (fun N0=>?_) (by simp)
 refine fnK tok Tryz.func74 Tryz.ntmps74 Tryz.results74 ?_
 simp only[argsA,Nat.reduceAdd,hpN]
 unfold s_l15Boxes at H
 refine S0 tok [] [0] ?_
 refine Wsq [0] fun K1 hK1=>?_
 refine S0 tok [] [0,3] ?_
 refine Wbl (Wth ?_)
 obtain⟨e1,hse1,H⟩:=bE H
 refine zU [0,3] (fun s a σ=>∃M1:Nat,N0≤M1∧a=[(0,.fsl (eL rBox p0)),(3,.int .i64 s)]∧σ=hp E0 [] M1) (fun e x a σ=>match e with|.inl s=>x=.exit 0∧Rc G 19 N0 (fun a σ=>∃M2:Nat,N0≤M2∧a=[(0,.fsl (eL rBox p0))]∧σ=hp E0 [] M2) (AAct.keep a [0]) σ|.inr s=>x=.ret∧∃vs,resA T σ a [.tmp 2]=some vs∧∃d,thawA (fun _=>true) σ d (tupA vs)=.bool s) hse1 ?_ ?_ ?_
 ·refine Rc.kp [0,3] [(0,.fsl (eL rBox p0)),(3,.int .i64 0)] rfl ?_
  exact Rf ⟨N0+2,(by omega),rfl,rfl⟩
 ·clear H hse1
  rintro s1 fl a σ H ⟨M1,fM1_0,rfl,rfl⟩ K2 O2 hK2 hO2
  unfold xQ at H;dsimp only at H
  refine Wsq [0,3] fun K3 hK3=>?_
  refine S0 tok [] [0,3,7] ?_
  refine Cd (fun C1=>?_) fun C1=>?_
  ·replace H:=ifT C1 H
   refine Wsk (Jn hK3 ?_)
   refine Wsq [0,3] fun K4 hK4=>?_
   refine Wbl (Wth ?_)
   obtain⟨v2,hv2,H⟩:=bE H
   obtain⟨r3,hr3,H⟩:=bE H
   refine Sx tok [] [0,3,15] (by intro K k;(repeat first|simp -dsimp -implicitDefEqProofs [ix27 hv2]|refine(c119 hr3).app ?_);exact k) ?_
   refine Cd (fun C2=>?_) fun C2=>?_
   ·replace H:=ifT C2 H
    refine S0 tok [] [2] ?_
    obtain rfl:=oi H
    refine Kp [2] ?_
    refine Wr (hO2 _ _ _ _ rfl ⟨rfl,?_⟩)
    exact⟨[.bool false],by simp,4,by simp[eN]⟩
   replace H:=ifF C2 H
   refine Wsk (Jn hK4 ?_)
   refine Rt0 tok [] [0,3] fun a ha=>?_
   obtain rfl:=oi H
   refine hK2 _ _ _ rfl ?_;rw[ha]
   exact Rf ⟨M1+13,(by omega),rfl,rfl⟩
  obtain rfl:=oi (ifF C1 H)
  refine zM (hO2 _ _ _ _ rfl ⟨rfl,?_⟩)
  refine Rc.rw (l:=[0]) (X:=[(0,.fsl (eL rBox p0))]) rfl ?_
  exact Rf ⟨M1+4,(by omega),rfl,rfl⟩
 intro x a σ hx
 rcases e1 with⟨⟩|r0
 ·obtain⟨rfl,b,τ,hr,M2,fM2_0,rfl,rfl⟩:=hx
  (try dsimp only at H)
  show K1 _ _
  refine hK1 _ _ (zL hr ?_)
  refine Rc.mk ?_
  refine S0 tok [] [2] ?_
  obtain rfl:=oi H;exact Wr ⟨_,rfl,4,by simp[eN]⟩
 obtain⟨rfl,hx2⟩:=hx
 (try dsimp only at H)
 obtain rfl:=oi H;first|exact hx2|(simp only[List.set_set] at hx2 ⊢;exact hx2)

theorem c75 {p0:gQuad}{p1:Int}{r:Bool}(H:s_l23Quad p0 p1=some r):APure Tryz.prog G 75 [.agg [.int .i64 p0.Op,.int .i64 p0.Dst,.int .i64 p0.A,.int .i64 p0.B,.int .i64 p0.N],.int .i64 p1] (.bool r):=by
 refine zB (fun N0=>?_) (by simp)
 refine fnK tok Tryz.func75 Tryz.ntmps75 Tryz.results75 ?_
 simp only[argsA,Nat.reduceAdd,hpN]
 unfold s_l23Quad at H
 refine S0 tok [0] [1,2] ?_
 obtain⟨g1,hg1,H⟩:=bE H
 obtain⟨g2,hg2,H⟩:=bE H
 refine Sx tok [] [4] (X:=[(4,.bool g2)]) (Y:=hp E0 [] (N0+17)) (by
  intro K k
  simp -dsimp -implicitDefEqProofs
  cases hbg1:ine p0.Op 6
  ·obtain rfl:=oi (ifF hbg1 hg1)
   obtain rfl:=oi (ifF rfl hg2)
   try simp -dsimp -implicitDefEqProofs [hbg1]
   exact k
  obtain rfl:=oi (ifT hbg1 hg1)
  try simp -dsimp -implicitDefEqProofs [hbg1]
  cases hbg2:(ine p0.Op 7)
  ·obtain rfl:=oi (ifF hbg2 hg2)
   try simp -dsimp -implicitDefEqProofs [hbg1,hbg2]
   exact k
  obtain rfl:=oi (ifT hbg2 hg2)
  try simp -dsimp -implicitDefEqProofs [hbg1,hbg2]
  exact k) ?_
 obtain rfl:=oi H;exact Wr ⟨_,rfl,4,by simp[eN]⟩

theorem c122 {p0:(List gBox)}{r:(List gBox)}(H:kM p0=some r):APure Tryz.prog G 122 [.fsl (eL rBox p0)] (.fsl (eL rBox r)):=by
 refine zB (fun N0=>?_) (by simp)
 refine fnK tok Tryz.func122 Tryz.ntmps122 Tryz.results122 ?_
 simp only[argsA,Nat.reduceAdd,hpN]
 unfold kM at H
 refine S0 tok [] [0] ?_
 have q0:∀σ i,bsA T 27 true i 0 [] σ=some (.esl,σ):=fun _ _=>rfl
 refine Sx tok [0] [0,3] (by intro K k;simp -dsimp -implicitDefEqProofs [q0];exact k) ?_
 refine Wsq [3] fun K1 hK1=>?_
 refine S0 tok [] [0,3,4] ?_
 refine Wbl (Wth ?_)
 obtain⟨e1,hse1,H⟩:=bE H
 refine zU [0,3,4] (fun s a σ=>∃M1 o1:Nat,N0≤M1∧N0≤o1∧o1<M1∧a=[(0,.fsl (eL rBox p0)),(3,.sl o1 0 s.2.length),(4,.int .i64 s.1)]∧σ=hp E0 [(o1,some ⟨40,2,eL rBox s.2⟩)] M1) (fun s x a σ=>x=.exit 0∧Rc G 29 N0 (fun a σ=>∃M2 o2:Nat,N0≤M2∧N0≤o2∧o2<M2∧a=[(3,.sl o2 0 s.length)]∧σ=hp E0 [(o2,some ⟨40,2,eL rBox s⟩)] M2) (AAct.keep a [3]) σ) hse1 ?_ ?_ ?_
 ·refine Rc.kp [0,3,4] [(0,.fsl (eL rBox p0)),(3,.esl),(4,.int .i64 0)] rfl ?_
  refine gNilS zL 3 40 2 [(N0+4,some ⟨40,2,eL rBox ([]:List gBox)⟩)] [(0,.fsl (eL rBox p0)),(3,.sl (N0+4) 0 ([]:List gBox).length),(4,.int .i64 0)] (by simp(disch:=omega)) (by simp(disch:=omega) [eN]) [0,3,4] rfl ?_
  exact Rf ⟨N0+5,(N0+4),(by omega),(by omega),(by omega),rfl,rfl⟩
 ·clear H hse1
  rintro⟨s1,s2⟩ fl a σ H ⟨M1,o1,fM1_0,fM1_1,fM1_2,rfl,rfl⟩ K2 O2 hK2 hO2
  unfold kY at H;dsimp only at H
  refine Wsq [0,3,4] fun K3 hK3=>?_
  refine S0 tok [] [0,3,4,9] ?_
  refine Cd (fun C1=>?_) fun C1=>?_
  ·replace H:=ifT C1 H
   refine Wsk (Jn hK3 ?_)
   refine Wsq [0,3,4] fun K4 hK4=>?_
   refine Wbl (Wth ?_)
   obtain⟨v4,hv4,H⟩:=bE H
   obtain⟨l5,hl5,H⟩:=bE H
   obtain⟨l6,hl6,H⟩:=bE H
   have q1:∀σ i,bsA T 24 true i 0 [] σ=some (.esl,σ):=fun _ _=>rfl
   have q2:∀σ i,bsA T 27 true i 1 [(0,.agg [.int .i64 v4.Room,.fsl (eL rI l5)])] σ=some (.fsl (eL rBox ([(⟨v4.Room,l5⟩:gBox)]:List gBox)),σ):=fun _ _=>rfl
   refine AWP_rd tok tokM [6,12,14] [15] [0,1,2,3,4,5,6,7,8,9,10,11,12,13,14,15,16] [0,3,4] (fun a σ=>a=[(0,.fsl (eL rBox p0)),(3,.sl (M1+19) 0 l6.length),(4,.int .i64 s1)]∧σ=hp E0 [(M1+19,some ⟨40,2,eL rBox l6⟩)] (M1+21)) (by decide) (fun K hK=>?_) ?_
   ·simp only[pickL,zH,zJ]
    have e0:=nQ o1 (M1+19)
    simp -dsimp -implicitDefEqProofs [e0,ix27 hv4,q1,appf24 hl5,q2,app27 hl6]
    exact hK _ _ ⟨rfl,rfl⟩
   rintro a σ ⟨ha,rfl⟩
   refine hK4 _ _ ?_;rw[ha]
   refine Rc.mk ?_
   refine Rt0 tok [] [0,3,4] fun a ha=>?_
   obtain rfl:=oi H
   refine hK2 _ _ _ rfl ?_;rw[ha]
   exact Rf ⟨M1+24,(M1+19),(by omega),(by omega),(by omega),rfl,rfl⟩
  obtain rfl:=oi (ifF C1 H)
  refine zM (hO2 _ _ _ _ rfl ⟨rfl,?_⟩)
  refine Rc.rw (l:=[3]) (X:=[(3,.sl o1 0 s2.length)]) rfl ?_
  exact Rf ⟨M1+4,o1,(by omega),(by omega),(by omega),rfl,rfl⟩
 intro x a σ hx
 obtain⟨y3,rfl⟩:∃x,x=e1:=⟨_,rfl⟩
 obtain⟨rfl,b,τ,hr,M2,o2,fM2_0,fM2_1,fM2_2,rfl,rfl⟩:=hx
 (try dsimp only at H)
 show K1 _ _
 refine hK1 _ _ (zL hr ?_)
 refine Rc.mk ?_
 refine S0 tok [] [2] ?_
 obtain rfl:=oi H;exact Wr ⟨_,rfl,4,by simp[eN]⟩

theorem c140 {p0:gBox}{p1:Int}{r:gBox×Bool}(H:s_BoxPut p0 p1=some r):APure Tryz.prog G 140 [.agg [.int .i64 p0.Room,.fsl (eL rI p0.Items)],.int .i64 p1] (.tup [.agg [.int .i64 r.1.Room,.fsl (eL rI r.1.Items)],.bool r.2]):=by
 refine zB (fun N0=>?_) (by simp)
 refine fnK tok Tryz.func140 Tryz.ntmps140 Tryz.results140 ?_
 simp only[argsA,Nat.reduceAdd,hpN]
 unfold s_BoxPut at H
 refine S0 tok [0] [1,2,4] ?_
 refine Wsq [1,2,4] fun K1 hK1=>?_
 refine gW Wre (N0+1) 0 1 ?_
 obtain⟨r1,hr1,H⟩:=bE H
 obtain⟨g3,hg3,H⟩:=bE H
 obtain⟨g4,hg4,H⟩:=bE H
 refine Sx tok [] [1,2,4,21] (X:=[(1,.int .i64 p1),(2,.fptr [.int .i64 p0.Room,.fsl (eL rI p0.Items)] 0),(4,.ptr (N0+1) 0 0),(21,.bool g4)]) (Y:=hp E0 [(N0+1,some ⟨40,2,[[.int .i64 0,.fsl []]]⟩)] (N0+19)) (by
  intro K k
  simp -dsimp -implicitDefEqProofs
  refine(c119 hr1).app ?_;try simp -dsimp -implicitDefEqProofs
  cases hbg3:bnot r1
  ·replace hg3:=ifF hbg3 hg3
   obtain⟨r2,hr2,hg3⟩:=bE hg3
   obtain rfl:=oi hg3
   try simp -dsimp -implicitDefEqProofs [hbg3]
   refine(c144 hr2).app ?_;try simp -dsimp -implicitDefEqProofs [hbg3]
   cases hbg4:(bnot r2)
   ·obtain rfl:=oi (ifF hbg4 hg4)
    try simp -dsimp -implicitDefEqProofs [hbg3,hbg4]
    exact k
   obtain rfl:=oi (ifT hbg4 hg4)
   try simp -dsimp -implicitDefEqProofs [hbg3,hbg4]
   exact k
  obtain rfl:=oi (ifT hbg3 hg3)
  obtain rfl:=oi (ifT rfl hg4)
  try simp -dsimp -implicitDefEqProofs [hbg3]
  exact k) ?_
 refine Cd (fun C1=>?_) fun C1=>?_
 ·replace H:=ifT C1 H
  refine S0 tok [] [4,5] ?_
  obtain rfl:=oi H
  refine Kp [4,5] ?_
  refine Wr ?_
  exact⟨[.agg [.int .i64 0,.fsl []],.bool false],by simp,4,by simp[eN]⟩
 replace H:=ifF C1 H
 refine Wsk (Jn hK1 ?_)
 obtain⟨l5,hl5,H⟩:=bE H
 obtain⟨l6,hl6,H⟩:=bE H
 have q0:∀σ i,bsA T 24 true i 0 [] σ=some (.esl,σ):=fun _ _=>rfl
 have q1:∀σ i,bsA T 24 true i 1 [(0,.int .i64 p1)] σ=some (.fsl (eL rI ([p1]:List Int)),σ):=fun _ _=>rfl
 refine Sd tok tokM [2,7] [5,8,10] [0,1,2,3,4,6,7,5,8,9,10,11] [4,5] (by
  intro K k
  simp only[pickL,zH,zJ]
  simp -dsimp -implicitDefEqProofs [q0,q1,appe24 hl5,app24 hl6]
  exact k) ?_
 obtain rfl:=oi H
 refine Kp [4,5] ?_
 refine Wr ?_
 exact⟨[.agg [.int .i64 p0.Room,.sl (N0+27) 0 l6.length],.bool true],by simp,4,by simp[eN]⟩

theorem c121 {p0:gThread}{p1:Int}{r:gThread}(H:wJ p0 p1=some r):APure Tryz.prog G 121 [.agg [.fsl (eL rI p0.Regs),.int .i64 p0.Pc],.int .i64 p1] (.agg [.fsl (eL rI r.Regs),.int .i64 r.Pc]):=by
 refine zB (fun N0=>?_) (by simp)
 refine fnK tok Tryz.func121 Tryz.ntmps121 Tryz.results121 ?_
 simp only[argsA,Nat.reduceAdd,hpN]
 unfold wJ at H
 refine S0 tok [0] [1,2,4] ?_
 obtain⟨l1,hl1,H⟩:=bE H
 have q0:∀σ i,bsA T 24 true i 0 [] σ=some (.esl,σ):=fun _ _=>rfl
 refine Sx tok [0,3] [4] (by intro K k;simp -dsimp -implicitDefEqProofs [q0,appf24 hl1];exact k) ?_
 obtain rfl:=oi H
 refine Kp [4] ?_
 refine Wr ?_
 exact⟨[.agg [.fsl (eL rI l1),.int .i64 p1]],by simp,4,by simp[eN]⟩

theorem c122_o {p0:(List gBox)}{r:(List gBox)}(H:jR p0=some r){σ:AHeap}:ACalls Tryz.prog G 122 [.fsl (eL rBox p0)] σ (fun v σ'=>∃M n0:Nat,σ.next≤M∧σ.next≤n0∧n0<M∧v=.sl n0 0 r.length∧σ'=hp σ.objs [(n0,some ⟨40,2,eL rBox r⟩)] M):=by
 refine zP (L:=[]) (Q1:=fun v σ'=>∃M n0:Nat,σ.next≤M∧σ.next≤n0∧n0<M∧v=.sl n0 0 r.length∧σ'=hp E0 [(n0,some ⟨40,2,eL rBox r⟩)] M) (by simp) (fun hlt=>?_) ?_ ⟨_,Tryz.func122,rfl,rfl⟩
 rotate_left
 ·rintro v σ1 ⟨M,n0,h0,h1,h2,rfl,rfl⟩
  exact⟨_,M,rfl,by simp,by simp;try omega,M,n0,h0,h1,h2,rfl,rfl⟩
 generalize σ.next=N0 at hlt ⊢
 refine fnK tok Tryz.func122 Tryz.ntmps122 Tryz.results122 ?_
 simp only[argsA,Nat.reduceAdd,hpN]
 unfold jR at H
 refine S0 tok [] [0] ?_
 have q0:∀σ i,bsA T 27 true i 0 [] σ=some (.esl,σ):=fun _ _=>rfl
 refine Sx tok [0] [0,3] (by intro K k;simp -dsimp -implicitDefEqProofs [q0];exact k) ?_
 refine Wsq [3] fun K1 hK1=>?_
 refine S0 tok [] [0,3,4] ?_
 refine Wbl (Wth ?_)
 obtain⟨e1,hse1,H⟩:=bE H
 refine zU [0,3,4] (fun s a σ=>∃M1 o1:Nat,N0≤M1∧N0≤o1∧o1<M1∧a=[(0,.fsl (eL rBox p0)),(3,.sl o1 0 s.2.length),(4,.int .i64 s.1)]∧σ=hp E0 [(o1,some ⟨40,2,eL rBox s.2⟩)] M1) (fun s x a σ=>x=.exit 0∧Rc G 29 N0 (fun a σ=>∃M2 o2:Nat,N0≤M2∧N0≤o2∧o2<M2∧a=[(3,.sl o2 0 s.length)]∧σ=hp E0 [(o2,some ⟨40,2,eL rBox s⟩)] M2) (AAct.keep a [3]) σ) hse1 ?_ ?_ ?_
 ·refine Rc.kp [0,3,4] [(0,.fsl (eL rBox p0)),(3,.esl),(4,.int .i64 0)] rfl ?_
  refine gNilS zL 3 40 2 [(N0+4,some ⟨40,2,eL rBox ([]:List gBox)⟩)] [(0,.fsl (eL rBox p0)),(3,.sl (N0+4) 0 ([]:List gBox).length),(4,.int .i64 0)] (by simp(disch:=omega)) (by simp(disch:=omega) [eN]) [0,3,4] rfl ?_
  exact Rf ⟨N0+5,(N0+4),(by omega),(by omega),(by omega),rfl,rfl⟩
 ·clear H hse1
  rintro⟨s1,s2⟩ fl a σ H ⟨M1,o1,fM1_0,fM1_1,fM1_2,rfl,rfl⟩ K2 O2 hK2 hO2
  unfold s_l15BoxesCopy_o_L1 at H;dsimp only at H
  refine Wsq [0,3,4] fun K3 hK3=>?_
  refine S0 tok [] [0,3,4,9] ?_
  refine Cd (fun C1=>?_) fun C1=>?_
  ·replace H:=ifT C1 H
   refine Wsk (Jn hK3 ?_)
   refine Wsq [0,3,4] fun K4 hK4=>?_
   refine Wbl (Wth ?_)
   obtain⟨v4,hv4,H⟩:=bE H
   obtain⟨l5,hl5,H⟩:=bE H
   obtain⟨l6,hl6,H⟩:=bE H
   have q1:∀σ i,bsA T 24 true i 0 [] σ=some (.esl,σ):=fun _ _=>rfl
   have q2:∀σ i,bsA T 27 true i 1 [(0,.agg [.int .i64 v4.Room,.fsl (eL rI l5)])] σ=some (.fsl (eL rBox ([(⟨v4.Room,l5⟩:gBox)]:List gBox)),σ):=fun _ _=>rfl
   refine AWP_rd tok tokM [6,12,14] [15] [0,1,2,3,4,5,6,7,8,9,10,11,12,13,14,15,16] [0,3,4] (fun a σ=>a=[(0,.fsl (eL rBox p0)),(3,.sl (M1+19) 0 l6.length),(4,.int .i64 s1)]∧σ=hp E0 [(M1+19,some ⟨40,2,eL rBox l6⟩)] (M1+21)) (by decide) (fun K hK=>?_) ?_
   ·simp only[pickL,zH,zJ]
    have e0:=nQ o1 (M1+19)
    simp -dsimp -implicitDefEqProofs [e0,ix27 hv4,q1,appf24 hl5,q2,app27 hl6]
    exact hK _ _ ⟨rfl,rfl⟩
   rintro a σ ⟨ha,rfl⟩
   refine hK4 _ _ ?_;rw[ha]
   refine Rc.mk ?_
   refine Rt0 tok [] [0,3,4] fun a ha=>?_
   obtain rfl:=oi H
   refine hK2 _ _ _ rfl ?_;rw[ha]
   exact Rf ⟨M1+24,(M1+19),(by omega),(by omega),(by omega),rfl,rfl⟩
  obtain rfl:=oi (ifF C1 H)
  refine zM (hO2 _ _ _ _ rfl ⟨rfl,?_⟩)
  refine Rc.rw (l:=[3]) (X:=[(3,.sl o1 0 s2.length)]) rfl ?_
  exact Rf ⟨M1+4,o1,(by omega),(by omega),(by omega),rfl,rfl⟩
 intro x a σ hx
 obtain⟨y3,rfl⟩:∃x,x=e1:=⟨_,rfl⟩
 obtain⟨rfl,b,τ,hr,M2,o2,fM2_0,fM2_1,fM2_2,rfl,rfl⟩:=hx
 (try dsimp only at H)
 show K1 _ _
 refine hK1 _ _ (zL hr ?_)
 refine Rc.mk ?_
 refine S0 tok [] [2] ?_
 obtain rfl:=oi H
 refine Kp [2] ?_
 refine Wr ?_
 refine⟨[.sl o2 0 y3.length],by simp,M2+2,o2,by omega,by omega,by omega,?_,?_⟩
 ·simp[eN]
 first|rfl|simp

theorem c141 {p0:gBox}{r:gBox×Int×Bool}(H:s_BoxTake p0=some r):APure Tryz.prog G 141 [.agg [.int .i64 p0.Room,.fsl (eL rI p0.Items)]] (.tup [.agg [.int .i64 r.1.Room,.fsl (eL rI r.1.Items)],.int .i64 r.2.1,.bool r.2.2]):=by
 refine zB (fun N0=>?_) (by simp)
 refine fnK tok Tryz.func141 Tryz.ntmps141 Tryz.results141 ?_
 simp only[argsA,Nat.reduceAdd,hpN]
 unfold s_BoxTake at H
 refine S0 tok [0] [1,2] ?_
 refine Wsq [1,2] fun K1 hK1=>?_
 refine gW Wre (N0+1) 0 1 ?_
 obtain⟨r1,hr1,H⟩:=bE H
 obtain⟨g2,hg2,H⟩:=bE H
 refine Sx tok [] [1,2,13] (X:=[(1,.fptr [.int .i64 p0.Room,.fsl (eL rI p0.Items)] 0),(2,.ptr (N0+1) 0 0),(13,.bool g2)]) (Y:=hp E0 [(N0+1,some ⟨40,2,[[.int .i64 0,.fsl []]]⟩)] (N0+13)) (by
  intro K k
  simp -dsimp -implicitDefEqProofs
  refine(c119 hr1).app ?_;try simp -dsimp -implicitDefEqProofs
  cases hbg2:bnot r1
  ·obtain rfl:=oi (ifF hbg2 hg2)
   try simp -dsimp -implicitDefEqProofs [hbg2]
   exact k
  obtain rfl:=oi (ifT hbg2 hg2)
  try simp -dsimp -implicitDefEqProofs [hbg2]
  exact k) ?_
 refine Cd (fun C1=>?_) fun C1=>?_
 ·replace H:=ifT C1 H
  refine S0 tok [] [2,3,4] ?_
  obtain rfl:=oi H
  refine Kp [2,3,4] ?_
  refine Wr ?_
  exact⟨[.agg [.int .i64 0,.fsl []],.int .i64 0,.bool false],by simp,4,by simp[eN]⟩
 replace H:=ifF C1 H
 refine Wsk (Jn hK1 ?_)
 obtain⟨l3,hl3,H⟩:=bE H
 obtain⟨l4,hl4,H⟩:=bE H
 obtain⟨v5,hv5,H⟩:=bE H
 have q0:∀σ i,bsA T 24 true i 0 [] σ=some (.esl,σ):=fun _ _=>rfl
 refine Sd tok tokM [2,6] [12] [0,1,2,3,4,5,6,7,8,9,10,11,12,13,14] [2,3,4] (by
  intro K k
  simp only[pickL,zH,zJ]
  simp -dsimp -implicitDefEqProofs [q0,cutl_24 hl3,appf24 hl4,ix24 hv5]
  exact k) ?_
 obtain rfl:=oi H
 refine Kp [2,3,4] ?_
 refine Wr ?_
 exact⟨[.agg [.int .i64 p0.Room,.fsl (eL rI l4)],.int .i64 v5,.bool true],by simp,4,by simp[eN]⟩

theorem c142 {p0:gThread}{p1:Int}{p2:Int}{p3:Int}{r:gThread}(H:s_l23Set p0 p1 p2 p3=some r):APure Tryz.prog G 142 [.agg [.fsl (eL rI p0.Regs),.int .i64 p0.Pc],.int .i64 p1,.int .i64 p2,.int .i64 p3] (.agg [.fsl (eL rI r.Regs),.int .i64 r.Pc]):=by
 refine zB (fun N0=>?_) (by simp)
 refine fnK tok Tryz.func142 Tryz.ntmps142 Tryz.results142 ?_
 simp only[argsA,Nat.reduceAdd,hpN]
 unfold s_l23Set at H
 refine S0 tok [0] [1,2,3,4,8] ?_
 obtain⟨l1,hl1,H⟩:=bE H
 have q0:∀σ i,bsA T 24 true i 0 [] σ=some (.esl,σ):=fun _ _=>rfl
 refine Sx tok [0] [1,2,8,9] (by intro K k;simp -dsimp -implicitDefEqProofs [q0,appe24 hl1];exact k) ?_
 obtain⟨v2,hv2,H⟩:=bE H
 obtain⟨l3,hl3,H⟩:=bE H
 refine Sx tok [] [8,9] (by intro K k;simp -dsimp -implicitDefEqProofs [ixo24 hv2,(zE hv2).2.2,(setx_iff.1 hl3).2.symm];exact k) ?_
 try rw[← zD hl3]
 refine S0 tok [] [8] ?_
 obtain rfl:=oi H
 refine Kp [8] ?_
 refine Wr ?_
 exact⟨[.agg [.sl (N0+5) 0 l3.length,.int .i64 p3]],by simp,4,by simp[eN]⟩

theorem c120 {p0:gQuad}{p1:gThread}{p2:(List gBox)}{r:gThread×(List gBox)×Int}(H:s_l23Talk p0 p1 p2=some r):APure Tryz.prog G 120 [.agg [.int .i64 p0.Op,.int .i64 p0.Dst,.int .i64 p0.A,.int .i64 p0.B,.int .i64 p0.N],.agg [.fsl (eL rI p1.Regs),.int .i64 p1.Pc],.fsl (eL rBox p2)] (.tup [.agg [.fsl (eL rI r.1.Regs),.int .i64 r.1.Pc],.fsl (eL rBox r.2.1),.int .i64 r.2.2]):=by
 refine zB (fun N0=>?_) (by simp)
 refine fnK tok Tryz.func120 Tryz.ntmps120 Tryz.results120 ?_
 simp only[argsA,Nat.reduceAdd,hpN]
 unfold s_l23Talk at H
 refine S0 tok [0,1] [2,3,4,6] ?_
 refine gW Wre (N0+2) 0 0 ?_
 obtain⟨r1,hr1,H⟩:=bE H
 refine kX tok [] [2,3,4,6,9] (fun a σ=>∃M1 o1:Nat,N0+8≤M1∧N0+8≤o1∧o1<M1∧a=[(2,.fsl (eL rBox p2)),(3,.fptr [.int .i64 p0.Op,.int .i64 p0.Dst,.int .i64 p0.A,.int .i64 p0.B,.int .i64 p0.N] 0),(4,.fptr [.fsl (eL rI p1.Regs),.int .i64 p1.Pc] 0),(6,.ptr (N0+2) 0 0),(9,.sl o1 0 r1.length)]∧σ=hp E0 [(N0+2,some ⟨26,2,[[.fsl [],.int .i64 0]]⟩),(o1,some ⟨40,2,eL rBox r1⟩)] M1) (fun K hK=>?_) ?_
 ·skip
  simp -dsimp -implicitDefEqProofs
  refine(c122_o (H:=hr1)).mono ?_;rintro _ _ ⟨M1,o1,fM1_0,fM1_1,fM1_2,rfl,rfl⟩;simp only[hpN] at fM1_0 fM1_1 fM1_2
  have eM1_0:=nQ o1 (N0+2)
  try simp -dsimp -implicitDefEqProofs [eM1_0,hoS,hoN]
  exact hK _ _ ⟨M1,o1,(by omega),(by omega),(by omega),rfl,rfl⟩
 rintro a σ ⟨M1,o1,fM1_0,fM1_1,fM1_2,rfl,rfl⟩
 refine Wsq [2,3,4,6,9] fun K1 hK1=>?_
 refine Sx tok [] [2,3,4,6,9,19] (by
  intro K k
  have e0:=nQ (N0+2) o1
  simp -dsimp -implicitDefEqProofs [e0]
  exact k) ?_
 refine Cd (fun C1=>?_) fun C1=>?_
 ·replace H:=ifT C1 H
  obtain⟨v2,hv2,H⟩:=bE H
  obtain⟨v3,hv3,H⟩:=bE H
  obtain⟨r4,hr4,H⟩:=bE H
  refine Sd tok tokM [] [15,16] [0,1,2,3,4,5,6,7,8,9,10,11,12,13,14,15,16,17] [3,4,6,9,10,11] (by
   intro K k
   have e0:=nQ (N0+2) o1
   have e1:=nQ (N0+2) (M1+18)
   have e2:=nQ N0 (M1+16)
   have e3:=nQ o1 (M1+18)
   simp only[pickL,zH,zJ]
   repeat first|simp -dsimp -implicitDefEqProofs [e0,e1,e2,e3,ix27 hv2,ix24 hv3]|refine Pc.mk (c140 hr4) ?_
   exact k) ?_
  refine Wsq [3,4,6,9,10] fun K2 hK2=>?_
  refine Sx tok [] [3,4,6,9,10,36] (by
   intro K k
   have e0:=nQ (N0+2) o1
   have e1:=nQ (N0+2) (M1+18)
   have e2:=nQ N0 (M1+16)
   have e3:=nQ o1 (M1+18)
   simp -dsimp -implicitDefEqProofs [e0,e1,e2,e3]
   exact k) ?_
  refine Cd (fun C2=>?_) fun C2=>?_
  ·replace H:=ifT C2 H
   obtain⟨r5,hr5,H⟩:=bE H
   refine Sx tok [] [6,7,8] (by
    intro K k
    have e0:=nQ (N0+2) o1
    have e1:=nQ (N0+2) (M1+18)
    have e2:=nQ N0 (M1+16)
    have e3:=nQ o1 (M1+18)
    repeat first|simp -dsimp -implicitDefEqProofs [e0,e1,e2,e3]|refine(c121 hr5).app ?_
    exact k) ?_
   obtain rfl:=oi H
   refine Kp [6,7,8] ?_
   have z0:=nQ (N0+2) o1
   have z1:=nQ (N0+2) (M1+18)
   have z2:=nQ N0 (M1+16)
   have z3:=nQ o1 (M1+18)
   refine Wr ?_
   exact⟨[.agg [.fsl (eL rI r5.Regs),.int .i64 r5.Pc],.sl o1 0 r1.length,.int .i64 3],by simp[z0,z1,z2,z3],4,by simp[eN,z0,z1,z2,z3]⟩
  replace H:=ifF C2 H
  refine Wsk (Jn hK2 ?_)
  obtain⟨v6,hv6,H⟩:=bE H
  obtain⟨l7,hl7,H⟩:=bE H
  refine Sx tok [] [4,6,9] (by
   intro K k
   have e0:=nQ (N0+2) o1
   have e1:=nQ (N0+2) (M1+18)
   have e2:=nQ N0 (M1+16)
   have e3:=nQ o1 (M1+18)
   simp -dsimp -implicitDefEqProofs [e0,e1,e2,e3,ixo27 hv6,(zE hv6).2.2,(setx_iff.1 hl7).2.symm]
   exact k) ?_
  try rw[← zD hl7]
  obtain⟨r8,hr8,H⟩:=bE H
  refine Sx tok [] [6,7,8] (by
   intro K k
   have e0:=nQ (N0+2) o1
   have e1:=nQ (N0+2) (M1+18)
   have e2:=nQ N0 (M1+16)
   have e3:=nQ o1 (M1+18)
   repeat first|simp -dsimp -implicitDefEqProofs [e0,e1,e2,e3]|refine(c121 hr8).app ?_
   exact k) ?_
  obtain rfl:=oi H
  refine Kp [6,7,8] ?_
  have z4:=nQ (N0+2) o1
  have z5:=nQ (N0+2) (M1+18)
  have z6:=nQ N0 (M1+16)
  have z7:=nQ o1 (M1+18)
  refine Wr ?_
  exact⟨[.agg [.fsl (eL rI r8.Regs),.int .i64 r8.Pc],.sl o1 0 l7.length,.int .i64 1],by simp[z4,z5,z6,z7],4,by simp[eN,z4,z5,z6,z7]⟩
 replace H:=ifF C1 H
 refine Wsk (Jn hK1 ?_)
 obtain⟨v9,hv9,H⟩:=bE H
 obtain⟨r10,hr10,H⟩:=bE H
 refine Sx tok [] [3,4,6,9,12,13,14] (by
  intro K k
  have e0:=nQ (N0+2) o1
  have e1:=nQ (N0+2) (M1+13)
  have e2:=nQ N0 (M1+11)
  have e3:=nQ o1 (M1+13)
  repeat first|simp -dsimp -implicitDefEqProofs [e0,e1,e2,e3,ix27 hv9]|refine(c141 hr10).app ?_
  exact k) ?_
 refine Wsq [3,4,6,9,12,13] fun K3 hK3=>?_
 refine Sx tok [] [3,4,6,9,12,13,64] (by
  intro K k
  have e0:=nQ (N0+2) o1
  have e1:=nQ (N0+2) (M1+13)
  have e2:=nQ N0 (M1+11)
  have e3:=nQ o1 (M1+13)
  simp -dsimp -implicitDefEqProofs [e0,e1,e2,e3]
  exact k) ?_
 refine Cd (fun C3=>?_) fun C3=>?_
 ·replace H:=ifT C3 H
  obtain⟨r11,hr11,H⟩:=bE H
  refine Sx tok [] [6,7,8] (by
   intro K k
   have e0:=nQ (N0+2) o1
   have e1:=nQ (N0+2) (M1+13)
   have e2:=nQ N0 (M1+11)
   have e3:=nQ o1 (M1+13)
   repeat first|simp -dsimp -implicitDefEqProofs [e0,e1,e2,e3]|refine(c121 hr11).app ?_
   exact k) ?_
  obtain rfl:=oi H
  refine Kp [6,7,8] ?_
  have z8:=nQ (N0+2) o1
  have z9:=nQ (N0+2) (M1+13)
  have z10:=nQ N0 (M1+11)
  have z11:=nQ o1 (M1+13)
  refine Wr ?_
  exact⟨[.agg [.fsl (eL rI r11.Regs),.int .i64 r11.Pc],.sl o1 0 r1.length,.int .i64 3],by simp[z8,z9,z10,z11],4,by simp[eN,z8,z9,z10,z11]⟩
 replace H:=ifF C3 H
 refine Wsk (Jn hK3 ?_)
 obtain⟨v12,hv12,H⟩:=bE H
 obtain⟨l13,hl13,H⟩:=bE H
 refine Sx tok [] [3,4,6,9,13] (by
  intro K k
  have e0:=nQ (N0+2) o1
  have e1:=nQ (N0+2) (M1+13)
  have e2:=nQ N0 (M1+11)
  have e3:=nQ o1 (M1+13)
  simp -dsimp -implicitDefEqProofs [e0,e1,e2,e3,ixo27 hv12,(zE hv12).2.2,(setx_iff.1 hl13).2.symm]
  exact k) ?_
 try rw[← zD hl13]
 obtain⟨r14,hr14,H⟩:=bE H
 refine Sx tok [] [6,7,8] (by
  intro K k
  have e0:=nQ (N0+2) o1
  have e1:=nQ (N0+2) (M1+13)
  have e2:=nQ N0 (M1+11)
  have e3:=nQ o1 (M1+13)
  repeat first|simp -dsimp -implicitDefEqProofs [e0,e1,e2,e3]|refine(c142 hr14).app ?_
  exact k) ?_
 obtain rfl:=oi H
 refine Kp [6,7,8] ?_
 have z12:=nQ (N0+2) o1
 have z13:=nQ (N0+2) (M1+13)
 have z14:=nQ N0 (M1+11)
 have z15:=nQ o1 (M1+13)
 refine Wr ?_
 exact⟨[.agg [.fsl (eL rI r14.Regs),.int .i64 r14.Pc],.sl o1 0 l13.length,.int .i64 1],by simp[z12,z13,z14,z15],4,by simp[eN,z12,z13,z14,z15]⟩

theorem c123 {p0:gQuad}{p1:gThread}{r:gThread}(H:s_l23Pure p0 p1=some r):APure Tryz.prog G 123 [.agg [.int .i64 p0.Op,.int .i64 p0.Dst,.int .i64 p0.A,.int .i64 p0.B,.int .i64 p0.N],.agg [.fsl (eL rI p1.Regs),.int .i64 p1.Pc]] (.agg [.fsl (eL rI r.Regs),.int .i64 r.Pc]):=by
 refine zB (fun N0=>?_) (by simp)
 refine fnK tok Tryz.func123 Tryz.ntmps123 Tryz.results123 ?_
 simp only[argsA,Nat.reduceAdd,hpN]
 unfold s_l23Pure at H
 refine S0 tok [0,1] [2,3,4] ?_
 refine Wsq [2,3,4] fun K1 hK1=>?_
 refine S0 tok [] [2,3,4,8] ?_
 refine Wbl (Wth ?_)
 refine S0 tok [] [2,3,4,8,9] ?_
 refine Cd (fun C1=>?_) fun C1=>?_
 ·replace H:=ifT C1 H
  refine gW Wre (N0+2) 0 0 ?_
  obtain⟨r1,hr1,H⟩:=bE H
  refine Sx tok [] [4] (by intro K k;(repeat first|simp -dsimp -implicitDefEqProofs|refine(c142 hr1).app ?_);exact k) ?_
  obtain rfl:=oi H
  refine Kp [4] ?_
  refine Wr ?_
  exact⟨[.agg [.fsl (eL rI r1.Regs),.int .i64 r1.Pc]],by simp,4,by simp[eN]⟩
 replace H:=ifF C1 H
 refine S0 tok [] [2,3,4,8,20] ?_
 refine Cd (fun C2=>?_) fun C2=>?_
 ·replace H:=ifT C2 H
  refine gW Wre (N0+2) 0 0 ?_
  obtain⟨v2,hv2,H⟩:=bE H
  obtain⟨r3,hr3,H⟩:=bE H
  refine Sd tok tokM [] [13] [0,1,2,3,4,5,6,7,8,9,10,11,12,13] [4] (by
   intro K k
   simp only[pickL,zH,zJ]
   repeat first|simp -dsimp -implicitDefEqProofs [ix24 hv2]|refine Pc.mk (c142 hr3) ?_
   exact k) ?_
  obtain rfl:=oi H
  refine Kp [4] ?_
  refine Wr ?_
  exact⟨[.agg [.fsl (eL rI r3.Regs),.int .i64 r3.Pc]],by simp,4,by simp[eN]⟩
 replace H:=ifF C2 H
 refine S0 tok [] [2,3,4,8,35] ?_
 refine Cd (fun C3=>?_) fun C3=>?_
 ·replace H:=ifT C3 H
  refine gW Wre (N0+2) 0 0 ?_
  obtain⟨v4,hv4,H⟩:=bE H
  obtain⟨v5,hv5,H⟩:=bE H
  obtain⟨r6,hr6,H⟩:=bE H
  refine Sd tok tokM [] [] [0,1,2,3,4,5,6,7,8,9,10,11,12,13,14,15,16,17,18,19] [2,3,4,5] (by
   intro K k
   simp only[pickL,zH,zJ]
   repeat first|simp -dsimp -implicitDefEqProofs [ix24 hv4,ix24 hv5]|refine Pc.mk (c143 hr6) ?_
   exact k) ?_
  obtain⟨r7,hr7,H⟩:=bE H
  refine Sx tok [] [4] (by intro K k;(repeat first|simp -dsimp -implicitDefEqProofs|refine(c142 hr7).app ?_);exact k) ?_
  obtain rfl:=oi H
  refine Kp [4] ?_
  refine Wr ?_
  exact⟨[.agg [.fsl (eL rI r7.Regs),.int .i64 r7.Pc]],by simp,4,by simp[eN]⟩
 replace H:=ifF C3 H
 refine S0 tok [] [2,3,4,63] ?_
 refine Cd (fun C4=>?_) fun C4=>?_
 ·replace H:=ifT C4 H
  refine gW Wre (N0+2) 0 0 ?_
  obtain⟨r8,hr8,H⟩:=bE H
  refine Sx tok [] [4] (by intro K k;(repeat first|simp -dsimp -implicitDefEqProofs|refine(c121 hr8).app ?_);exact k) ?_
  obtain rfl:=oi H
  refine Kp [4] ?_
  refine Wr ?_
  exact⟨[.agg [.fsl (eL rI r8.Regs),.int .i64 r8.Pc]],by simp,4,by simp[eN]⟩
 replace H:=ifF C4 H
 refine Wsk (Jn hK1 ?_)
 refine Wsq [3,4] fun K2 hK2=>?_
 obtain⟨g10,hg10,H⟩:=bE H
 refine Sx tok [] [2,3,4,80] (X:=[(2,.fptr [.int .i64 p0.Op,.int .i64 p0.Dst,.int .i64 p0.A,.int .i64 p0.B,.int .i64 p0.N] 0),(3,.fptr [.fsl (eL rI p1.Regs),.int .i64 p1.Pc] 0),(4,.ptr (N0+2) 0 0),(80,.bool g10)]) (Y:=hp E0 [(N0+2,some ⟨26,2,[[.nilsl,.int .i64 0]]⟩)] (N0+25)) (by
  intro K k
  simp -dsimp -implicitDefEqProofs
  cases hbg10:ieq p0.Op 5
  ·obtain rfl:=oi (ifF hbg10 hg10)
   try simp -dsimp -implicitDefEqProofs [hbg10]
   exact k
  replace hg10:=ifT hbg10 hg10
  obtain⟨v9,hv9,hg10⟩:=bE hg10
  obtain rfl:=oi hg10
  try simp -dsimp -implicitDefEqProofs [hbg10,ix24 hv9]
  exact k) ?_
 refine Cd (fun C5=>?_) fun C5=>?_
 ·replace H:=ifT C5 H
  refine gW Wre (N0+2) 0 0 ?_
  obtain⟨r11,hr11,H⟩:=bE H
  refine Sx tok [] [4] (by intro K k;(repeat first|simp -dsimp -implicitDefEqProofs|refine(c121 hr11).app ?_);exact k) ?_
  obtain rfl:=oi H
  refine Kp [4] ?_
  refine Wr ?_
  exact⟨[.agg [.fsl (eL rI r11.Regs),.int .i64 r11.Pc]],by simp,4,by simp[eN]⟩
 replace H:=ifF C5 H
 refine Wsk (Jn hK2 ?_)
 refine gW Wre (N0+2) 0 0 ?_
 obtain⟨r12,hr12,H⟩:=bE H
 refine Sx tok [] [4] (by intro K k;(repeat first|simp -dsimp -implicitDefEqProofs|refine(c121 hr12).app ?_);exact k) ?_
 obtain rfl:=oi H
 refine Kp [4] ?_
 refine Wr ?_
 exact⟨[.agg [.fsl (eL rI r12.Regs),.int .i64 r12.Pc]],by simp,4,by simp[eN]⟩

theorem c76 {p0:gQuad}{p1:gThread}{p2:(List gBox)}{r:gThread×(List gBox)×(List Int)×Int}(H:s_l23Step p0 p1 p2=some r):APure Tryz.prog G 76 [.agg [.int .i64 p0.Op,.int .i64 p0.Dst,.int .i64 p0.A,.int .i64 p0.B,.int .i64 p0.N],.agg [.fsl (eL rI p1.Regs),.int .i64 p1.Pc],.fsl (eL rBox p2)] (.tup [.agg [.fsl (eL rI r.1.Regs),.int .i64 r.1.Pc],.fsl (eL rBox r.2.1),.fsl (eL rI r.2.2.1),.int .i64 r.2.2.2]):=by
 refine zB (fun N0=>?_) (by simp)
 refine fnK tok Tryz.func76 Tryz.ntmps76 Tryz.results76 ?_
 simp only[argsA,Nat.reduceAdd,hpN]
 unfold s_l23Step at H
 refine S0 tok [0,1] [2,3,4,6] ?_
 refine Wsq [2,3,4,6] fun K1 hK1=>?_
 refine S0 tok [] [2,3,4,6,14] ?_
 refine Wbl (Wth ?_)
 obtain⟨j1,hj1,H⟩:=bE H
 refine kL (kI fun K2 hK2=>?_)
 have hJ1:∀a σ,Rc G 71 N0 (fun a σ=>∃M1:Nat,N0≤M1∧N0+2<M1∧a=[(2,.fsl (eL rBox p2)),(3,.fptr [.int .i64 p0.Op,.int .i64 p0.Dst,.int .i64 p0.A,.int .i64 p0.B,.int .i64 p0.N] 0),(4,.fptr [.fsl (eL rI p1.Regs),.int .i64 p1.Pc] 0),(6,.ptr (N0+2) 0 0),(14,.int .i64 p0.Op),(15,.bool j1)]∧σ=hp E0 [(N0+2,some ⟨26,2,[[.fsl [],.int .i64 0]]⟩)] M1) (a.keep [2,3,4,6,14,15]) σ→K2 a σ:=by
  rintro a σ ⟨b,τ,hr,M1,fM1_0,fM1_1,rfl,rfl⟩
  refine hK2 _ _ (kA [2,3,4,6,14,15] (Wre hr ?_))
  refine Cd (fun C1=>?_) fun C1=>?_
  ·replace H:=ifT C1 H
   obtain⟨r2,hr2,H⟩:=bE H
   refine Sx tok [] [6,10,11,12] (by
    intro K k
    have e0:=nQ (N0+2) (M1+8)
    have e1:=nQ N0 (M1+6)
    repeat first|simp -dsimp -implicitDefEqProofs [e0,e1]|refine(c120 hr2).app ?_
    exact k) ?_
   have q0:∀σ i,bsA T 24 true i 0 [] σ=some (.esl,σ):=fun _ _=>rfl
   refine Sx tok [2] [6,7,8,9] (by
    intro K k
    have e0:=nQ (N0+2) (M1+8)
    have e1:=nQ N0 (M1+6)
    simp -dsimp -implicitDefEqProofs [e0,e1,q0]
    exact k) ?_
   obtain rfl:=oi H
   refine Kp [6,7,8,9] ?_
   have z0:=nQ (N0+2) (M1+8)
   have z1:=nQ N0 (M1+6)
   refine Wr ?_
   exact⟨[.agg [.fsl (eL rI r2.1.Regs),.int .i64 r2.1.Pc],.fsl (eL rBox r2.2.1),.esl,.int .i64 r2.2.2],by simp[z0,z1],4,by simp[eN,z0,z1]⟩
  replace H:=ifF C1 H
  refine S0 tok [] [2,3,4,6,14,30] ?_
  refine Cd (fun C2=>?_) fun C2=>?_
  ·replace H:=ifT C2 H
   obtain⟨r3,hr3,H⟩:=bE H
   obtain⟨r4,hr4,H⟩:=bE H
   have q1:∀σ i,bsA T 24 true i 0 [] σ=some (.esl,σ):=fun _ _=>rfl
   refine Sx tok [6] [6,7,8,9] (by intro K k;(repeat first|simp -dsimp -implicitDefEqProofs [q1]|refine(c121 hr3).app ?_|refine(c122 hr4).app ?_);exact k) ?_
   obtain rfl:=oi H
   refine Kp [6,7,8,9] ?_
   refine Wr ?_
   exact⟨[.agg [.fsl (eL rI r3.Regs),.int .i64 r3.Pc],.fsl (eL rBox r4),.esl,.int .i64 4],by simp,4,by simp[eN]⟩
  replace H:=ifF C2 H
  refine S0 tok [] [2,3,4,6,14,39] ?_
  refine Cd (fun C3=>?_) fun C3=>?_
  ·replace H:=ifT C3 H
   obtain⟨r5,hr5,H⟩:=bE H
   obtain⟨r6,hr6,H⟩:=bE H
   have q2:∀σ i,bsA T 24 true i 0 [] σ=some (.esl,σ):=fun _ _=>rfl
   refine Sx tok [7] [6,7,8,9] (by intro K k;(repeat first|simp -dsimp -implicitDefEqProofs [q2]|refine(c121 hr5).app ?_|refine(c122 hr6).app ?_);exact k) ?_
   obtain rfl:=oi H
   refine Kp [6,7,8,9] ?_
   refine Wr ?_
   exact⟨[.agg [.fsl (eL rI r5.Regs),.int .i64 r5.Pc],.fsl (eL rBox r6),.esl,.int .i64 2],by simp,4,by simp[eN]⟩
  replace H:=ifF C3 H
  refine S0 tok [] [2,3,4,6,49] ?_
  refine Cd (fun C4=>?_) fun C4=>?_
  ·replace H:=ifT C4 H
   obtain⟨r7,hr7,H⟩:=bE H
   obtain⟨r8,hr8,H⟩:=bE H
   obtain⟨v9,hv9,H⟩:=bE H
   have q3:∀σ i,bsA T 24 true i 1 [(0,.int .i64 v9)] σ=some (.fsl (eL rI ([v9]:List Int)),σ):=fun _ _=>rfl
   refine Sd tok tokM [13] [14] [0,1,2,3,4,5,6,7,8,9,10,11,12,13,14,15,16,17] [6,7,8,9] (by
    intro K k
    simp only[pickL,zH,zJ]
    repeat first|simp -dsimp -implicitDefEqProofs [ix24 hv9,q3]|refine Pc.mk (c121 hr7) ?_|refine Pc.mk (c122 hr8) ?_
    exact k) ?_
   obtain rfl:=oi H
   refine Kp [6,7,8,9] ?_
   refine Wr ?_
   exact⟨[.agg [.fsl (eL rI r7.Regs),.int .i64 r7.Pc],.fsl (eL rBox r8),.fsl (eL rI ([v9]:List Int)),.int .i64 1],by simp,4,by simp[eN]⟩
  replace H:=ifF C4 H
  refine Wsk (Jn hK1 ?_)
  obtain⟨r10,hr10,H⟩:=bE H
  obtain⟨r11,hr11,H⟩:=bE H
  have q4:∀σ i,bsA T 24 true i 0 [] σ=some (.esl,σ):=fun _ _=>rfl
  refine Sx tok [5] [6,7,8,9] (by intro K k;(repeat first|simp -dsimp -implicitDefEqProofs [q4]|refine(c123 hr10).app ?_|refine(c122 hr11).app ?_);exact k) ?_
  obtain rfl:=oi H
  refine Kp [6,7,8,9] ?_
  refine Wr ?_
  exact⟨[.agg [.fsl (eL rI r10.Regs),.int .i64 r10.Pc],.fsl (eL rBox r11),.esl,.int .i64 1],by simp,4,by simp[eN]⟩
 replace H:=hj1
 refine S0 tok [] [2,3,4,6,14,15] ?_
 refine Cd (fun C5=>?_) fun C5=>?_
 ·replace H:=ifT C5 H
  refine Wsk ?_
  show K2 _ _
  refine kE [2,3,4,6,14,15] fun a' ha=>?_
  obtain rfl:=oi H
  refine hJ1 _ _ ?_;rw[ha]
  refine gW zL (N0+2) 0 0 ?_
  exact Rf ⟨N0+10,(by omega),(by omega),rfl,rfl⟩
 replace H:=ifF C5 H
 refine Rt0 tok [] [2,3,4,6,14,15] fun a ha=>?_
 obtain rfl:=oi H
 refine hJ1 _ _ ?_;rw[ha]
 refine gW zL (N0+2) 0 0 ?_
 exact Rf ⟨N0+12,(by omega),(by omega),rfl,rfl⟩

theorem c25 {p0:(List gQuad)}{p1:gThread}{p2:(List gBox)}{r:gThread×(List gBox)×(List Int)×Int}(H:kS p0 p1 p2=some r):APure Tryz.prog G 25 [.fsl (eL rQuad p0),.agg [.fsl (eL rI p1.Regs),.int .i64 p1.Pc],.fsl (eL rBox p2)] (.tup [.agg [.fsl (eL rI r.1.Regs),.int .i64 r.1.Pc],.fsl (eL rBox r.2.1),.fsl (eL rI r.2.2.1),.int .i64 r.2.2.2]):=by
 refine zB (fun N0=>?_) (by simp)
 refine fnK tok Tryz.func25 Tryz.ntmps25 Tryz.results25 ?_
 simp only[argsA,Nat.reduceAdd,hpN]
 unfold kS at H
 refine S0 tok [0] [0,2,4,6] ?_
 refine Wsq [0,2,4,6] fun K1 hK1=>?_
 refine gW Wre (N0+1) 0 0 ?_
 obtain⟨r1,hr1,H⟩:=bE H
 obtain⟨g3,hg3,H⟩:=bE H
 obtain⟨g6,hg6,H⟩:=bE H
 refine Sx tok [] [0,2,4,6,29] (X:=[(0,.fsl (eL rQuad p0)),(2,.fsl (eL rBox p2)),(4,.fptr [.fsl (eL rI p1.Regs),.int .i64 p1.Pc] 0),(6,.ptr (N0+1) 0 0),(29,.bool g6)]) (Y:=hp E0 [(N0+1,some ⟨26,2,[[.fsl [],.int .i64 0]]⟩)] (N0+25)) (by
  intro K k
  simp -dsimp -implicitDefEqProofs
  refine(c73 hr1).app ?_;try simp -dsimp -implicitDefEqProofs
  cases hbg3:bnot r1
  ·replace hg3:=ifF hbg3 hg3
   obtain⟨r2,hr2,hg3⟩:=bE hg3
   obtain rfl:=oi hg3
   try simp -dsimp -implicitDefEqProofs [hbg3]
   refine(c74 hr2).app ?_;try simp -dsimp -implicitDefEqProofs [hbg3]
   cases hbg6:(bnot r2)
   ·replace hg6:=ifF hbg6 hg6
    obtain⟨v4,hv4,hg6⟩:=bE hg6
    obtain⟨r5,hr5,hg6⟩:=bE hg6
    obtain rfl:=oi hg6
    try simp -dsimp -implicitDefEqProofs [hbg3,hbg6,ix23 hv4]
    refine(c75 hr5).app ?_;try simp -dsimp -implicitDefEqProofs [hbg3,hbg6,ix23 hv4]
    exact k
   obtain rfl:=oi (ifT hbg6 hg6)
   try simp -dsimp -implicitDefEqProofs [hbg3,hbg6]
   exact k
  obtain rfl:=oi (ifT hbg3 hg3)
  obtain rfl:=oi (ifT rfl hg6)
  try simp -dsimp -implicitDefEqProofs [hbg3]
  exact k) ?_
 refine Cd (fun C1=>?_) fun C1=>?_
 ·replace H:=ifT C1 H
  have q0:∀σ i,bsA T 27 true i 0 [] σ=some (.esl,σ):=fun _ _=>rfl
  have q1:∀σ i,bsA T 24 true i 0 [] σ=some (.esl,σ):=fun _ _=>rfl
  refine Sx tok [1,2] [6,7,8,9] (by intro K k;simp -dsimp -implicitDefEqProofs [q0,q1];exact k) ?_
  obtain rfl:=oi H
  refine Kp [6,7,8,9] ?_
  refine Wr ?_
  exact⟨[.agg [.fsl [],.int .i64 0],.esl,.esl,.int .i64 0],by simp,4,by simp[eN]⟩
 replace H:=ifF C1 H
 refine Wsk (Jn hK1 ?_)
 obtain⟨v7,hv7,H⟩:=bE H
 obtain⟨r8,hr8,H⟩:=bE H
 refine Sd tok tokM [] [12] [0,1,2,3,4,5,6,7,8,9,10,11,12,13,14,15] [6,7,8,9] (by
  intro K k
  simp only[pickL,zH,zJ]
  repeat first|simp -dsimp -implicitDefEqProofs [ix23 hv7]|refine Pc.mk (c76 hr8) ?_
  exact k) ?_
 obtain rfl:=oi H
 refine Kp [6,7,8,9] ?_
 refine Wr ?_
 exact⟨[.agg [.fsl (eL rI r8.1.Regs),.int .i64 r8.1.Pc],.fsl (eL rBox r8.2.1),.fsl (eL rI r8.2.2.1),.int .i64 r8.2.2.2],by simp,4,by simp[eN]⟩

theorem c28 {p0:(List Int)}{p1:(List Int)}{r:Bool}(H:yC p0 p1=some r):APure Tryz.prog G 28 [.fsl (eL rI p0),.fsl (eL rI p1)] (.bool r):=by
 refine zB (fun N0=>?_) (by simp)
 refine fnK tok Tryz.func28 Tryz.ntmps28 Tryz.results28 ?_
 simp only[argsA,Nat.reduceAdd,hpN]
 unfold yC at H
 refine S0 tok [] [0,1] ?_
 refine Wsq [0,1] fun K1 hK1=>?_
 refine S0 tok [] [0,1,10] ?_
 refine Cd (fun C1=>?_) fun C1=>?_
 ·replace H:=ifT C1 H
  refine S0 tok [] [4] ?_
  obtain rfl:=oi H;exact Wr ⟨_,rfl,4,by simp[eN]⟩
 replace H:=ifF C1 H
 refine Wsk (Jn hK1 ?_)
 refine Wsq [] fun K2 hK2=>?_
 refine S0 tok [] [0,1,5] ?_
 refine Wbl (Wth ?_)
 obtain⟨e1,hse1,H⟩:=bE H
 refine zU [0,1,5] (fun s a σ=>∃M1:Nat,N0≤M1∧a=[(0,.fsl (eL rI p0)),(1,.fsl (eL rI p1)),(5,.int .i64 s)]∧σ=hp E0 [] M1) (fun e x a σ=>match e with|.inl s=>x=.exit 0∧Rc G 26 N0 (fun a σ=>∃M2:Nat,N0≤M2∧a=[]∧σ=hp E0 [] M2) (AAct.keep a []) σ|.inr s=>x=.ret∧∃vs,resA T σ a [.tmp 4]=some vs∧∃d,thawA (fun _=>true) σ d (tupA vs)=.bool s) hse1 ?_ ?_ ?_
 ·refine Rc.kp [0,1,5] [(0,.fsl (eL rI p0)),(1,.fsl (eL rI p1)),(5,.int .i64 0)] rfl ?_
  exact Rf ⟨N0+7,(by omega),rfl,rfl⟩
 ·clear H hse1
  rintro s1 fl a σ H ⟨M1,fM1_0,rfl,rfl⟩ K3 O3 hK3 hO3
  unfold xY at H;dsimp only at H
  refine Wsq [0,1,5] fun K4 hK4=>?_
  refine S0 tok [] [0,1,5,14] ?_
  refine Cd (fun C2=>?_) fun C2=>?_
  ·replace H:=ifT C2 H
   refine Wsk (Jn hK4 ?_)
   refine Wsq [0,1,5] fun K5 hK5=>?_
   refine Wbl (Wth ?_)
   obtain⟨v2,hv2,H⟩:=bE H
   obtain⟨v3,hv3,H⟩:=bE H
   refine Sd tok tokM [] [] [0,1,2,3,4,5,6,7,8] [0,1,5,25] (by
    intro K k
    simp only[pickL,zH,zJ]
    simp -dsimp -implicitDefEqProofs [ix24 hv2,ix24 hv3]
    exact k) ?_
   refine Cd (fun C3=>?_) fun C3=>?_
   ·replace H:=ifT C3 H
    refine S0 tok [] [4] ?_
    obtain rfl:=oi H
    refine Kp [4] ?_
    refine Wr (hO3 _ _ _ _ rfl ⟨rfl,?_⟩)
    exact⟨[.bool false],by simp,4,by simp[eN]⟩
   replace H:=ifF C3 H
   refine Wsk (Jn hK5 ?_)
   refine Rt0 tok [] [0,1,5] fun a ha=>?_
   obtain rfl:=oi H
   refine hK3 _ _ _ rfl ?_;rw[ha]
   exact Rf ⟨M1+16,(by omega),rfl,rfl⟩
  obtain rfl:=oi (ifF C2 H)
  refine zM (hO3 _ _ _ _ rfl ⟨rfl,?_⟩)
  refine Rc.rw (l:=[]) (X:=[]) rfl ?_
  exact Rf ⟨M1+4,(by omega),rfl,rfl⟩
 intro x a σ hx
 rcases e1 with⟨⟩|r0
 ·obtain⟨rfl,b,τ,hr,M2,fM2_0,rfl,rfl⟩:=hx
  (try dsimp only at H)
  show K2 _ _
  refine hK2 _ _ (zL hr ?_)
  refine Rc.mk ?_
  refine S0 tok [] [4] ?_
  obtain rfl:=oi H;exact Wr ⟨_,rfl,4,by simp[eN]⟩
 obtain⟨rfl,hx2⟩:=hx
 (try dsimp only at H)
 obtain rfl:=oi H;first|exact hx2|(simp only[List.set_set] at hx2 ⊢;exact hx2)

theorem c26 {p0:gThread}{p1:gThread}{r:Bool}(H:yH p0 p1=some r):APure Tryz.prog G 26 [.agg [.fsl (eL rI p0.Regs),.int .i64 p0.Pc],.agg [.fsl (eL rI p1.Regs),.int .i64 p1.Pc]] (.bool r):=by
 refine zB (fun N0=>?_) (by simp)
 refine fnK tok Tryz.func26 Tryz.ntmps26 Tryz.results26 ?_
 simp only[argsA,Nat.reduceAdd,hpN]
 unfold yH at H
 refine S0 tok [0,1] [2,3] ?_
 obtain⟨g2,hg2,H⟩:=bE H
 refine Sx tok [] [4] (X:=[(4,.bool g2)]) (Y:=hp E0 [] (N0+16)) (by
  intro K k
  simp -dsimp -implicitDefEqProofs
  cases hbg2:ieq p0.Pc p1.Pc
  ·obtain rfl:=oi (ifF hbg2 hg2)
   try simp -dsimp -implicitDefEqProofs [hbg2]
   exact k
  replace hg2:=ifT hbg2 hg2
  obtain⟨r1,hr1,hg2⟩:=bE hg2
  obtain rfl:=oi hg2
  try simp -dsimp -implicitDefEqProofs [hbg2]
  refine(c28 hr1).app ?_;try simp -dsimp -implicitDefEqProofs [hbg2]
  exact k) ?_
 obtain rfl:=oi H;exact Wr ⟨_,rfl,4,by simp[eN]⟩

theorem c33 {p0:gBox}{p1:gBox}{r:Bool}(H:l_sameBox p0 p1=some r):APure Tryz.prog G 33 [.agg [.int .i64 p0.Room,.fsl (eL rI p0.Items)],.agg [.int .i64 p1.Room,.fsl (eL rI p1.Items)]] (.bool r):=by
 refine zB (fun N0=>?_) (by simp)
 refine fnK tok Tryz.func33 Tryz.ntmps33 Tryz.results33 ?_
 simp only[argsA,Nat.reduceAdd,hpN]
 unfold l_sameBox at H
 refine S0 tok [0,1] [2,3] ?_
 obtain⟨g2,hg2,H⟩:=bE H
 refine Sx tok [] [4] (X:=[(4,.bool g2)]) (Y:=hp E0 [] (N0+16)) (by
  intro K k
  simp -dsimp -implicitDefEqProofs
  cases hbg2:ieq p0.Room p1.Room
  ·obtain rfl:=oi (ifF hbg2 hg2)
   try simp -dsimp -implicitDefEqProofs [hbg2]
   exact k
  replace hg2:=ifT hbg2 hg2
  obtain⟨r1,hr1,hg2⟩:=bE hg2
  obtain rfl:=oi hg2
  try simp -dsimp -implicitDefEqProofs [hbg2]
  refine(c28 hr1).app ?_;try simp -dsimp -implicitDefEqProofs [hbg2]
  exact k) ?_
 obtain rfl:=oi H;exact Wr ⟨_,rfl,4,by simp[eN]⟩

theorem c27 {p0:(List gBox)}{p1:(List gBox)}{r:Bool}(H:yP p0 p1=some r):APure Tryz.prog G 27 [.fsl (eL rBox p0),.fsl (eL rBox p1)] (.bool r):=by
 refine zB (fun N0=>?_) (by simp)
 refine fnK tok Tryz.func27 Tryz.ntmps27 Tryz.results27 ?_
 simp only[argsA,Nat.reduceAdd,hpN]
 unfold yP at H
 refine S0 tok [] [0,1] ?_
 refine Wsq [0,1] fun K1 hK1=>?_
 refine S0 tok [] [0,1,10] ?_
 refine Cd (fun C1=>?_) fun C1=>?_
 ·replace H:=ifT C1 H
  refine S0 tok [] [4] ?_
  obtain rfl:=oi H;exact Wr ⟨_,rfl,4,by simp[eN]⟩
 replace H:=ifF C1 H
 refine Wsk (Jn hK1 ?_)
 refine Wsq [] fun K2 hK2=>?_
 refine S0 tok [] [0,1,5] ?_
 refine Wbl (Wth ?_)
 obtain⟨e1,hse1,H⟩:=bE H
 refine zU [0,1,5] (fun s a σ=>∃M1:Nat,N0≤M1∧a=[(0,.fsl (eL rBox p0)),(1,.fsl (eL rBox p1)),(5,.int .i64 s)]∧σ=hp E0 [] M1) (fun e x a σ=>match e with|.inl s=>x=.exit 0∧Rc G 27 N0 (fun a σ=>∃M2:Nat,N0≤M2∧a=[]∧σ=hp E0 [] M2) (AAct.keep a []) σ|.inr s=>x=.ret∧∃vs,resA T σ a [.tmp 4]=some vs∧∃d,thawA (fun _=>true) σ d (tupA vs)=.bool s) hse1 ?_ ?_ ?_
 ·refine Rc.kp [0,1,5] [(0,.fsl (eL rBox p0)),(1,.fsl (eL rBox p1)),(5,.int .i64 0)] rfl ?_
  exact Rf ⟨N0+7,(by omega),rfl,rfl⟩
 ·clear H hse1
  rintro s1 fl a σ H ⟨M1,fM1_0,rfl,rfl⟩ K3 O3 hK3 hO3
  unfold jO at H;dsimp only at H
  refine Wsq [0,1,5] fun K4 hK4=>?_
  refine S0 tok [] [0,1,5,14] ?_
  refine Cd (fun C2=>?_) fun C2=>?_
  ·replace H:=ifT C2 H
   refine Wsk (Jn hK4 ?_)
   refine Wsq [0,1,5] fun K5 hK5=>?_
   refine Wbl (Wth ?_)
   obtain⟨v2,hv2,H⟩:=bE H
   obtain⟨v3,hv3,H⟩:=bE H
   obtain⟨r4,hr4,H⟩:=bE H
   refine Sd tok tokM [] [] [0,1,2,3,4,5,6,7,8,9] [0,1,5,26] (by
    intro K k
    simp only[pickL,zH,zJ]
    repeat first|simp -dsimp -implicitDefEqProofs [ix27 hv2,ix27 hv3]|refine Pc.mk (c33 hr4) ?_
    exact k) ?_
   refine Cd (fun C3=>?_) fun C3=>?_
   ·replace H:=ifT C3 H
    refine S0 tok [] [4] ?_
    obtain rfl:=oi H
    refine Kp [4] ?_
    refine Wr (hO3 _ _ _ _ rfl ⟨rfl,?_⟩)
    exact⟨[.bool false],by simp,4,by simp[eN]⟩
   replace H:=ifF C3 H
   refine Wsk (Jn hK5 ?_)
   refine Rt0 tok [] [0,1,5] fun a ha=>?_
   obtain rfl:=oi H
   refine hK3 _ _ _ rfl ?_;rw[ha]
   exact Rf ⟨M1+17,(by omega),rfl,rfl⟩
  obtain rfl:=oi (ifF C2 H)
  refine zM (hO3 _ _ _ _ rfl ⟨rfl,?_⟩)
  refine Rc.rw (l:=[]) (X:=[]) rfl ?_
  exact Rf ⟨M1+4,(by omega),rfl,rfl⟩
 intro x a σ hx
 rcases e1 with⟨⟩|r0
 ·obtain⟨rfl,b,τ,hr,M2,fM2_0,rfl,rfl⟩:=hx
  (try dsimp only at H)
  show K2 _ _
  refine hK2 _ _ (zL hr ?_)
  refine Rc.mk ?_
  refine S0 tok [] [4] ?_
  obtain rfl:=oi H;exact Wr ⟨_,rfl,4,by simp[eN]⟩
 obtain⟨rfl,hx2⟩:=hx
 (try dsimp only at H)
 obtain rfl:=oi H;first|exact hx2|(simp only[List.set_set] at hx2 ⊢;exact hx2)
end Go.Proofs.YtdnkfkfjaaedpaaGreat
