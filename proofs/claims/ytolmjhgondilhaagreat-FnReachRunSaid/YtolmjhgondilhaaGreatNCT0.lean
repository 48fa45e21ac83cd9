/- The contracts of functions of the program (CT0): each computes what its mirror computes. No conditions. -/
import Derived.Test.YtolmjhgondilhaaGreatNCH
import Derived.Test.YtolmjhgondilhaaGreatNCM
set_option linter.unusedSimpArgs false
set_option linter.unusedVariables false
set_option maxRecDepth 20000
set_option maxHeartbeats 4000000
namespace Go.Proofs.YtolmjhgondilhaaGreat
open Go Go.Abs Go.RowKit

theorem c40_o {p0:List Int}{r:gL6Rd}(H:sX p0=some r){σ:AHeap}:ACalls Tryz.prog G 40 [.fsl (eL rU8 p0)] σ (fun v σ'=>∃M n0:Nat,σ.next≤M∧σ.next≤n0∧n0<M∧v=.ptr n0 0 0∧σ'=hp σ.objs [(n0,some ⟨105,2,[[.fsl (eL rU8 r.b),.int .i64 r.p]]⟩)] M):=by
 refine fr2 [] (by simp) (fun hlt=>?_) ⟨_,Tryz.func40,rfl,rfl⟩
 generalize σ.next=N0 at hlt ⊢
 refine fnK tok Tryz.func40 Tryz.ntmps40 Tryz.results40 ?_
 simp only[argsA,Nat.reduceAdd,hpN]
 unfold sX at H
 refine S0 tok [] [0] ?_
 refine Wsq [0] fun K1 hK1=>?_
 refine S0 tok [] [0,5] ?_
 refine Ci H (fun H=>?_) fun H=>?_
 ·obtain⟨l1,hl1,H⟩:=bE H
  refine Rt tok [] [0] (by intro K k;simp -dsimp -implicitDefEqProofs [cuth_22 hl1];exact k) fun a ha=>?_
  refine hK1 _ _ ?_;rw[ha]
  refine Rc.mk ?_
  refine S0 tok [] [2] ?_
  obtain rfl:=oi H
  refine Kp [2] ?_
  refine Wr ?_
  refine⟨[.ptr (N0+9) 0 0],by simp,N0+11,N0+9,by omega,by omega,by omega,?_,?_⟩
  ·simp[eN]
  first|rfl|simp
 refine Wsk (Jn hK1 ?_)
 refine S0 tok [] [2] ?_
 obtain rfl:=oi H
 refine Kp [2] ?_
 refine Wr ?_
 refine⟨[.ptr (N0+6) 0 0],by simp,N0+8,N0+6,by omega,by omega,by omega,?_,?_⟩
 ·simp[eN]
 first|rfl|simp

theorem c41 {p0:gL6Rd}{p1:Int}{r:Int×gL6Rd}(H:zI p0 p1=some r){σ:AHeap}{w0:Nat}{W0:List (List AV)}{r0_:Nat}(q0:σ.objs w0=some ⟨105,2,W0⟩)(g0:W0[r0_]? =some [.fsl (eL rU8 p0.b),.int .i64 p0.p]):ACalls Tryz.prog G 41 [.ptr w0 r0_ 0,.int .i64 p1] σ (fun v σ'=>∃M:Nat,σ.next≤M∧v=.int .i64 r.1∧σ'=hp σ.objs [(w0,some ⟨105,2,W0.set r0_ [.fsl (eL rU8 r.2.b),.int .i64 r.2.p]⟩)] M):=by
 refine fr1 ([(w0,some ⟨105,2,W0⟩)]) (by simp[q0]) (fun hlt=>?_) ⟨_,Tryz.func41,rfl,rfl⟩
 generalize σ.next=N0 at hlt ⊢
 have lw0:w0<N0:=hlt _ (.head _) rfl
 have gs_W0:∀x,(W0.set r0_ x)[r0_]? =some x:=gsetW g0
 rw[← kH g0]
 refine fnK tok Tryz.func41 Tryz.ntmps41 Tryz.results41 ?_
 simp only[argsA,Nat.reduceAdd,hpN]
 unfold zI at H
 refine Sx tok [] [0,1] (by intro K k;simp -dsimp -implicitDefEqProofs [gs_W0];exact k) ?_
 refine Sx tok [] [0,1] (by intro K k;simp -dsimp -implicitDefEqProofs [gs_W0];exact k) ?_
 refine Wsq [0,1] fun K1 hK1=>?_
 obtain⟨g1,hg1,H⟩:=bE H
 refine Sx tok [] [0,1,24] (X:=[(0,.ptr w0 r0_ 0),(1,.int .i64 p1),(24,.bool g1)]) (Y:=hp E0 [(w0,some ⟨105,2,W0.set r0_ [.fsl (eL rU8 p0.b),.int .i64 (iadd .i64 p0.p 1)]⟩)] (N0+20)) (by
  intro K k
  simp -dsimp -implicitDefEqProofs [gs_W0]
  cases hbg1:ilt p1 1
  ·obtain rfl:=oi (ifF hbg1 hg1)
   try simp -dsimp -implicitDefEqProofs [gs_W0,hbg1]
   exact k
  obtain rfl:=oi (ifT hbg1 hg1)
  try simp -dsimp -implicitDefEqProofs [gs_W0,hbg1]
  exact k) ?_
 refine Ci H (fun H=>?_) fun H=>?_
 ·refine Sx tok [] [4] (by intro K k;simp -dsimp -implicitDefEqProofs [gs_W0];exact k) ?_
  obtain rfl:=oi H
  refine Kp [4] ?_
  refine Wr ?_
  refine⟨[.int .i64 0],by simp[gs_W0],N0+21,by omega,?_,?_⟩
  ·simp[eN]
  first|rfl|simp
 refine Wsk (Jn hK1 ?_)
 refine Sx tok [] [0,1,5] (by intro K k;simp -dsimp -implicitDefEqProofs [gs_W0];exact k) ?_
 refine Wsq [0,1,5] fun K2 hK2=>?_
 refine Sx tok [] [0,1,5,36] (by intro K k;simp -dsimp -implicitDefEqProofs [gs_W0];exact k) ?_
 refine Ci H (fun H=>?_) fun H=>?_
 ·obtain⟨v2,hv2,H⟩:=bE H
  obtain⟨v3,hv3,H⟩:=bE H
  refine Sx tok [] [4] (by intro K k;simp -dsimp -implicitDefEqProofs [gs_W0,ix22 hv2,hv3];exact k) ?_
  obtain rfl:=oi H
  refine Kp [4] ?_
  refine Wr ?_
  refine⟨[.int .i64 v3],by simp[gs_W0],N0+44,by omega,?_,?_⟩
  ·simp[eN]
  first|rfl|simp
 refine Wsk (Jn hK2 ?_)
 obtain⟨v4,hv4,H⟩:=bE H
 obtain⟨v5,hv5,H⟩:=bE H
 obtain⟨v6,hv6,H⟩:=bE H
 obtain⟨v7,hv7,H⟩:=bE H
 obtain⟨v8,hv8,H⟩:=bE H
 refine Sd tok tokM [] [3,8,9,10,18,25,26,27,28,29,30,31,40,41,42,43] [0,1,2,4,5,6,7,15,16,17,19,20,21,22,23,24,33,34,36,37,38,39,3,8,9,10,11,12,13,14,18,25,26,27,28,29,30,31,32,35,40,41,42,43,44,45] [1,6] (by
  intro K k
  simp only[pickL,zO,zQ]
  simp -dsimp -implicitDefEqProofs [gs_W0,hv4,ix22 hv5,hv6,ix22 hv7,hv8]
  exact k) ?_
 obtain⟨v9,hv9,H⟩:=bE H
 refine Sx tok [] [1,6] (by intro K k;simp -dsimp -implicitDefEqProofs [gs_W0,hv9];exact k) ?_
 obtain⟨v10,hv10,H⟩:=bE H
 refine Sx tok [] [4] (by intro K k;simp -dsimp -implicitDefEqProofs [gs_W0,hv10];exact k) ?_
 obtain rfl:=oi H
 refine Kp [4] ?_
 refine Wr ?_
 refine⟨[.int .i64 v10],by simp[gs_W0],N0+88,by omega,?_,?_⟩
 ·simp[eN]
 first|rfl|simp

theorem c124 {p0:gL6Rd}{r:Int×gL6Rd}(H:yX p0=some r){σ:AHeap}{w0:Nat}{W0:List (List AV)}{r0_:Nat}(q0:σ.objs w0=some ⟨105,2,W0⟩)(g0:W0[r0_]? =some [.fsl (eL rU8 p0.b),.int .i64 p0.p]):ACalls Tryz.prog G 124 [.ptr w0 r0_ 0] σ (fun v σ'=>∃M:Nat,σ.next≤M∧v=.int .i64 r.1∧σ'=hp σ.objs [(w0,some ⟨105,2,W0.set r0_ [.fsl (eL rU8 r.2.b),.int .i64 r.2.p]⟩)] M):=by
 refine fr1 ([(w0,some ⟨105,2,W0⟩)]) (by simp[q0]) (fun hlt=>?_) ⟨_,Tryz.func124,rfl,rfl⟩
 generalize σ.next=N0 at hlt ⊢
 have lw0:w0<N0:=hlt _ (.head _) rfl
 have gs_W0:∀x,(W0.set r0_ x)[r0_]? =some x:=gsetW g0
 rw[← kH g0]
 refine fnK tok Tryz.func124 Tryz.ntmps124 Tryz.results124 ?_
 simp only[argsA,Nat.reduceAdd,hpN]
 unfold yX at H
 refine Sx tok [] [0] (by intro K k;simp -dsimp -implicitDefEqProofs [gs_W0];exact k) ?_
 obtain⟨r1,hr1,H⟩:=bE H
 refine Sm tok [] [2] (N0+4) (by
  intro K k
  simp -dsimp -implicitDefEqProofs [gs_W0]
  refine(c41 (W0:=W0.set r0_ [.fsl (eL rU8 p0.b),.int .i64 p0.p]) (r0_:=r0_) (H:=hr1) (by simp[gs_W0]) (by simp[gs_W0])).mono ?_;rintro _ _ ⟨M1,fM1_0,rfl,rfl⟩;simp only[hpN] at fM1_0
  try simp -dsimp -implicitDefEqProofs [gs_W0,hoS,hoN]
  exact k M1 (by omega)) fun M1 fM1_0=>?_
 obtain rfl:=oi H
 refine Kp [2] ?_
 refine Wr ?_
 refine⟨[.int .i64 r1.1],by simp[gs_W0],M1,by omega,?_,?_⟩
 ·simp[eN]
 first|rfl|simp

theorem c139 {p0:Int}{r:Int}(H:sG p0=some r):APure Tryz.prog G 139 [.int .i64 p0] (.int .i64 r):=by
 refine zE (fun N0=>?_) (by simp)
 refine fnK tok Tryz.func139 Tryz.ntmps139 Tryz.results139 ?_
 simp only[argsA,Nat.reduceAdd,hpN]
 unfold sG at H
 refine S0 tok [] [0] ?_
 obtain⟨v1,hv1,H⟩:=bE H
 refine Sx tok [] [3] (by intro K k;simp -dsimp -implicitDefEqProofs [hv1];exact k) ?_
 refine Wsq [3] fun K1 hK1=>?_
 refine S0 tok [] [3,7] ?_
 refine Ci H (fun H=>?_) fun H=>?_
 ·refine S0 tok [] [2] ?_
  obtain rfl:=oi H;exact Wr ⟨_,rfl,4,by simp[eN]⟩
 refine Wsk (Jn hK1 ?_)
 refine Wsq [3] fun K2 hK2=>?_
 refine S0 tok [] [3,11] ?_
 refine Ci H (fun H=>?_) fun H=>?_
 ·refine S0 tok [] [2] ?_
  obtain rfl:=oi H;exact Wr ⟨_,rfl,4,by simp[eN]⟩
 refine Wsk (Jn hK2 ?_)
 refine S0 tok [] [2] ?_
 obtain rfl:=oi H;exact Wr ⟨_,rfl,4,by simp[eN]⟩

theorem c125 {p0:gL6Rd}{r:Int×gL6Rd}(H:nP p0=some r){σ:AHeap}{w0:Nat}{W0:List (List AV)}{r0_:Nat}(q0:σ.objs w0=some ⟨105,2,W0⟩)(g0:W0[r0_]? =some [.fsl (eL rU8 p0.b),.int .i64 p0.p]):ACalls Tryz.prog G 125 [.ptr w0 r0_ 0] σ (fun v σ'=>∃M:Nat,σ.next≤M∧v=.int .i64 r.1∧σ'=hp σ.objs [(w0,some ⟨105,2,W0.set r0_ [.fsl (eL rU8 r.2.b),.int .i64 r.2.p]⟩)] M):=by
 refine fr1 ([(w0,some ⟨105,2,W0⟩)]) (by simp[q0]) (fun hlt=>?_) ⟨_,Tryz.func125,rfl,rfl⟩
 generalize σ.next=N0 at hlt ⊢
 have lw0:w0<N0:=hlt _ (.head _) rfl
 have gs_W0:∀x,(W0.set r0_ x)[r0_]? =some x:=gsetW g0
 rw[← kH g0]
 refine fnK tok Tryz.func125 Tryz.ntmps125 Tryz.results125 ?_
 simp only[argsA,Nat.reduceAdd,hpN]
 unfold nP at H
 refine Sx tok [] [0] (by intro K k;simp -dsimp -implicitDefEqProofs [gs_W0];exact k) ?_
 refine Wsq [0] fun K1 hK1=>?_
 obtain⟨r1,hr1,H⟩:=bE H
 refine Sm tok [] [0,4] (N0+3) (by
  intro K k
  simp -dsimp -implicitDefEqProofs [gs_W0]
  refine(c41 (W0:=W0.set r0_ [.fsl (eL rU8 p0.b),.int .i64 p0.p]) (r0_:=r0_) (H:=hr1) (by simp[gs_W0]) (by simp[gs_W0])).mono ?_;rintro _ _ ⟨M1,fM1_0,rfl,rfl⟩;simp only[hpN] at fM1_0
  try simp -dsimp -implicitDefEqProofs [gs_W0,hoS,hoN]
  exact k M1 (by omega)) fun M1 fM1_0=>?_
 refine Wbl (Wth ?_)
 refine Sx tok [] [0,4,5] (by intro K k;simp -dsimp -implicitDefEqProofs [gs_W0];exact k) ?_
 refine Ci H (fun H=>?_) fun H=>?_
 ·obtain⟨r2,hr2,H⟩:=bE H
  obtain⟨v3,hv3,H⟩:=bE H
  have q0:∀σ i,bsA T 23 true i 8 [(0,.int .i64 (-2147483648)),(1,.int .i64 2147483647),(2,.int .i64 (-1)),(3,.int .i64 0),(4,.int .i64 1),(5,.int .i64 (-2147483647)),(6,.int .i64 65536),(7,.int .i64 (-65536))] σ=some (.fsl (eL rI ([-2147483648,2147483647,-1,0,1,-2147483647,65536,-65536]:List Int)),σ):=fun _ _=>rfl
  refine Sm tok [0] [2] (M1+8) (by
   intro K k
   simp -dsimp -implicitDefEqProofs [gs_W0,q0,ix23 hv3]
   refine(c41 (W0:=W0.set r0_ [.fsl (eL rU8 r1.2.b),.int .i64 r1.2.p]) (r0_:=r0_) (H:=hr2) (by simp[gs_W0,q0,ix23 hv3]) (by simp[gs_W0,q0,ix23 hv3])).mono ?_;rintro _ _ ⟨M2,fM2_0,rfl,rfl⟩;simp only[hpN] at fM2_0
   try simp -dsimp -implicitDefEqProofs [gs_W0,q0,ix23 hv3,hoS,hoN]
   exact k M2 (by omega)) fun M2 fM2_0=>?_
  obtain rfl:=oi H
  refine Kp [2] ?_
  refine Wr ?_
  refine⟨[.int .i64 v3],by simp[gs_W0],M2,by omega,?_,?_⟩
  ·simp[eN]
  first|rfl|simp
 refine Sx tok [] [0,4,12] (by intro K k;simp -dsimp -implicitDefEqProofs [gs_W0];exact k) ?_
 refine Ci H (fun H=>?_) fun H=>?_
 ·obtain⟨r4,hr4,H⟩:=bE H
  obtain⟨r5,hr5,H⟩:=bE H
  obtain⟨r6,hr6,H⟩:=bE H
  obtain⟨r7,hr7,H⟩:=bE H
  obtain⟨r8,hr8,H⟩:=bE H
  refine Sm tok [] [2] (M1+20) (by
   intro K k
   simp -dsimp -implicitDefEqProofs [gs_W0]
   refine(c41 (W0:=W0.set r0_ [.fsl (eL rU8 r1.2.b),.int .i64 r1.2.p]) (r0_:=r0_) (H:=hr4) (by simp[gs_W0]) (by simp[gs_W0])).mono ?_;rintro _ _ ⟨M3,fM3_0,rfl,rfl⟩;simp only[hpN] at fM3_0
   try simp -dsimp -implicitDefEqProofs [gs_W0,hoS,hoN]
   refine(c41 (W0:=W0.set r0_ [.fsl (eL rU8 r4.2.b),.int .i64 r4.2.p]) (r0_:=r0_) (H:=hr5) (by simp[gs_W0,hoS,hoN]) (by simp[gs_W0,hoS,hoN])).mono ?_;rintro _ _ ⟨M4,fM4_0,rfl,rfl⟩;simp only[hpN] at fM4_0
   try simp -dsimp -implicitDefEqProofs [gs_W0,hoS,hoN]
   refine(c41 (W0:=W0.set r0_ [.fsl (eL rU8 r5.2.b),.int .i64 r5.2.p]) (r0_:=r0_) (H:=hr6) (by simp[gs_W0,hoS,hoN]) (by simp[gs_W0,hoS,hoN])).mono ?_;rintro _ _ ⟨M5,fM5_0,rfl,rfl⟩;simp only[hpN] at fM5_0
   try simp -dsimp -implicitDefEqProofs [gs_W0,hoS,hoN]
   refine(c41 (W0:=W0.set r0_ [.fsl (eL rU8 r6.2.b),.int .i64 r6.2.p]) (r0_:=r0_) (H:=hr7) (by simp[gs_W0,hoS,hoN]) (by simp[gs_W0,hoS,hoN])).mono ?_;rintro _ _ ⟨M6,fM6_0,rfl,rfl⟩;simp only[hpN] at fM6_0
   try simp -dsimp -implicitDefEqProofs [gs_W0,hoS,hoN]
   refine(c139 hr8).app ?_;try simp -dsimp -implicitDefEqProofs [gs_W0,hoS,hoN]
   exact k M6 (by omega)) fun M6 fM6_0=>?_
  obtain rfl:=oi H
  refine Kp [2] ?_
  refine Wr ?_
  refine⟨[.int .i64 r8],by simp[gs_W0],M6,by omega,?_,?_⟩
  ·simp[eN]
  first|rfl|simp
 refine Sx tok [] [0,29] (by intro K k;simp -dsimp -implicitDefEqProofs [gs_W0];exact k) ?_
 refine Ci H (fun H=>?_) fun H=>?_
 ·obtain⟨r9,hr9,H⟩:=bE H
  refine Sm tok [] [2] (M1+10) (by
   intro K k
   simp -dsimp -implicitDefEqProofs [gs_W0]
   refine(c41 (W0:=W0.set r0_ [.fsl (eL rU8 r1.2.b),.int .i64 r1.2.p]) (r0_:=r0_) (H:=hr9) (by simp[gs_W0]) (by simp[gs_W0])).mono ?_;rintro _ _ ⟨M7,fM7_0,rfl,rfl⟩;simp only[hpN] at fM7_0
   try simp -dsimp -implicitDefEqProofs [gs_W0,hoS,hoN]
   exact k M7 (by omega)) fun M7 fM7_0=>?_
  obtain rfl:=oi H
  refine Kp [2] ?_
  refine Wr ?_
  refine⟨[.int .i64 (isub .i64 0 r9.1)],by simp[gs_W0],M7,by omega,?_,?_⟩
  ·simp[eN]
  first|rfl|simp
 refine Wsk (Jn hK1 ?_)
 obtain⟨r10,hr10,H⟩:=bE H
 refine Sm tok [] [2] (M1+9) (by
  intro K k
  simp -dsimp -implicitDefEqProofs [gs_W0]
  refine(c41 (W0:=W0.set r0_ [.fsl (eL rU8 r1.2.b),.int .i64 r1.2.p]) (r0_:=r0_) (H:=hr10) (by simp[gs_W0]) (by simp[gs_W0])).mono ?_;rintro _ _ ⟨M8,fM8_0,rfl,rfl⟩;simp only[hpN] at fM8_0
  try simp -dsimp -implicitDefEqProofs [gs_W0,hoS,hoN]
  exact k M8 (by omega)) fun M8 fM8_0=>?_
 obtain rfl:=oi H
 refine Kp [2] ?_
 refine Wr ?_
 refine⟨[.int .i64 r10.1],by simp[gs_W0],M8,by omega,?_,?_⟩
 ·simp[eN]
 first|rfl|simp

theorem c126 {p0:gL6Rd}{r:Int×gL6Rd}(H:fB p0=some r){σ:AHeap}{w0:Nat}{W0:List (List AV)}{r0_:Nat}(q0:σ.objs w0=some ⟨105,2,W0⟩)(g0:W0[r0_]? =some [.fsl (eL rU8 p0.b),.int .i64 p0.p]):ACalls Tryz.prog G 126 [.ptr w0 r0_ 0] σ (fun v σ'=>∃M:Nat,σ.next≤M∧v=.int .i64 r.1∧σ'=hp σ.objs [(w0,some ⟨105,2,W0.set r0_ [.fsl (eL rU8 r.2.b),.int .i64 r.2.p]⟩)] M):=by
 refine fr1 ([(w0,some ⟨105,2,W0⟩)]) (by simp[q0]) (fun hlt=>?_) ⟨_,Tryz.func126,rfl,rfl⟩
 generalize σ.next=N0 at hlt ⊢
 have lw0:w0<N0:=hlt _ (.head _) rfl
 have gs_W0:∀x,(W0.set r0_ x)[r0_]? =some x:=gsetW g0
 rw[← kH g0]
 refine fnK tok Tryz.func126 Tryz.ntmps126 Tryz.results126 ?_
 simp only[argsA,Nat.reduceAdd,hpN]
 unfold fB at H
 refine Sx tok [] [0] (by intro K k;simp -dsimp -implicitDefEqProofs [gs_W0];exact k) ?_
 obtain⟨r1,hr1,H⟩:=bE H
 refine Sm tok [] [2] (N0+5) (by
  intro K k
  simp -dsimp -implicitDefEqProofs [gs_W0]
  refine(c41 (W0:=W0.set r0_ [.fsl (eL rU8 p0.b),.int .i64 p0.p]) (r0_:=r0_) (H:=hr1) (by simp[gs_W0]) (by simp[gs_W0])).mono ?_;rintro _ _ ⟨M1,fM1_0,rfl,rfl⟩;simp only[hpN] at fM1_0
  try simp -dsimp -implicitDefEqProofs [gs_W0,hoS,hoN]
  exact k M1 (by omega)) fun M1 fM1_0=>?_
 obtain rfl:=oi H
 refine Kp [2] ?_
 refine Wr ?_
 refine⟨[.int .i64 (iadd .i64 1 r1.1)],by simp[gs_W0],M1,by omega,?_,?_⟩
 ·simp[eN]
 first|rfl|simp

theorem c113 {p0:gL6Rd}{p1:Int}{r:gQuad×gL6Rd}(H:nK p0 p1=some r){σ:AHeap}{w0:Nat}{W0:List (List AV)}{r0_:Nat}(q0:σ.objs w0=some ⟨105,2,W0⟩)(g0:W0[r0_]? =some [.fsl (eL rU8 p0.b),.int .i64 p0.p]):ACalls Tryz.prog G 113 [.ptr w0 r0_ 0,.int .i64 p1] σ (fun v σ'=>∃M:Nat,σ.next≤M∧v=.agg [.int .i64 r.1.Op,.int .i64 r.1.Dst,.int .i64 r.1.A,.int .i64 r.1.B,.int .i64 r.1.N]∧σ'=hp σ.objs [(w0,some ⟨105,2,W0.set r0_ [.fsl (eL rU8 r.2.b),.int .i64 r.2.p]⟩)] M):=by
 refine fr1 ([(w0,some ⟨105,2,W0⟩)]) (by simp[q0]) (fun hlt=>?_) ⟨_,Tryz.func113,rfl,rfl⟩
 generalize σ.next=N0 at hlt ⊢
 have lw0:w0<N0:=hlt _ (.head _) rfl
 have gs_W0:∀x,(W0.set r0_ x)[r0_]? =some x:=gsetW g0
 rw[← kH g0]
 refine vG 4 ?_
 refine fnK tok Tryz.func113 Tryz.ntmps113 Tryz.results113 ?_
 simp only[argsA,Nat.reduceAdd,hpN]
 unfold nK at H
 refine Sx tok [] [0,1,4] (by
  intro K k
  have e0:=nQ w0 N0
  simp -dsimp -implicitDefEqProofs [e0,gs_W0]
  exact k) ?_
 refine Wsq [0,4] fun K1 hK1=>?_
 obtain⟨r1,hr1,H⟩:=bE H
 refine Sm tok [] [0,1,4,13] (N0+3) (by
  intro K k
  have e0:=nQ w0 N0
  simp -dsimp -implicitDefEqProofs [e0,gs_W0]
  refine(c41 (W0:=W0.set r0_ [.fsl (eL rU8 p0.b),.int .i64 p0.p]) (r0_:=r0_) (H:=hr1) (by simp[e0,gs_W0]) (by simp[e0,gs_W0])).mono ?_;rintro _ _ ⟨M1,fM1_0,rfl,rfl⟩;simp only[hpN] at fM1_0
  try simp -dsimp -implicitDefEqProofs [e0,gs_W0,hoS,hoN]
  exact k M1 (by omega)) fun M1 fM1_0=>?_
 refine Wbl (Wth ?_)
 obtain⟨j1,hj1,H⟩:=bE H
 refine kR (kQ fun K5 hK5=>?_)
 have hJ1:∀a σ,Rc G 90 N0 (fun a σ=>∃M2:Nat,N0≤M2∧N0<M2∧a=[(0,.ptr w0 r0_ 0),(1,.int .i64 p1),(4,.ptr N0 0 0),(13,.int .i64 r1.1),(14,.bool j1)]∧σ=hp E0 [(w0,some ⟨105,2,W0.set r0_ [.fsl (eL rU8 r1.2.b),.int .i64 r1.2.p]⟩),(N0,some ⟨36,5,[[.int .i64 0,.int .i64 0,.int .i64 0,.int .i64 0,.int .i64 0]]⟩)] M2) (a.keep [0,1,4,13,14]) σ→K5 a σ:=by
  rintro a σ ⟨b,τ,hr,M2,fM2_0,fM2_1,rfl,rfl⟩
  refine hK5 _ _ (kI [0,1,4,13,14] (Wre hr ?_))
  refine Ci H (fun H=>?_) fun H=>?_
  ·obtain⟨r3,hr3,H⟩:=bE H
   obtain⟨r4,hr4,H⟩:=bE H
   obtain⟨r5,hr5,H⟩:=bE H
   obtain⟨v6,hv6,H⟩:=bE H
   have q0:∀σ i,bsA T 23 true i 4 [(0,.int .i64 0),(1,.int .i64 1),(2,.int .i64 2),(3,.int .i64 r4.1)] σ=some (.fsl (eL rI ([0,1,2,r4.1]:List Int)),σ):=fun _ _=>rfl
   refine Sm tok [4] [4] (M2+11) (by
    intro K k
    have e0:=nQ w0 N0
    simp -dsimp -implicitDefEqProofs [e0,gs_W0,q0,ix23 hv6]
    refine(c124 (W0:=W0.set r0_ [.fsl (eL rU8 r1.2.b),.int .i64 r1.2.p]) (r0_:=r0_) (H:=hr3) (by simp[e0,gs_W0,q0,ix23 hv6]) (by simp[e0,gs_W0,q0,ix23 hv6])).mono ?_;rintro _ _ ⟨M3,fM3_0,rfl,rfl⟩;simp only[hpN] at fM3_0
    try simp -dsimp -implicitDefEqProofs [e0,gs_W0,q0,ix23 hv6,hoS,hoN]
    refine(c125 (W0:=W0.set r0_ [.fsl (eL rU8 r3.2.b),.int .i64 r3.2.p]) (r0_:=r0_) (H:=hr4) (by simp[e0,gs_W0,q0,ix23 hv6,hoS,hoN]) (by simp[e0,gs_W0,q0,ix23 hv6,hoS,hoN])).mono ?_;rintro _ _ ⟨M4,fM4_0,rfl,rfl⟩;simp only[hpN] at fM4_0
    try simp -dsimp -implicitDefEqProofs [e0,gs_W0,q0,ix23 hv6,hoS,hoN]
    refine(c41 (W0:=W0.set r0_ [.fsl (eL rU8 r4.2.b),.int .i64 r4.2.p]) (r0_:=r0_) (H:=hr5) (by simp[e0,gs_W0,q0,ix23 hv6,hoS,hoN]) (by simp[e0,gs_W0,q0,ix23 hv6,hoS,hoN])).mono ?_;rintro _ _ ⟨M5,fM5_0,rfl,rfl⟩;simp only[hpN] at fM5_0
    try simp -dsimp -implicitDefEqProofs [e0,gs_W0,q0,ix23 hv6,hoS,hoN]
    exact k M5 (by omega)) fun M5 fM5_0=>?_
   obtain rfl:=oi H
   refine Kp [4] ?_
   have z0:=nQ w0 N0
   refine Wr ?_
   refine⟨[.agg [.int .i64 1,.int .i64 r3.1,.int .i64 0,.int .i64 0,.int .i64 v6]],by simp[z0,gs_W0],(fun o=>[N0].contains o),M5,by omega,?_,?_⟩
   ·simp[eN,z0,gs_W0]
   rw[cutD (L':=[(w0,some ⟨105,2,W0.set r0_ [.fsl (eL rU8 r5.2.b),.int .i64 r5.2.p]⟩)]) (by simp[z0,gs_W0])]
   first|done|rfl|simp
  obtain⟨j2,hj2,H⟩:=bE H
  refine kR (kQ fun K4 hK4=>?_)
  have hJ2:∀a σ,Rc G 90 N0 (fun a σ=>∃M6:Nat,N0≤M6∧N0<M6∧a=[(0,.ptr w0 r0_ 0),(1,.int .i64 p1),(4,.ptr N0 0 0),(13,.int .i64 r1.1),(27,.bool j2)]∧σ=hp E0 [(w0,some ⟨105,2,W0.set r0_ [.fsl (eL rU8 r1.2.b),.int .i64 r1.2.p]⟩),(N0,some ⟨36,5,[[.int .i64 0,.int .i64 0,.int .i64 0,.int .i64 0,.int .i64 0]]⟩)] M6) (a.keep [0,1,4,13,27]) σ→K4 a σ:=by
   rintro a σ ⟨b,τ,hr,M6,fM6_0,fM6_1,rfl,rfl⟩
   refine hK4 _ _ (kI [0,1,4,13,27] (Wre hr ?_))
   refine Ci H (fun H=>?_) fun H=>?_
   ·obtain⟨r8,hr8,H⟩:=bE H
    refine Sm tok [] [0,4,5] (M6+3) (by
     intro K k
     have e0:=nQ w0 N0
     simp -dsimp -implicitDefEqProofs [e0,gs_W0]
     refine(c124 (W0:=W0.set r0_ [.fsl (eL rU8 r1.2.b),.int .i64 r1.2.p]) (r0_:=r0_) (H:=hr8) (by simp[e0,gs_W0]) (by simp[e0,gs_W0])).mono ?_;rintro _ _ ⟨M7,fM7_0,rfl,rfl⟩;simp only[hpN] at fM7_0
     try simp -dsimp -implicitDefEqProofs [e0,gs_W0,hoS,hoN]
     exact k M7 (by omega)) fun M7 fM7_0=>?_
    obtain⟨r9,hr9,H⟩:=bE H
    refine Sm tok [] [4] (M7+5) (by
     intro K k
     have e0:=nQ w0 N0
     simp -dsimp -implicitDefEqProofs [e0,gs_W0]
     refine(c124 (W0:=W0.set r0_ [.fsl (eL rU8 r8.2.b),.int .i64 r8.2.p]) (r0_:=r0_) (H:=hr9) (by simp[e0,gs_W0]) (by simp[e0,gs_W0])).mono ?_;rintro _ _ ⟨M8,fM8_0,rfl,rfl⟩;simp only[hpN] at fM8_0
     try simp -dsimp -implicitDefEqProofs [e0,gs_W0,hoS,hoN]
     exact k M8 (by omega)) fun M8 fM8_0=>?_
    obtain rfl:=oi H
    refine Kp [4] ?_
    have z1:=nQ w0 N0
    refine Wr ?_
    refine⟨[.agg [.int .i64 2,.int .i64 r8.1,.int .i64 r9.1,.int .i64 0,.int .i64 0]],by simp[z1,gs_W0],(fun o=>[N0].contains o),M8,by omega,?_,?_⟩
    ·simp[eN,z1,gs_W0]
    rw[cutD (L':=[(w0,some ⟨105,2,W0.set r0_ [.fsl (eL rU8 r9.2.b),.int .i64 r9.2.p]⟩)]) (by simp[z1,gs_W0])]
    first|done|rfl|simp
   obtain⟨j3,hj3,H⟩:=bE H
   refine kR (kQ fun K3 hK3=>?_)
   have hJ3:∀a σ,Rc G 90 N0 (fun a σ=>∃M9:Nat,N0≤M9∧N0<M9∧a=[(0,.ptr w0 r0_ 0),(1,.int .i64 p1),(4,.ptr N0 0 0),(13,.int .i64 r1.1),(36,.bool j3)]∧σ=hp E0 [(w0,some ⟨105,2,W0.set r0_ [.fsl (eL rU8 r1.2.b),.int .i64 r1.2.p]⟩),(N0,some ⟨36,5,[[.int .i64 0,.int .i64 0,.int .i64 0,.int .i64 0,.int .i64 0]]⟩)] M9) (a.keep [0,1,4,13,36]) σ→K3 a σ:=by
    rintro a σ ⟨b,τ,hr,M9,fM9_0,fM9_1,rfl,rfl⟩
    refine hK3 _ _ (kI [0,1,4,13,36] (Wre hr ?_))
    refine Ci H (fun H=>?_) fun H=>?_
    ·obtain⟨r11,hr11,H⟩:=bE H
     refine Sm tok [] [0,4,6] (M9+3) (by
      intro K k
      have e0:=nQ w0 N0
      simp -dsimp -implicitDefEqProofs [e0,gs_W0]
      refine(c124 (W0:=W0.set r0_ [.fsl (eL rU8 r1.2.b),.int .i64 r1.2.p]) (r0_:=r0_) (H:=hr11) (by simp[e0,gs_W0]) (by simp[e0,gs_W0])).mono ?_;rintro _ _ ⟨M10,fM10_0,rfl,rfl⟩;simp only[hpN] at fM10_0
      try simp -dsimp -implicitDefEqProofs [e0,gs_W0,hoS,hoN]
      exact k M10 (by omega)) fun M10 fM10_0=>?_
     obtain⟨r12,hr12,H⟩:=bE H
     refine Sm tok [] [0,4,6,7] (M10+3) (by
      intro K k
      have e0:=nQ w0 N0
      simp -dsimp -implicitDefEqProofs [e0,gs_W0]
      refine(c124 (W0:=W0.set r0_ [.fsl (eL rU8 r11.2.b),.int .i64 r11.2.p]) (r0_:=r0_) (H:=hr12) (by simp[e0,gs_W0]) (by simp[e0,gs_W0])).mono ?_;rintro _ _ ⟨M11,fM11_0,rfl,rfl⟩;simp only[hpN] at fM11_0
      try simp -dsimp -implicitDefEqProofs [e0,gs_W0,hoS,hoN]
      exact k M11 (by omega)) fun M11 fM11_0=>?_
     obtain⟨r13,hr13,H⟩:=bE H
     refine Sm tok [] [0,4,6,7,8] (M11+3) (by
      intro K k
      have e0:=nQ w0 N0
      simp -dsimp -implicitDefEqProofs [e0,gs_W0]
      refine(c124 (W0:=W0.set r0_ [.fsl (eL rU8 r12.2.b),.int .i64 r12.2.p]) (r0_:=r0_) (H:=hr13) (by simp[e0,gs_W0]) (by simp[e0,gs_W0])).mono ?_;rintro _ _ ⟨M12,fM12_0,rfl,rfl⟩;simp only[hpN] at fM12_0
      try simp -dsimp -implicitDefEqProofs [e0,gs_W0,hoS,hoN]
      exact k M12 (by omega)) fun M12 fM12_0=>?_
     obtain⟨r14,hr14,H⟩:=bE H
     refine Sm tok [] [4] (M12+7) (by
      intro K k
      have e0:=nQ w0 N0
      simp -dsimp -implicitDefEqProofs [e0,gs_W0]
      refine(c126 (W0:=W0.set r0_ [.fsl (eL rU8 r13.2.b),.int .i64 r13.2.p]) (r0_:=r0_) (H:=hr14) (by simp[e0,gs_W0]) (by simp[e0,gs_W0])).mono ?_;rintro _ _ ⟨M13,fM13_0,rfl,rfl⟩;simp only[hpN] at fM13_0
      try simp -dsimp -implicitDefEqProofs [e0,gs_W0,hoS,hoN]
      exact k M13 (by omega)) fun M13 fM13_0=>?_
     obtain rfl:=oi H
     refine Kp [4] ?_
     have z2:=nQ w0 N0
     refine Wr ?_
     refine⟨[.agg [.int .i64 3,.int .i64 r11.1,.int .i64 r12.1,.int .i64 r13.1,.int .i64 r14.1]],by simp[z2,gs_W0],(fun o=>[N0].contains o),M13,by omega,?_,?_⟩
     ·simp[eN,z2,gs_W0]
     rw[cutD (L':=[(w0,some ⟨105,2,W0.set r0_ [.fsl (eL rU8 r14.2.b),.int .i64 r14.2.p]⟩)]) (by simp[z2,gs_W0])]
     first|done|rfl|simp
    refine Sx tok [] [0,1,4,13,52] (by
     intro K k
     have e0:=nQ w0 N0
     simp -dsimp -implicitDefEqProofs [e0,gs_W0]
     exact k) ?_
    refine Ci H (fun H=>?_) fun H=>?_
    ·obtain⟨r15,hr15,H⟩:=bE H
     refine Sm tok [] [4] (M9+7) (by
      intro K k
      have e0:=nQ w0 N0
      simp -dsimp -implicitDefEqProofs [e0,gs_W0]
      refine(c41 (W0:=W0.set r0_ [.fsl (eL rU8 r1.2.b),.int .i64 r1.2.p]) (r0_:=r0_) (H:=hr15) (by simp[e0,gs_W0]) (by simp[e0,gs_W0])).mono ?_;rintro _ _ ⟨M14,fM14_0,rfl,rfl⟩;simp only[hpN] at fM14_0
      try simp -dsimp -implicitDefEqProofs [e0,gs_W0,hoS,hoN]
      exact k M14 (by omega)) fun M14 fM14_0=>?_
     obtain rfl:=oi H
     refine Kp [4] ?_
     have z3:=nQ w0 N0
     refine Wr ?_
     refine⟨[.agg [.int .i64 4,.int .i64 0,.int .i64 0,.int .i64 0,.int .i64 r15.1]],by simp[z3,gs_W0],(fun o=>[N0].contains o),M14,by omega,?_,?_⟩
     ·simp[eN,z3,gs_W0]
     rw[cutD (L':=[(w0,some ⟨105,2,W0.set r0_ [.fsl (eL rU8 r15.2.b),.int .i64 r15.2.p]⟩)]) (by simp[z3,gs_W0])]
     first|done|rfl|simp
    refine Sx tok [] [0,1,4,13,58] (by
     intro K k
     have e0:=nQ w0 N0
     simp -dsimp -implicitDefEqProofs [e0,gs_W0]
     exact k) ?_
    refine Ci H (fun H=>?_) fun H=>?_
    ·obtain⟨r16,hr16,H⟩:=bE H
     refine Sm tok [] [0,1,4,9] (M9+7) (by
      intro K k
      have e0:=nQ w0 N0
      simp -dsimp -implicitDefEqProofs [e0,gs_W0]
      refine(c124 (W0:=W0.set r0_ [.fsl (eL rU8 r1.2.b),.int .i64 r1.2.p]) (r0_:=r0_) (H:=hr16) (by simp[e0,gs_W0]) (by simp[e0,gs_W0])).mono ?_;rintro _ _ ⟨M15,fM15_0,rfl,rfl⟩;simp only[hpN] at fM15_0
      try simp -dsimp -implicitDefEqProofs [e0,gs_W0,hoS,hoN]
      exact k M15 (by omega)) fun M15 fM15_0=>?_
     obtain⟨r17,hr17,H⟩:=bE H
     refine Sm tok [] [4] (M15+6) (by
      intro K k
      have e0:=nQ w0 N0
      simp -dsimp -implicitDefEqProofs [e0,gs_W0]
      refine(c41 (W0:=W0.set r0_ [.fsl (eL rU8 r16.2.b),.int .i64 r16.2.p]) (r0_:=r0_) (H:=hr17) (by simp[e0,gs_W0]) (by simp[e0,gs_W0])).mono ?_;rintro _ _ ⟨M16,fM16_0,rfl,rfl⟩;simp only[hpN] at fM16_0
      try simp -dsimp -implicitDefEqProofs [e0,gs_W0,hoS,hoN]
      exact k M16 (by omega)) fun M16 fM16_0=>?_
     obtain rfl:=oi H
     refine Kp [4] ?_
     have z4:=nQ w0 N0
     refine Wr ?_
     refine⟨[.agg [.int .i64 5,.int .i64 0,.int .i64 r16.1,.int .i64 0,.int .i64 r17.1]],by simp[z4,gs_W0],(fun o=>[N0].contains o),M16,by omega,?_,?_⟩
     ·simp[eN,z4,gs_W0]
     rw[cutD (L':=[(w0,some ⟨105,2,W0.set r0_ [.fsl (eL rU8 r17.2.b),.int .i64 r17.2.p]⟩)]) (by simp[z4,gs_W0])]
     first|done|rfl|simp
    refine Sx tok [] [0,4,13,67] (by
     intro K k
     have e0:=nQ w0 N0
     simp -dsimp -implicitDefEqProofs [e0,gs_W0]
     exact k) ?_
    refine Ci H (fun H=>?_) fun H=>?_
    ·obtain⟨r18,hr18,H⟩:=bE H
     refine Sm tok [] [0,4,10] (M9+9) (by
      intro K k
      have e0:=nQ w0 N0
      simp -dsimp -implicitDefEqProofs [e0,gs_W0]
      refine(c124 (W0:=W0.set r0_ [.fsl (eL rU8 r1.2.b),.int .i64 r1.2.p]) (r0_:=r0_) (H:=hr18) (by simp[e0,gs_W0]) (by simp[e0,gs_W0])).mono ?_;rintro _ _ ⟨M17,fM17_0,rfl,rfl⟩;simp only[hpN] at fM17_0
      try simp -dsimp -implicitDefEqProofs [e0,gs_W0,hoS,hoN]
      exact k M17 (by omega)) fun M17 fM17_0=>?_
     obtain⟨r19,hr19,H⟩:=bE H
     refine Sm tok [] [4] (M17+5) (by
      intro K k
      have e0:=nQ w0 N0
      simp -dsimp -implicitDefEqProofs [e0,gs_W0]
      refine(c41 (W0:=W0.set r0_ [.fsl (eL rU8 r18.2.b),.int .i64 r18.2.p]) (r0_:=r0_) (H:=hr19) (by simp[e0,gs_W0]) (by simp[e0,gs_W0])).mono ?_;rintro _ _ ⟨M18,fM18_0,rfl,rfl⟩;simp only[hpN] at fM18_0
      try simp -dsimp -implicitDefEqProofs [e0,gs_W0,hoS,hoN]
      exact k M18 (by omega)) fun M18 fM18_0=>?_
     obtain rfl:=oi H
     refine Kp [4] ?_
     have z5:=nQ w0 N0
     refine Wr ?_
     refine⟨[.agg [.int .i64 6,.int .i64 0,.int .i64 r18.1,.int .i64 0,.int .i64 r19.1]],by simp[z5,gs_W0],(fun o=>[N0].contains o),M18,by omega,?_,?_⟩
     ·simp[eN,z5,gs_W0]
     rw[cutD (L':=[(w0,some ⟨105,2,W0.set r0_ [.fsl (eL rU8 r19.2.b),.int .i64 r19.2.p]⟩)]) (by simp[z5,gs_W0])]
     first|done|rfl|simp
    refine Sx tok [] [0,4,75] (by
     intro K k
     have e0:=nQ w0 N0
     simp -dsimp -implicitDefEqProofs [e0,gs_W0]
     exact k) ?_
    refine Ci H (fun H=>?_) fun H=>?_
    ·obtain⟨r20,hr20,H⟩:=bE H
     refine Sm tok [] [0,4,11] (M9+11) (by
      intro K k
      have e0:=nQ w0 N0
      simp -dsimp -implicitDefEqProofs [e0,gs_W0]
      refine(c124 (W0:=W0.set r0_ [.fsl (eL rU8 r1.2.b),.int .i64 r1.2.p]) (r0_:=r0_) (H:=hr20) (by simp[e0,gs_W0]) (by simp[e0,gs_W0])).mono ?_;rintro _ _ ⟨M19,fM19_0,rfl,rfl⟩;simp only[hpN] at fM19_0
      try simp -dsimp -implicitDefEqProofs [e0,gs_W0,hoS,hoN]
      exact k M19 (by omega)) fun M19 fM19_0=>?_
     obtain⟨r21,hr21,H⟩:=bE H
     refine Sm tok [] [4] (M19+5) (by
      intro K k
      have e0:=nQ w0 N0
      simp -dsimp -implicitDefEqProofs [e0,gs_W0]
      refine(c41 (W0:=W0.set r0_ [.fsl (eL rU8 r20.2.b),.int .i64 r20.2.p]) (r0_:=r0_) (H:=hr21) (by simp[e0,gs_W0]) (by simp[e0,gs_W0])).mono ?_;rintro _ _ ⟨M20,fM20_0,rfl,rfl⟩;simp only[hpN] at fM20_0
      try simp -dsimp -implicitDefEqProofs [e0,gs_W0,hoS,hoN]
      exact k M20 (by omega)) fun M20 fM20_0=>?_
     obtain rfl:=oi H
     refine Kp [4] ?_
     have z6:=nQ w0 N0
     refine Wr ?_
     refine⟨[.agg [.int .i64 7,.int .i64 r20.1,.int .i64 0,.int .i64 0,.int .i64 r21.1]],by simp[z6,gs_W0],(fun o=>[N0].contains o),M20,by omega,?_,?_⟩
     ·simp[eN,z6,gs_W0]
     rw[cutD (L':=[(w0,some ⟨105,2,W0.set r0_ [.fsl (eL rU8 r21.2.b),.int .i64 r21.2.p]⟩)]) (by simp[z6,gs_W0])]
     first|done|rfl|simp
    refine Wsk (Jn hK1 ?_)
    refine Wsq [0,4] fun K2 hK2=>?_
    obtain⟨r22,hr22,H⟩:=bE H
    refine Sm tok [] [0,4,85] (M9+11) (by
     intro K k
     have e0:=nQ w0 N0
     simp -dsimp -implicitDefEqProofs [e0,gs_W0]
     refine(c41 (W0:=W0.set r0_ [.fsl (eL rU8 r1.2.b),.int .i64 r1.2.p]) (r0_:=r0_) (H:=hr22) (by simp[e0,gs_W0]) (by simp[e0,gs_W0])).mono ?_;rintro _ _ ⟨M21,fM21_0,rfl,rfl⟩;simp only[hpN] at fM21_0
     try simp -dsimp -implicitDefEqProofs [e0,gs_W0,hoS,hoN]
     exact k M21 (by omega)) fun M21 fM21_0=>?_
    refine Ci H (fun H=>?_) fun H=>?_
    ·refine Sx tok [] [4] (by
      intro K k
      have e0:=nQ w0 N0
      simp -dsimp -implicitDefEqProofs [e0,gs_W0]
      exact k) ?_
     obtain rfl:=oi H
     refine Kp [4] ?_
     have z7:=nQ w0 N0
     refine Wr ?_
     refine⟨[.agg [.int .i64 8,.int .i64 0,.int .i64 0,.int .i64 0,.int .i64 0]],by simp[z7,gs_W0],(fun o=>[N0].contains o),M21+2,by omega,?_,?_⟩
     ·simp[eN,z7,gs_W0]
     rw[cutD (L':=[(w0,some ⟨105,2,W0.set r0_ [.fsl (eL rU8 r22.2.b),.int .i64 r22.2.p]⟩)]) (by simp[z7,gs_W0])]
     first|done|rfl|simp
    refine Wsk (Jn hK2 ?_)
    obtain⟨r23,hr23,H⟩:=bE H
    refine Sm tok [] [4] (M21+4) (by
     intro K k
     have e0:=nQ w0 N0
     simp -dsimp -implicitDefEqProofs [e0,gs_W0]
     refine(c124 (W0:=W0.set r0_ [.fsl (eL rU8 r22.2.b),.int .i64 r22.2.p]) (r0_:=r0_) (H:=hr23) (by simp[e0,gs_W0]) (by simp[e0,gs_W0])).mono ?_;rintro _ _ ⟨M22,fM22_0,rfl,rfl⟩;simp only[hpN] at fM22_0
     try simp -dsimp -implicitDefEqProofs [e0,gs_W0,hoS,hoN]
     exact k M22 (by omega)) fun M22 fM22_0=>?_
    obtain rfl:=oi H
    refine Kp [4] ?_
    have z8:=nQ w0 N0
    refine Wr ?_
    refine⟨[.agg [.int .i64 9,.int .i64 0,.int .i64 r23.1,.int .i64 0,.int .i64 0]],by simp[z8,gs_W0],(fun o=>[N0].contains o),M22,by omega,?_,?_⟩
    ·simp[eN,z8,gs_W0]
    rw[cutD (L':=[(w0,some ⟨105,2,W0.set r0_ [.fsl (eL rU8 r23.2.b),.int .i64 r23.2.p]⟩)]) (by simp[z8,gs_W0])]
    first|done|rfl|simp
   replace H:=hj3
   refine Sx tok [] [0,1,4,13,36] (by
    intro K k
    have e0:=nQ w0 N0
    simp -dsimp -implicitDefEqProofs [e0,gs_W0]
    exact k) ?_
   refine Ci H (fun H=>?_) fun H=>?_
   ·refine Wsk ?_
    show K3 _ _
    refine kE [0,1,4,13,36] fun a' ha=>?_
    obtain rfl:=oi H
    refine hJ3 _ _ ?_;rw[ha]
    exact Rf ⟨M6+2,(by omega),(by omega),rfl,rfl⟩
   refine Sx tok [] [0,1,4,13,36] (by
    intro K k
    have e0:=nQ w0 N0
    simp -dsimp -implicitDefEqProofs [e0,gs_W0]
    exact k) ?_
   refine Ci H (fun H=>?_) fun H=>?_
   ·refine Wsk ?_
    show K3 _ _
    refine kE [0,1,4,13,36] fun a' ha=>?_
    obtain rfl:=oi H
    refine hJ3 _ _ ?_;rw[ha]
    exact Rf ⟨M6+4,(by omega),(by omega),rfl,rfl⟩
   refine Rt tok [] [0,1,4,13,36] (by
    intro K k
    have e0:=nQ w0 N0
    simp -dsimp -implicitDefEqProofs [e0,gs_W0]
    exact k) fun a ha=>?_
   obtain rfl:=oi H
   refine hJ3 _ _ ?_;rw[ha]
   exact Rf ⟨M6+6,(by omega),(by omega),rfl,rfl⟩
  replace H:=hj2
  refine Sx tok [] [0,1,4,13,27] (by
   intro K k
   have e0:=nQ w0 N0
   simp -dsimp -implicitDefEqProofs [e0,gs_W0]
   exact k) ?_
  refine Ci H (fun H=>?_) fun H=>?_
  ·refine Wsk ?_
   show K4 _ _
   refine kE [0,1,4,13,27] fun a' ha=>?_
   obtain rfl:=oi H
   refine hJ2 _ _ ?_;rw[ha]
   exact Rf ⟨M2+2,(by omega),(by omega),rfl,rfl⟩
  refine Rt tok [] [0,1,4,13,27] (by
   intro K k
   have e0:=nQ w0 N0
   simp -dsimp -implicitDefEqProofs [e0,gs_W0]
   exact k) fun a ha=>?_
  obtain rfl:=oi H
  refine hJ2 _ _ ?_;rw[ha]
  exact Rf ⟨M2+4,(by omega),(by omega),rfl,rfl⟩
 replace H:=hj1
 refine Sx tok [] [0,1,4,13,14] (by
  intro K k
  have e0:=nQ w0 N0
  simp -dsimp -implicitDefEqProofs [e0,gs_W0]
  exact k) ?_
 refine Ci H (fun H=>?_) fun H=>?_
 ·refine Wsk ?_
  show K5 _ _
  refine kE [0,1,4,13,14] fun a' ha=>?_
  obtain rfl:=oi H
  refine hJ1 _ _ ?_;rw[ha]
  exact Rf ⟨M1+2,(by omega),(by omega),rfl,rfl⟩
 refine Rt tok [] [0,1,4,13,14] (by
  intro K k
  have e0:=nQ w0 N0
  simp -dsimp -implicitDefEqProofs [e0,gs_W0]
  exact k) fun a ha=>?_
 obtain rfl:=oi H
 refine hJ1 _ _ ?_;rw[ha]
 exact Rf ⟨M1+4,(by omega),(by omega),rfl,rfl⟩

theorem c98 {p0:gL6Rd}{r:(List gQuad)×gL6Rd}(H:wN p0=some r){σ:AHeap}{w0:Nat}{W0:List (List AV)}{r0_:Nat}(q0:σ.objs w0=some ⟨105,2,W0⟩)(g0:W0[r0_]? =some [.fsl (eL rU8 p0.b),.int .i64 p0.p]):ACalls Tryz.prog G 98 [.ptr w0 r0_ 0] σ (fun v σ'=>∃M:Nat,σ.next≤M∧v=.fsl (eL rQuad r.1)∧σ'=hp σ.objs [(w0,some ⟨105,2,W0.set r0_ [.fsl (eL rU8 r.2.b),.int .i64 r.2.p]⟩)] M):=by
 refine fr1 ([(w0,some ⟨105,2,W0⟩)]) (by simp[q0]) (fun hlt=>?_) ⟨_,Tryz.func98,rfl,rfl⟩
 generalize σ.next=N0 at hlt ⊢
 have lw0:w0<N0:=hlt _ (.head _) rfl
 have gs_W0:∀x,(W0.set r0_ x)[r0_]? =some x:=gsetW g0
 rw[← kH g0]
 refine fnK tok Tryz.func98 Tryz.ntmps98 Tryz.results98 ?_
 simp only[argsA,Nat.reduceAdd,hpN]
 unfold wN at H
 refine Sx tok [] [0] (by intro K k;simp -dsimp -implicitDefEqProofs [gs_W0];exact k) ?_
 obtain⟨r1,hr1,H⟩:=bE H
 refine Sm tok [] [0,3] (N0+5) (by
  intro K k
  simp -dsimp -implicitDefEqProofs [gs_W0]
  refine(c41 (W0:=W0.set r0_ [.fsl (eL rU8 p0.b),.int .i64 p0.p]) (r0_:=r0_) (H:=hr1) (by simp[gs_W0]) (by simp[gs_W0])).mono ?_;rintro _ _ ⟨M1,fM1_0,rfl,rfl⟩;simp only[hpN] at fM1_0
  try simp -dsimp -implicitDefEqProofs [gs_W0,hoS,hoN]
  exact k M1 (by omega)) fun M1 fM1_0=>?_
 have q0:∀σ i,bsA T 34 true i 0 [] σ=some (.esl,σ):=fun _ _=>rfl
 refine Sx tok [0] [0,3,4] (by intro K k;simp -dsimp -implicitDefEqProofs [gs_W0,q0];exact k) ?_
 refine Wsq [0,3,4] fun K1 hK1=>?_
 refine Sx tok [] [0,3,4,5] (by intro K k;simp -dsimp -implicitDefEqProofs [gs_W0];exact k) ?_
 refine Wbl (Wth ?_)
 obtain⟨e1,hse1,H⟩:=bE H
 refine zS [0,3,4,5] (fun s a σ=>∃M2 o1:Nat,N0≤M2∧N0≤o1∧o1<M2∧a=[(0,.ptr w0 r0_ 0),(3,.int .i64 (iadd .i64 1 r1.1)),(4,.sl o1 0 s.2.2.length),(5,.int .i64 s.1)]∧σ=hp E0 [(w0,some ⟨105,2,W0.set r0_ [.fsl (eL rU8 s.2.1.b),.int .i64 s.2.1.p]⟩),(o1,some ⟨36,5,eL rQuad s.2.2⟩)] M2) (fun s x a σ=>x=.exit 0∧Rc G 36 N0 (fun a σ=>∃M3 o2:Nat,N0≤M3∧N0≤o2∧o2<M3∧a=[(0,.ptr w0 r0_ 0),(3,.int .i64 (iadd .i64 1 r1.1)),(4,.sl o2 0 s.2.length)]∧σ=hp E0 [(w0,some ⟨105,2,W0.set r0_ [.fsl (eL rU8 s.1.b),.int .i64 s.1.p]⟩),(o2,some ⟨36,5,eL rQuad s.2⟩)] M3) (AAct.keep a [0,3,4]) σ) hse1 ?_ ?_ ?_
 ·refine Rc.kp [0,3,4,5] [(0,.ptr w0 r0_ 0),(3,.int .i64 (iadd .i64 1 r1.1)),(4,.esl),(5,.int .i64 0)] rfl ?_
  refine gNilS zK 4 36 5 [(w0,some ⟨105,2,W0.set r0_ [.fsl (eL rU8 r1.2.b),.int .i64 r1.2.p]⟩),(M1+3,some ⟨36,5,eL rQuad ([]:List gQuad)⟩)] [(0,.ptr w0 r0_ 0),(3,.int .i64 (iadd .i64 1 r1.1)),(4,.sl (M1+3) 0 ([]:List gQuad).length),(5,.int .i64 0)] (by simp(disch:=omega)) (by simp(disch:=omega) [eN]) [0,3,4,5] rfl ?_
  exact Rf ⟨M1+4,(M1+3),(by omega),(by omega),(by omega),rfl,rfl⟩
 ·clear H hse1
  rintro⟨s2,s3,s4⟩ fl a σ H ⟨M2,o1,fM2_0,fM2_1,fM2_2,rfl,rfl⟩ K2 O2 hK2 hO2
  unfold sL at H;dsimp only at H
  refine Wsq [0,3,4,5] fun K3 hK3=>?_
  refine Sx tok [] [0,3,4,5,13] (by
   intro K k
   have e0:=nQ w0 o1
   simp -dsimp -implicitDefEqProofs [e0,gs_W0]
   exact k) ?_
  refine Ci H (fun H=>?_) fun H=>?_
  ·refine Wsk (Jn hK3 ?_)
   refine Wsq [0,3,4,5] fun K4 hK4=>?_
   refine Wbl (Wth ?_)
   obtain⟨r7,hr7,H⟩:=bE H
   obtain⟨l8,hl8,H⟩:=bE H
   have q1:∀σ i,bsA T 34 true i 1 [(0,.agg [.int .i64 r7.1.Op,.int .i64 r7.1.Dst,.int .i64 r7.1.A,.int .i64 r7.1.B,.int .i64 r7.1.N])] σ=some (.fsl (eL rQuad ([r7.1]:List gQuad)),σ):=fun _ _=>rfl
   refine gR tok [4] [0,3,4,5] (fun a σ=>∃M4:Nat,M2+11≤M4∧a=[(0,.ptr w0 r0_ 0),(3,.int .i64 (iadd .i64 1 r1.1)),(4,.sl (M2+9) 0 l8.length),(5,.int .i64 s2)]∧σ=hp E0 [(w0,some ⟨105,2,W0.set r0_ [.fsl (eL rU8 r7.2.b),.int .i64 r7.2.p]⟩),(M2+9,some ⟨36,5,eL rQuad l8⟩)] M4) (fun K hK=>?_) ?_
   ·skip
    have e0:=nQ w0 o1
    have e1:=nQ w0 (M2+9)
    have e2:=nQ o1 (M2+9)
    simp -dsimp -implicitDefEqProofs [e0,e1,e2,gs_W0,q1,app34 hl8]
    refine(c113 (W0:=W0.set r0_ [.fsl (eL rU8 s3.b),.int .i64 s3.p]) (r0_:=r0_) (H:=hr7) (by simp[e0,e1,e2,gs_W0,q1,app34 hl8]) (by simp[e0,e1,e2,gs_W0,q1,app34 hl8])).mono ?_;rintro _ _ ⟨M4,fM4_0,rfl,rfl⟩;simp only[hpN] at fM4_0
    try simp -dsimp -implicitDefEqProofs [e0,e1,e2,gs_W0,q1,app34 hl8,hoS,hoN]
    exact hK _ _ ⟨M4,(by omega),rfl,rfl⟩
   rintro a σ ⟨M4,fM4_0,ha,rfl⟩
   refine hK4 _ _ ?_;rw[ha]
   refine Rc.mk ?_
   refine Rt tok [] [0,3,4,5] (by
    intro K k
    have e0:=nQ w0 (M2+9)
    simp -dsimp -implicitDefEqProofs [e0,gs_W0]
    exact k) fun a ha=>?_
   obtain rfl:=oi H
   refine hK2 _ _ _ rfl ?_;rw[ha]
   exact Rf ⟨M4+3,(M2+9),(by omega),(by omega),(by omega),rfl,rfl⟩
  obtain rfl:=oi H
  refine zJ (hO2 _ _ _ _ rfl ⟨rfl,?_⟩)
  refine Rc.rw (l:=[0,3,4]) (X:=[(0,.ptr w0 r0_ 0),(3,.int .i64 (iadd .i64 1 r1.1)),(4,.sl o1 0 s4.length)]) rfl ?_
  exact Rf ⟨M2+4,o1,(by omega),(by omega),(by omega),rfl,rfl⟩
 intro x a σ hx
 obtain⟨y5,y6⟩:=e1
 obtain⟨rfl,b,τ,hr,M3,o2,fM3_0,fM3_1,fM3_2,rfl,rfl⟩:=hx
 (try dsimp only at H)
 show K1 _ _
 refine hK1 _ _ (zK hr ?_)
 refine Rc.mk ?_
 refine Wsq [4] fun K5 hK5=>?_
 obtain⟨r9,hr9,H⟩:=bE H
 refine Sm tok [] [0,3,4,24] (M3+3) (by
  intro K k
  have e0:=nQ w0 o2
  simp -dsimp -implicitDefEqProofs [e0,gs_W0]
  refine(c41 (W0:=W0.set r0_ [.fsl (eL rU8 y5.b),.int .i64 y5.p]) (r0_:=r0_) (H:=hr9) (by simp[e0,gs_W0]) (by simp[e0,gs_W0])).mono ?_;rintro _ _ ⟨M5,fM5_0,rfl,rfl⟩;simp only[hpN] at fM5_0
  try simp -dsimp -implicitDefEqProofs [e0,gs_W0,hoS,hoN]
  exact k M5 (by omega)) fun M5 fM5_0=>?_
 refine Ci H (fun H=>?_) fun H=>?_
 ·obtain⟨r10,hr10,H⟩:=bE H
  obtain⟨l11,hl11,H⟩:=bE H
  have q2:∀σ i,bsA T 34 true i 1 [(0,.agg [.int .i64 4,.int .i64 0,.int .i64 0,.int .i64 0,.int .i64 r10.1])] σ=some (.fsl (eL rQuad ([(⟨4,0,0,0,r10.1⟩:gQuad)]:List gQuad)),σ):=fun _ _=>rfl
  refine Sm tok [5] [2] (M5+8) (by
   intro K k
   have e0:=nQ w0 o2
   have e1:=nQ w0 (M5+6)
   have e2:=nQ o2 (M5+6)
   simp -dsimp -implicitDefEqProofs [e0,e1,e2,gs_W0,q2,app34 hl11]
   refine(c41 (W0:=W0.set r0_ [.fsl (eL rU8 r9.2.b),.int .i64 r9.2.p]) (r0_:=r0_) (H:=hr10) (by simp[e0,e1,e2,gs_W0,q2,app34 hl11]) (by simp[e0,e1,e2,gs_W0,q2,app34 hl11])).mono ?_;rintro _ _ ⟨M6,fM6_0,rfl,rfl⟩;simp only[hpN] at fM6_0
   try simp -dsimp -implicitDefEqProofs [e0,e1,e2,gs_W0,q2,app34 hl11,hoS,hoN]
   exact k M6 (by omega)) fun M6 fM6_0=>?_
  have z0:=nQ w0 (M5+6)
  refine gFrz Wre 4 [M5+6] [(w0,some ⟨105,2,W0.set r0_ [.fsl (eL rU8 r10.2.b),.int .i64 r10.2.p]⟩)] [(2,.fsl (eL rQuad l11))] (by simp[z0]) (cutD (by simp[z0])) ?_
  obtain rfl:=oi H
  refine Kp [2] ?_
  refine Wr ?_
  refine⟨[.fsl (eL rQuad l11)],by simp[gs_W0],M6,by omega,?_,?_⟩
  ·simp[eN]
  first|rfl|simp
 refine Wsk (Jn hK5 ?_)
 obtain⟨l12,hl12,H⟩:=bE H
 have q3:∀σ i,bsA T 34 true i 1 [(0,.agg [.int .i64 10,.int .i64 0,.int .i64 0,.int .i64 0,.int .i64 0])] σ=some (.fsl (eL rQuad ([(⟨10,0,0,0,0⟩:gQuad)]:List gQuad)),σ):=fun _ _=>rfl
 refine Sx tok [2] [2] (by
  intro K k
  have e0:=nQ w0 o2
  have e1:=nQ w0 (M5+3)
  have e2:=nQ o2 (M5+3)
  simp -dsimp -implicitDefEqProofs [e0,e1,e2,gs_W0,q3,app34 hl12]
  exact k) ?_
 have z1:=nQ w0 (M5+3)
 refine gFrz Wre 4 [M5+3] [(w0,some ⟨105,2,W0.set r0_ [.fsl (eL rU8 r9.2.b),.int .i64 r9.2.p]⟩)] [(2,.fsl (eL rQuad l12))] (by simp[z1]) (cutD (by simp[z1])) ?_
 obtain rfl:=oi H
 refine Kp [2] ?_
 refine Wr ?_
 refine⟨[.fsl (eL rQuad l12)],by simp[gs_W0],M5+5,by omega,?_,?_⟩
 ·simp[eN]
 first|rfl|simp

theorem c168 {p0:Int}{p1:Int}{r:gExpr}(H:xH p0 p1=some r):APure Tryz.prog G 168 [.int .i64 p0,.int .i64 p1] (.agg [.int .i64 r.Op,.int .i64 r.N,.fsl (eL rExpr r.Args)]):=by
 refine zE (fun N0=>?_) (by simp)
 refine fnK tok Tryz.func168 Tryz.ntmps168 Tryz.results168 ?_
 simp only[argsA,Nat.reduceAdd,hpN]
 unfold xH at H
 refine S0 tok [] [0,1,4] ?_
 have q0:∀σ i,bsA T 147 true i 0 [] σ=some (.esl,σ):=fun _ _=>rfl
 refine Sx tok [2] [4] (by intro K k;simp -dsimp -implicitDefEqProofs [q0];exact k) ?_
 obtain rfl:=oi H
 refine Kp [4] ?_
 refine Wr ?_
 exact⟨[.agg [.int .i64 p0,.int .i64 p1,.fsl []]],by simp,4,by simp[eN]⟩

theorem c169 {p0:gL6Rd}{r:gExpr×gL6Rd}(H:nR p0=some r){σ:AHeap}{w0:Nat}{W0:List (List AV)}{r0_:Nat}(q0:σ.objs w0=some ⟨105,2,W0⟩)(g0:W0[r0_]? =some [.fsl (eL rU8 p0.b),.int .i64 p0.p]):ACalls Tryz.prog G 169 [.ptr w0 r0_ 0] σ (fun v σ'=>∃M:Nat,σ.next≤M∧v=.agg [.int .i64 r.1.Op,.int .i64 r.1.N,.fsl (eL rExpr r.1.Args)]∧σ'=hp σ.objs [(w0,some ⟨105,2,W0.set r0_ [.fsl (eL rU8 r.2.b),.int .i64 r.2.p]⟩)] M):=by
 refine fr1 ([(w0,some ⟨105,2,W0⟩)]) (by simp[q0]) (fun hlt=>?_) ⟨_,Tryz.func169,rfl,rfl⟩
 generalize σ.next=N0 at hlt ⊢
 have lw0:w0<N0:=hlt _ (.head _) rfl
 have gs_W0:∀x,(W0.set r0_ x)[r0_]? =some x:=gsetW g0
 rw[← kH g0]
 refine vG 4 ?_
 refine fnK tok Tryz.func169 Tryz.ntmps169 Tryz.results169 ?_
 simp only[argsA,Nat.reduceAdd,hpN]
 unfold nR at H
 refine Sx tok [] [0,2] (by
  intro K k
  have e0:=nQ w0 N0
  simp -dsimp -implicitDefEqProofs [e0,gs_W0]
  exact k) ?_
 refine Wsq [0,2] fun K1 hK1=>?_
 refine gW Wre N0 0 2 ?_
 obtain⟨r1,hr1,H⟩:=bE H
 refine Sm tok [] [0,2,4] (N0+3) (by
  intro K k
  have e0:=nQ w0 N0
  simp -dsimp -implicitDefEqProofs [e0,gs_W0]
  refine(c41 (W0:=W0.set r0_ [.fsl (eL rU8 p0.b),.int .i64 p0.p]) (r0_:=r0_) (H:=hr1) (by simp[e0,gs_W0]) (by simp[e0,gs_W0])).mono ?_;rintro _ _ ⟨M1,fM1_0,rfl,rfl⟩;simp only[hpN] at fM1_0
  try simp -dsimp -implicitDefEqProofs [e0,gs_W0,hoS,hoN]
  exact k M1 (by omega)) fun M1 fM1_0=>?_
 refine Wbl (Wth ?_)
 refine Sx tok [] [0,2,4,5] (by
  intro K k
  have e0:=nQ w0 N0
  simp -dsimp -implicitDefEqProofs [e0,gs_W0]
  exact k) ?_
 refine Ci H (fun H=>?_) fun H=>?_
 ·obtain⟨r2,hr2,H⟩:=bE H
  obtain⟨r3,hr3,H⟩:=bE H
  refine Sm tok [] [2] (M1+6) (by
   intro K k
   have e0:=nQ w0 N0
   simp -dsimp -implicitDefEqProofs [e0,gs_W0]
   refine(c41 (W0:=W0.set r0_ [.fsl (eL rU8 r1.2.b),.int .i64 r1.2.p]) (r0_:=r0_) (H:=hr2) (by simp[e0,gs_W0]) (by simp[e0,gs_W0])).mono ?_;rintro _ _ ⟨M2,fM2_0,rfl,rfl⟩;simp only[hpN] at fM2_0
   try simp -dsimp -implicitDefEqProofs [e0,gs_W0,hoS,hoN]
   refine(c168 hr3).app ?_;try simp -dsimp -implicitDefEqProofs [e0,gs_W0,hoS,hoN]
   exact k M2 (by omega)) fun M2 fM2_0=>?_
  obtain rfl:=oi H
  refine Kp [2] ?_
  have z0:=nQ w0 N0
  refine Wr ?_
  refine⟨[.agg [.int .i64 r3.Op,.int .i64 r3.N,.fsl (eL rExpr r3.Args)]],by simp[z0,gs_W0],(fun o=>[N0].contains o),M2,by omega,?_,?_⟩
  ·simp[eN,z0,gs_W0]
  rw[cutD (L':=[(w0,some ⟨105,2,W0.set r0_ [.fsl (eL rU8 r2.2.b),.int .i64 r2.2.p]⟩)]) (by simp[z0,gs_W0])]
  first|done|rfl|simp
 refine Sx tok [] [0,2,10] (by
  intro K k
  have e0:=nQ w0 N0
  simp -dsimp -implicitDefEqProofs [e0,gs_W0]
  exact k) ?_
 refine Ci H (fun H=>?_) fun H=>?_
 ·obtain⟨r4,hr4,H⟩:=bE H
  obtain⟨v5,hv5,H⟩:=bE H
  obtain⟨r6,hr6,H⟩:=bE H
  have q0:∀σ i,bsA T 23 true i 8 [(0,.int .i64 5),(1,.int .i64 31),(2,.int .i64 32),(3,.int .i64 100),(4,.int .i64 2047),(5,.int .i64 2048),(6,.int .i64 65536),(7,.int .i64 99999)] σ=some (.fsl (eL rI ([5,31,32,100,2047,2048,65536,99999]:List Int)),σ):=fun _ _=>rfl
  refine Sm tok [0] [2] (M1+11) (by
   intro K k
   have e0:=nQ w0 N0
   simp -dsimp -implicitDefEqProofs [e0,gs_W0,q0,ix23 hv5]
   refine(c41 (W0:=W0.set r0_ [.fsl (eL rU8 r1.2.b),.int .i64 r1.2.p]) (r0_:=r0_) (H:=hr4) (by simp[e0,gs_W0,q0,ix23 hv5]) (by simp[e0,gs_W0,q0,ix23 hv5])).mono ?_;rintro _ _ ⟨M3,fM3_0,rfl,rfl⟩;simp only[hpN] at fM3_0
   try simp -dsimp -implicitDefEqProofs [e0,gs_W0,q0,ix23 hv5,hoS,hoN]
   refine(c168 hr6).app ?_;try simp -dsimp -implicitDefEqProofs [e0,gs_W0,q0,ix23 hv5,hoS,hoN]
   exact k M3 (by omega)) fun M3 fM3_0=>?_
  obtain rfl:=oi H
  refine Kp [2] ?_
  have z1:=nQ w0 N0
  refine Wr ?_
  refine⟨[.agg [.int .i64 r6.Op,.int .i64 r6.N,.fsl (eL rExpr r6.Args)]],by simp[z1,gs_W0],(fun o=>[N0].contains o),M3,by omega,?_,?_⟩
  ·simp[eN,z1,gs_W0]
  rw[cutD (L':=[(w0,some ⟨105,2,W0.set r0_ [.fsl (eL rU8 r4.2.b),.int .i64 r4.2.p]⟩)]) (by simp[z1,gs_W0])]
  first|done|rfl|simp
 refine Wsk (Jn hK1 ?_)
 obtain⟨r7,hr7,H⟩:=bE H
 obtain⟨r8,hr8,H⟩:=bE H
 refine Sm tok [] [2] (M1+8) (by
  intro K k
  have e0:=nQ w0 N0
  simp -dsimp -implicitDefEqProofs [e0,gs_W0]
  refine(c41 (W0:=W0.set r0_ [.fsl (eL rU8 r1.2.b),.int .i64 r1.2.p]) (r0_:=r0_) (H:=hr7) (by simp[e0,gs_W0]) (by simp[e0,gs_W0])).mono ?_;rintro _ _ ⟨M4,fM4_0,rfl,rfl⟩;simp only[hpN] at fM4_0
  try simp -dsimp -implicitDefEqProofs [e0,gs_W0,hoS,hoN]
  refine(c168 hr8).app ?_;try simp -dsimp -implicitDefEqProofs [e0,gs_W0,hoS,hoN]
  exact k M4 (by omega)) fun M4 fM4_0=>?_
 obtain rfl:=oi H
 refine Kp [2] ?_
 have z2:=nQ w0 N0
 refine Wr ?_
 refine⟨[.agg [.int .i64 r8.Op,.int .i64 r8.N,.fsl (eL rExpr r8.Args)]],by simp[z2,gs_W0],(fun o=>[N0].contains o),M4,by omega,?_,?_⟩
 ·simp[eN,z2,gs_W0]
 rw[cutD (L':=[(w0,some ⟨105,2,W0.set r0_ [.fsl (eL rU8 r7.2.b),.int .i64 r7.2.p]⟩)]) (by simp[z2,gs_W0])]
 first|done|rfl|simp

theorem c167 {p0:Int}{p1:gExpr}{p2:gExpr}{r:gExpr}(H:pJ p0 p1 p2=some r):APure Tryz.prog G 167 [.int .i64 p0,.agg [.int .i64 p1.Op,.int .i64 p1.N,.fsl (eL rExpr p1.Args)],.agg [.int .i64 p2.Op,.int .i64 p2.N,.fsl (eL rExpr p2.Args)]] (.agg [.int .i64 r.Op,.int .i64 r.N,.fsl (eL rExpr r.Args)]):=by
 refine zE (fun N0=>?_) (by simp)
 refine fnK tok Tryz.func167 Tryz.ntmps167 Tryz.results167 ?_
 simp only[argsA,Nat.reduceAdd,hpN]
 unfold pJ at H
 refine S0 tok [0,1] [0,4,5,6] ?_
 have q0:∀σ i,bsA T 147 true i 2 [(0,.agg [.int .i64 p1.Op,.int .i64 p1.N,.fsl (eL rExpr p1.Args)]),(1,.agg [.int .i64 p2.Op,.int .i64 p2.N,.fsl (eL rExpr p2.Args)])] σ=some (.fsl (eL rExpr ([p1,p2]:List gExpr)),σ):=by intro _ _;simp only[eL,List.map_cons,List.map_nil,mF];rfl
 refine Sx tok [3] [6] (by intro K k;simp -dsimp -implicitDefEqProofs [q0];exact k) ?_
 obtain rfl:=oi H
 refine Kp [6] ?_
 refine Wr ?_
 exact⟨[.agg [.int .i64 p0,.int .i64 0,.fsl (eL rExpr ([p1,p2]:List gExpr))]],by simp,4,by simp[eN]⟩

abbrev c150Q (F:gL6Rd→Int→Option (gExpr×gL6Rd)):Prop:=∀{p0:gL6Rd} {p1:Int} {r:gExpr×gL6Rd} (H:F p0 p1=some r) {σ:AHeap} {w0:Nat} {W0:List (List AV)} {r0_:Nat} (q0:σ.objs w0=some ⟨105,2,W0⟩) (g0:W0[r0_]? =some [.fsl (eL rU8 p0.b),.int .i64 p0.p]),ACalls Tryz.prog G 150 [.ptr w0 r0_ 0,.int .i64 p1] σ (fun v σ'=>∃M:Nat,σ.next≤M∧v=.agg [.int .i64 r.1.Op,.int .i64 r.1.N,.fsl (eL rExpr r.1.Args)]∧σ'=hp σ.objs [(w0,some ⟨105,2,W0.set r0_ [.fsl (eL rU8 r.2.b),.int .i64 r.2.p]⟩)] M)


theorem c150B {Fr1:gL6Rd→Int→Option (gExpr×gL6Rd)}(hFr1:c150Q Fr1){p0:gL6Rd}{p1:Int}{r:gExpr×gL6Rd}(H:tI Fr1 p0 p1=some r){σ:AHeap}{w0:Nat}{W0:List (List AV)}{r0_:Nat}(q0:σ.objs w0=some ⟨105,2,W0⟩)(g0:W0[r0_]? =some [.fsl (eL rU8 p0.b),.int .i64 p0.p]):ACalls Tryz.prog G 150 [.ptr w0 r0_ 0,.int .i64 p1] σ (fun v σ'=>∃M:Nat,σ.next≤M∧v=.agg [.int .i64 r.1.Op,.int .i64 r.1.N,.fsl (eL rExpr r.1.Args)]∧σ'=hp σ.objs [(w0,some ⟨105,2,W0.set r0_ [.fsl (eL rU8 r.2.b),.int .i64 r.2.p]⟩)] M):=by
 refine fr1 ([(w0,some ⟨105,2,W0⟩)]) (by simp[q0]) (fun hlt=>?_) ⟨_,Tryz.func150,rfl,rfl⟩
 generalize σ.next=N0 at hlt ⊢
 have lw0:w0<N0:=hlt _ (.head _) rfl
 have gs_W0:∀x,(W0.set r0_ x)[r0_]? =some x:=gsetW g0
 rw[← kH g0]
 refine vG 4 ?_
 refine fnK tok Tryz.func150 Tryz.ntmps150 Tryz.results150 ?_
 simp only[argsA,Nat.reduceAdd,hpN]
 unfold tI at H
 refine Sx tok [] [0,1,4] (by
  intro K k
  have e0:=nQ w0 N0
  simp -dsimp -implicitDefEqProofs [e0,gs_W0]
  exact k) ?_
 refine Wsq [0,1,4] fun K1 hK1=>?_
 refine gW Wre N0 0 2 ?_
 obtain⟨g2,hg2,H⟩:=bE H
 refine jV tok [] [0,1,4,13] (fun a σ=>∃M1:Nat,N0+8≤M1∧a=[(0,.ptr w0 r0_ 0),(1,.int .i64 p1),(4,.ptr N0 0 0),(13,.bool g2.1)]∧σ=hp E0 [(w0,some ⟨105,2,W0.set r0_ [.fsl (eL rU8 g2.2.b),.int .i64 g2.2.p]⟩),(N0,some ⟨149,3,[[.int .i64 0,.int .i64 0,.fsl []]]⟩)] M1) (fun K hK=>?_) ?_
 ·skip
  have e0:=nQ w0 N0
  simp -dsimp -implicitDefEqProofs [e0,gs_W0]
  cases hbg2:ilt p1 2
  ·replace hg2:=ifF hbg2 hg2
   obtain⟨r1,hr1,hg2⟩:=bE hg2
   obtain rfl:=oi hg2
   try simp -dsimp -implicitDefEqProofs [e0,gs_W0,hbg2]
   refine(c41 (W0:=W0.set r0_ [.fsl (eL rU8 p0.b),.int .i64 p0.p]) (r0_:=r0_) (H:=hr1) (by simp[e0,gs_W0,hbg2]) (by simp[e0,gs_W0,hbg2])).mono ?_;rintro _ _ ⟨M1,fM1_0,rfl,rfl⟩;simp only[hpN] at fM1_0
   try simp -dsimp -implicitDefEqProofs [e0,gs_W0,hoS,hoN,hbg2]
   exact hK _ _ ⟨M1,(by omega),rfl,rfl⟩
  obtain rfl:=oi (ifT hbg2 hg2)
  try simp -dsimp -implicitDefEqProofs [e0,gs_W0,hoS,hoN,hbg2]
  exact hK _ _ ⟨N0+8,(by omega),rfl,rfl⟩
 rintro a σ ⟨M1,fM1_0,rfl,rfl⟩
 refine Ci H (fun H=>?_) fun H=>?_
 ·obtain⟨r3,hr3,H⟩:=bE H
  refine Sm tok [] [4] (M1+3) (by
   intro K k
   have e0:=nQ w0 N0
   simp -dsimp -implicitDefEqProofs [e0,gs_W0]
   refine(c169 (W0:=W0.set r0_ [.fsl (eL rU8 g2.2.b),.int .i64 g2.2.p]) (r0_:=r0_) (H:=hr3) (by simp[e0,gs_W0]) (by simp[e0,gs_W0])).mono ?_;rintro _ _ ⟨M2,fM2_0,rfl,rfl⟩;simp only[hpN] at fM2_0
   try simp -dsimp -implicitDefEqProofs [e0,gs_W0,hoS,hoN]
   exact k M2 (by omega)) fun M2 fM2_0=>?_
  obtain rfl:=oi H
  refine Kp [4] ?_
  have z0:=nQ w0 N0
  refine Wr ?_
  refine⟨[.agg [.int .i64 r3.1.Op,.int .i64 r3.1.N,.fsl (eL rExpr r3.1.Args)]],by simp[z0,gs_W0],(fun o=>[N0].contains o),M2,by omega,?_,?_⟩
  ·simp[eN,z0,gs_W0]
  rw[cutD (L':=[(w0,some ⟨105,2,W0.set r0_ [.fsl (eL rU8 r3.2.b),.int .i64 r3.2.p]⟩)]) (by simp[z0,gs_W0])]
  first|done|rfl|simp
 refine Wsk (Jn hK1 ?_)
 obtain⟨r4,hr4,H⟩:=bE H
 refine Sm tok [] [0,1,4,5] (M1+3) (by
  intro K k
  have e0:=nQ w0 N0
  simp -dsimp -implicitDefEqProofs [e0,gs_W0]
  refine(c126 (W0:=W0.set r0_ [.fsl (eL rU8 g2.2.b),.int .i64 g2.2.p]) (r0_:=r0_) (H:=hr4) (by simp[e0,gs_W0]) (by simp[e0,gs_W0])).mono ?_;rintro _ _ ⟨M3,fM3_0,rfl,rfl⟩;simp only[hpN] at fM3_0
  try simp -dsimp -implicitDefEqProofs [e0,gs_W0,hoS,hoN]
  exact k M3 (by omega)) fun M3 fM3_0=>?_
 obtain⟨r5,hr5,H⟩:=bE H
 refine Sm tok [] [0,1,4,5,6] (M3+6) (by
  intro K k
  have e0:=nQ w0 N0
  have e1:=nQ w0 (M3+4)
  have e2:=nQ N0 (M3+4)
  simp -dsimp -implicitDefEqProofs [e0,e1,e2,gs_W0]
  refine(hFr1 (W0:=W0.set r0_ [.fsl (eL rU8 r4.2.b),.int .i64 r4.2.p]) (r0_:=r0_) (H:=hr5) (by simp[e0,e1,e2,gs_W0]) (by simp[e0,e1,e2,gs_W0])).mono ?_;rintro _ _ ⟨M4,fM4_0,rfl,rfl⟩;simp only[hpN] at fM4_0
  try simp -dsimp -implicitDefEqProofs [e0,e1,e2,gs_W0,hoS,hoN]
  exact k M4 (by omega)) fun M4 fM4_0=>?_
 obtain⟨r6,hr6,H⟩:=bE H
 obtain⟨r7,hr7,H⟩:=bE H
 refine AWP_sy tok tokM [] [1,5,7] [0,2,3,4,1,5,6,7] [(5,[1])] [4] (fun a σ=>∃M5:Nat,M4+8≤M5∧a=[(4,.ptr N0 0 0)]∧σ=hp E0 [(w0,some ⟨105,2,W0.set r0_ [.fsl (eL rU8 r6.2.b),.int .i64 r6.2.p]⟩),(N0,some ⟨149,3,[[.int .i64 r7.Op,.int .i64 r7.N,.fsl (eL rExpr r7.Args)]]⟩),(M3+4,some ⟨149,3,[[.int .i64 r5.1.Op,.int .i64 r5.1.N,.fsl (eL rExpr r5.1.Args)]]⟩)] M5) (by decide) (fun K hK=>?_) ?_
 ·simp only[pickL,zO,zQ]
  have e0:=nQ w0 N0
  have e1:=nQ w0 (M3+4)
  have e2:=nQ N0 (M3+4)
  simp -dsimp -implicitDefEqProofs [e0,e1,e2,gs_W0]
  refine(hFr1 (W0:=W0.set r0_ [.fsl (eL rU8 r5.2.b),.int .i64 r5.2.p]) (r0_:=r0_) (H:=hr6) (by simp[e0,e1,e2,gs_W0]) (by simp[e0,e1,e2,gs_W0])).mono ?_;rintro _ _ ⟨M5,fM5_0,rfl,rfl⟩;simp only[hpN] at fM5_0
  try simp -dsimp -implicitDefEqProofs [e0,e1,e2,gs_W0,hoS,hoN]
  refine Pc.mk (c167 hr7) ?_;try simp -dsimp -implicitDefEqProofs [e0,e1,e2,gs_W0,hoS,hoN]
  exact hK _ _ ⟨M5,(by omega),rfl,rfl⟩
 rintro a σ ⟨M5,fM5_0,rfl,rfl⟩
 obtain rfl:=oi H
 refine Kp [4] ?_
 have z1:=nQ w0 N0
 have z2:=nQ w0 (M3+4)
 have z3:=nQ N0 (M3+4)
 refine gDrop Wre [(w0,some ⟨105,2,W0.set r0_ [.fsl (eL rU8 r6.2.b),.int .i64 r6.2.p]⟩),(N0,some ⟨149,3,[[.int .i64 r7.Op,.int .i64 r7.N,.fsl (eL rExpr r7.Args)]]⟩)] (zP (zP (AHeap.Sub.trans (AHeap.Sub.refl _) (zY rfl (by simp;try omega))))) ?_
 refine Wr ?_
 refine⟨[.agg [.int .i64 r7.Op,.int .i64 r7.N,.fsl (eL rExpr r7.Args)]],by simp[z1,z2,z3,gs_W0],(fun o=>[N0].contains o),M5,by omega,?_,?_⟩
 ·simp[eN,z1,z2,z3,gs_W0]
 rw[cutD (L':=[(w0,some ⟨105,2,W0.set r0_ [.fsl (eL rU8 r6.2.b),.int .i64 r6.2.p]⟩)]) (by simp[z1,z2,z3,gs_W0])]
 first|done|rfl|simp

theorem c150R:∀n:Nat,c150Q (tH n):=by
 intro n;induction n with
 |zero=>exact by intro p0 p1 r H;exact absurd H (by simp[tH])
 |succ n ih=>exact by intro p0 p1 r H;exact c150B (hFr1:=ih) H

theorem c150 {p0:gL6Rd}{p1:Int}{r:gExpr×gL6Rd}(H:vQ p0 p1=some r){σ:AHeap}{w0:Nat}{W0:List (List AV)}{r0_:Nat}(q0:σ.objs w0=some ⟨105,2,W0⟩)(g0:W0[r0_]? =some [.fsl (eL rU8 p0.b),.int .i64 p0.p]):ACalls Tryz.prog G 150 [.ptr w0 r0_ 0,.int .i64 p1] σ (fun v σ'=>∃M:Nat,σ.next≤M∧v=.agg [.int .i64 r.1.Op,.int .i64 r.1.N,.fsl (eL rExpr r.1.Args)]∧σ'=hp σ.objs [(w0,some ⟨105,2,W0.set r0_ [.fsl (eL rU8 r.2.b),.int .i64 r.2.p]⟩)] M):=by
 unfold vQ at H
 obtain⟨n,H⟩:=tR H
 exact(c150R n) H q0 g0

theorem c146 {p0:gL6Rd}{r:gStmt×gL6Rd}(H:mA p0=some r){σ:AHeap}{w0:Nat}{W0:List (List AV)}{r0_:Nat}(q0:σ.objs w0=some ⟨105,2,W0⟩)(g0:W0[r0_]? =some [.fsl (eL rU8 p0.b),.int .i64 p0.p]):ACalls Tryz.prog G 146 [.ptr w0 r0_ 0] σ (fun v σ'=>∃M:Nat,σ.next≤M∧v=.agg [.int .i64 r.1.Kind,.int .i64 r.1.Var,.int .i64 r.1.Box,.int .i64 r.1.Expr.Op,.int .i64 r.1.Expr.N,.fsl (eL rExpr r.1.Expr.Args),.fsl (eL rStmt r.1.Body),.fsl (eL rStmt r.1.Else)]∧σ'=hp σ.objs [(w0,some ⟨105,2,W0.set r0_ [.fsl (eL rU8 r.2.b),.int .i64 r.2.p]⟩)] M):=by
 refine fr1 ([(w0,some ⟨105,2,W0⟩)]) (by simp[q0]) (fun hlt=>?_) ⟨_,Tryz.func146,rfl,rfl⟩
 generalize σ.next=N0 at hlt ⊢
 have lw0:w0<N0:=hlt _ (.head _) rfl
 have gs_W0:∀x,(W0.set r0_ x)[r0_]? =some x:=gsetW g0
 rw[← kH g0]
 refine vG 4 ?_
 refine fnK tok Tryz.func146 Tryz.ntmps146 Tryz.results146 ?_
 simp only[argsA,Nat.reduceAdd,hpN]
 unfold mA at H
 refine Sx tok [] [0,2] (by
  intro K k
  have e0:=nQ w0 N0
  simp -dsimp -implicitDefEqProofs [e0,gs_W0]
  exact k) ?_
 refine gW Wre N0 0 5 ?_
 refine gW Wre N0 0 6 ?_
 refine gW Wre N0 0 7 ?_
 obtain⟨r1,hr1,H⟩:=bE H
 refine Sm tok [] [0,2,3] (N0+4) (by
  intro K k
  have e0:=nQ w0 N0
  simp -dsimp -implicitDefEqProofs [e0,gs_W0]
  refine(c41 (W0:=W0.set r0_ [.fsl (eL rU8 p0.b),.int .i64 p0.p]) (r0_:=r0_) (H:=hr1) (by simp[e0,gs_W0]) (by simp[e0,gs_W0])).mono ?_;rintro _ _ ⟨M1,fM1_0,rfl,rfl⟩;simp only[hpN] at fM1_0
  try simp -dsimp -implicitDefEqProofs [e0,gs_W0,hoS,hoN]
  exact k M1 (by omega)) fun M1 fM1_0=>?_
 obtain⟨r2,hr2,H⟩:=bE H
 obtain⟨r3,hr3,H⟩:=bE H
 refine Sm tok [] [2] (M1+8) (by
  intro K k
  have e0:=nQ w0 N0
  simp -dsimp -implicitDefEqProofs [e0,gs_W0]
  refine(c41 (W0:=W0.set r0_ [.fsl (eL rU8 r1.2.b),.int .i64 r1.2.p]) (r0_:=r0_) (H:=hr2) (by simp[e0,gs_W0]) (by simp[e0,gs_W0])).mono ?_;rintro _ _ ⟨M2,fM2_0,rfl,rfl⟩;simp only[hpN] at fM2_0
  try simp -dsimp -implicitDefEqProofs [e0,gs_W0,hoS,hoN]
  refine(c150 (W0:=W0.set r0_ [.fsl (eL rU8 r2.2.b),.int .i64 r2.2.p]) (r0_:=r0_) (H:=hr3) (by simp[e0,gs_W0,hoS,hoN]) (by simp[e0,gs_W0,hoS,hoN])).mono ?_;rintro _ _ ⟨M3,fM3_0,rfl,rfl⟩;simp only[hpN] at fM3_0
  try simp -dsimp -implicitDefEqProofs [e0,gs_W0,hoS,hoN]
  exact k M3 (by omega)) fun M3 fM3_0=>?_
 obtain rfl:=oi H
 refine Kp [2] ?_
 have z0:=nQ w0 N0
 refine Wr ?_
 refine⟨[.agg [.int .i64 1,.int .i64 r1.1,.int .i64 0,.int .i64 r3.1.Op,.int .i64 r3.1.N,.fsl (eL rExpr r3.1.Args),.fsl [],.fsl []]],by simp[z0,gs_W0],(fun o=>[N0].contains o),M3,by omega,?_,?_⟩
 ·simp[eN,z0,gs_W0]
 rw[cutD (L':=[(w0,some ⟨105,2,W0.set r0_ [.fsl (eL rU8 r3.2.b),.int .i64 r3.2.p]⟩)]) (by simp[z0,gs_W0])]
 first|done|rfl|simp

theorem c149 {p0:gL6Rd}{p1:Int}{r:gStmt×gL6Rd}(H:nM p0 p1=some r){σ:AHeap}{w0:Nat}{W0:List (List AV)}{r0_:Nat}(q0:σ.objs w0=some ⟨105,2,W0⟩)(g0:W0[r0_]? =some [.fsl (eL rU8 p0.b),.int .i64 p0.p]):ACalls Tryz.prog G 149 [.ptr w0 r0_ 0,.int .i64 p1] σ (fun v σ'=>∃M:Nat,σ.next≤M∧v=.agg [.int .i64 r.1.Kind,.int .i64 r.1.Var,.int .i64 r.1.Box,.int .i64 r.1.Expr.Op,.int .i64 r.1.Expr.N,.fsl (eL rExpr r.1.Expr.Args),.fsl (eL rStmt r.1.Body),.fsl (eL rStmt r.1.Else)]∧σ'=hp σ.objs [(w0,some ⟨105,2,W0.set r0_ [.fsl (eL rU8 r.2.b),.int .i64 r.2.p]⟩)] M):=by
 refine fr1 ([(w0,some ⟨105,2,W0⟩)]) (by simp[q0]) (fun hlt=>?_) ⟨_,Tryz.func149,rfl,rfl⟩
 generalize σ.next=N0 at hlt ⊢
 have lw0:w0<N0:=hlt _ (.head _) rfl
 have gs_W0:∀x,(W0.set r0_ x)[r0_]? =some x:=gsetW g0
 rw[← kH g0]
 refine vG 4 ?_
 refine fnK tok Tryz.func149 Tryz.ntmps149 Tryz.results149 ?_
 simp only[argsA,Nat.reduceAdd,hpN]
 unfold nM at H
 refine Sx tok [] [0,1,4] (by
  intro K k
  have e0:=nQ w0 N0
  simp -dsimp -implicitDefEqProofs [e0,gs_W0]
  exact k) ?_
 refine Wsq [0,1,4] fun K1 hK1=>?_
 refine Sx tok [] [0,1,4,7] (by
  intro K k
  have e0:=nQ w0 N0
  simp -dsimp -implicitDefEqProofs [e0,gs_W0]
  exact k) ?_
 refine Ci H (fun H=>?_) fun H=>?_
 ·refine gW Wre N0 0 5 ?_
  refine gW Wre N0 0 6 ?_
  refine gW Wre N0 0 7 ?_
  obtain⟨r1,hr1,H⟩:=bE H
  refine Sm tok [] [4] (N0+6) (by
   intro K k
   have e0:=nQ w0 N0
   simp -dsimp -implicitDefEqProofs [e0,gs_W0]
   refine(c146 (W0:=W0.set r0_ [.fsl (eL rU8 p0.b),.int .i64 p0.p]) (r0_:=r0_) (H:=hr1) (by simp[e0,gs_W0]) (by simp[e0,gs_W0])).mono ?_;rintro _ _ ⟨M1,fM1_0,rfl,rfl⟩;simp only[hpN] at fM1_0
   try simp -dsimp -implicitDefEqProofs [e0,gs_W0,hoS,hoN]
   exact k M1 (by omega)) fun M1 fM1_0=>?_
  obtain rfl:=oi H
  refine Kp [4] ?_
  have z0:=nQ w0 N0
  refine Wr ?_
  refine⟨[.agg [.int .i64 r1.1.Kind,.int .i64 r1.1.Var,.int .i64 r1.1.Box,.int .i64 r1.1.Expr.Op,.int .i64 r1.1.Expr.N,.fsl (eL rExpr r1.1.Expr.Args),.fsl (eL rStmt r1.1.Body),.fsl (eL rStmt r1.1.Else)]],by simp[z0,gs_W0],(fun o=>[N0].contains o),M1,by omega,?_,?_⟩
  ·simp[eN,z0,gs_W0]
  rw[cutD (L':=[(w0,some ⟨105,2,W0.set r0_ [.fsl (eL rU8 r1.2.b),.int .i64 r1.2.p]⟩)]) (by simp[z0,gs_W0])]
  first|done|rfl|simp
 refine Wsk (Jn hK1 ?_)
 refine gW Wre N0 0 5 ?_
 refine gW Wre N0 0 6 ?_
 refine gW Wre N0 0 7 ?_
 obtain⟨r2,hr2,H⟩:=bE H
 refine Sm tok [] [0,4,5] (N0+7) (by
  intro K k
  have e0:=nQ w0 N0
  simp -dsimp -implicitDefEqProofs [e0,gs_W0]
  refine(c41 (W0:=W0.set r0_ [.fsl (eL rU8 p0.b),.int .i64 p0.p]) (r0_:=r0_) (H:=hr2) (by simp[e0,gs_W0]) (by simp[e0,gs_W0])).mono ?_;rintro _ _ ⟨M2,fM2_0,rfl,rfl⟩;simp only[hpN] at fM2_0
  try simp -dsimp -implicitDefEqProofs [e0,gs_W0,hoS,hoN]
  exact k M2 (by omega)) fun M2 fM2_0=>?_
 refine Wsq [0,4,5] fun K2 hK2=>?_
 obtain⟨r3,hr3,H⟩:=bE H
 refine Sm tok [] [0,4,5,15] (M2+3) (by
  intro K k
  have e0:=nQ w0 N0
  simp -dsimp -implicitDefEqProofs [e0,gs_W0]
  refine(c41 (W0:=W0.set r0_ [.fsl (eL rU8 r2.2.b),.int .i64 r2.2.p]) (r0_:=r0_) (H:=hr3) (by simp[e0,gs_W0]) (by simp[e0,gs_W0])).mono ?_;rintro _ _ ⟨M3,fM3_0,rfl,rfl⟩;simp only[hpN] at fM3_0
  try simp -dsimp -implicitDefEqProofs [e0,gs_W0,hoS,hoN]
  exact k M3 (by omega)) fun M3 fM3_0=>?_
 refine Ci H (fun H=>?_) fun H=>?_
 ·obtain⟨r4,hr4,H⟩:=bE H
  obtain⟨r5,hr5,H⟩:=bE H
  refine Sm tok [] [4] (M3+8) (by
   intro K k
   have e0:=nQ w0 N0
   simp -dsimp -implicitDefEqProofs [e0,gs_W0]
   refine(c41 (W0:=W0.set r0_ [.fsl (eL rU8 r3.2.b),.int .i64 r3.2.p]) (r0_:=r0_) (H:=hr4) (by simp[e0,gs_W0]) (by simp[e0,gs_W0])).mono ?_;rintro _ _ ⟨M4,fM4_0,rfl,rfl⟩;simp only[hpN] at fM4_0
   try simp -dsimp -implicitDefEqProofs [e0,gs_W0,hoS,hoN]
   refine(c150 (W0:=W0.set r0_ [.fsl (eL rU8 r4.2.b),.int .i64 r4.2.p]) (r0_:=r0_) (H:=hr5) (by simp[e0,gs_W0,hoS,hoN]) (by simp[e0,gs_W0,hoS,hoN])).mono ?_;rintro _ _ ⟨M5,fM5_0,rfl,rfl⟩;simp only[hpN] at fM5_0
   try simp -dsimp -implicitDefEqProofs [e0,gs_W0,hoS,hoN]
   exact k M5 (by omega)) fun M5 fM5_0=>?_
  obtain rfl:=oi H
  refine Kp [4] ?_
  have z1:=nQ w0 N0
  refine Wr ?_
  refine⟨[.agg [.int .i64 4,.int .i64 0,.int .i64 r2.1,.int .i64 r5.1.Op,.int .i64 r5.1.N,.fsl (eL rExpr r5.1.Args),.fsl [],.fsl []]],by simp[z1,gs_W0],(fun o=>[N0].contains o),M5,by omega,?_,?_⟩
  ·simp[eN,z1,gs_W0]
  rw[cutD (L':=[(w0,some ⟨105,2,W0.set r0_ [.fsl (eL rU8 r5.2.b),.int .i64 r5.2.p]⟩)]) (by simp[z1,gs_W0])]
  first|done|rfl|simp
 refine Wsk (Jn hK2 ?_)
 obtain⟨r6,hr6,H⟩:=bE H
 refine Sm tok [] [4] (M3+5) (by
  intro K k
  have e0:=nQ w0 N0
  simp -dsimp -implicitDefEqProofs [e0,gs_W0]
  refine(c41 (W0:=W0.set r0_ [.fsl (eL rU8 r3.2.b),.int .i64 r3.2.p]) (r0_:=r0_) (H:=hr6) (by simp[e0,gs_W0]) (by simp[e0,gs_W0])).mono ?_;rintro _ _ ⟨M6,fM6_0,rfl,rfl⟩;simp only[hpN] at fM6_0
  try simp -dsimp -implicitDefEqProofs [e0,gs_W0,hoS,hoN]
  exact k M6 (by omega)) fun M6 fM6_0=>?_
 obtain rfl:=oi H
 refine Kp [4] ?_
 have z2:=nQ w0 N0
 refine Wr ?_
 refine⟨[.agg [.int .i64 5,.int .i64 r6.1,.int .i64 r2.1,.int .i64 0,.int .i64 0,.fsl [],.fsl [],.fsl []]],by simp[z2,gs_W0],(fun o=>[N0].contains o),M6,by omega,?_,?_⟩
 ·simp[eN,z2,gs_W0]
 rw[cutD (L':=[(w0,some ⟨105,2,W0.set r0_ [.fsl (eL rU8 r6.2.b),.int .i64 r6.2.p]⟩)]) (by simp[z2,gs_W0])]
 first|done|rfl|simp

abbrev c116Q (F:gL6Rd→Int→Int→Int→Bool→Option ((List gStmt)×gL6Rd)):Prop:=∀{p0:gL6Rd} {p1:Int} {p2:Int} {p3:Int} {p4:Bool} {r:(List gStmt)×gL6Rd} (H:F p0 p1 p2 p3 p4=some r) {σ:AHeap} {w0:Nat} {W0:List (List AV)} {r0_:Nat} (q0:σ.objs w0=some ⟨105,2,W0⟩) (g0:W0[r0_]? =some [.fsl (eL rU8 p0.b),.int .i64 p0.p]),ACalls Tryz.prog G 116 [.ptr w0 r0_ 0,.int .i64 p1,.int .i64 p2,.int .i64 p3,.bool p4] σ (fun v σ'=>∃M:Nat,σ.next≤M∧v=.fsl (eL rStmt r.1)∧σ'=hp σ.objs [(w0,some ⟨105,2,W0.set r0_ [.fsl (eL rU8 r.2.b),.int .i64 r.2.p]⟩)] M)


abbrev c147Q (F:gL6Rd→Int→Int→Bool→Option (gStmt×gL6Rd)):Prop:=∀{p0:gL6Rd} {p1:Int} {p2:Int} {p3:Bool} {r:gStmt×gL6Rd} (H:F p0 p1 p2 p3=some r) {σ:AHeap} {w0:Nat} {W0:List (List AV)} {r0_:Nat} (q0:σ.objs w0=some ⟨105,2,W0⟩) (g0:W0[r0_]? =some [.fsl (eL rU8 p0.b),.int .i64 p0.p]),ACalls Tryz.prog G 147 [.ptr w0 r0_ 0,.int .i64 p1,.int .i64 p2,.bool p3] σ (fun v σ'=>∃M:Nat,σ.next≤M∧v=.agg [.int .i64 r.1.Kind,.int .i64 r.1.Var,.int .i64 r.1.Box,.int .i64 r.1.Expr.Op,.int .i64 r.1.Expr.N,.fsl (eL rExpr r.1.Expr.Args),.fsl (eL rStmt r.1.Body),.fsl (eL rStmt r.1.Else)]∧σ'=hp σ.objs [(w0,some ⟨105,2,W0.set r0_ [.fsl (eL rU8 r.2.b),.int .i64 r.2.p]⟩)] M)


abbrev c116_oQ (F:gL6Rd→Int→Int→Int→Bool→Option ((List gStmt)×gL6Rd)):Prop:=∀{p0:gL6Rd} {p1:Int} {p2:Int} {p3:Int} {p4:Bool} {r:(List gStmt)×gL6Rd} (H:F p0 p1 p2 p3 p4=some r) {σ:AHeap} {w0:Nat} {W0:List (List AV)} {r0_:Nat} (q0:σ.objs w0=some ⟨105,2,W0⟩) (g0:W0[r0_]? =some [.fsl (eL rU8 p0.b),.int .i64 p0.p]),ACalls Tryz.prog G 116 [.ptr w0 r0_ 0,.int .i64 p1,.int .i64 p2,.int .i64 p3,.bool p4] σ (fun v σ'=>∃M n0:Nat,σ.next≤M∧σ.next≤n0∧n0<M∧v=.sl n0 0 r.1.length∧σ'=hp σ.objs [(w0,some ⟨105,2,W0.set r0_ [.fsl (eL rU8 r.2.b),.int .i64 r.2.p]⟩),(n0,some ⟨151,8,eL rStmt r.1⟩)] M)


abbrev c148Q (F:gL6Rd→Int→Int→Option ((List gStmt)×gL6Rd)):Prop:=∀{p0:gL6Rd} {p1:Int} {p2:Int} {r:(List gStmt)×gL6Rd} (H:F p0 p1 p2=some r) {σ:AHeap} {w0:Nat} {W0:List (List AV)} {r0_:Nat} (q0:σ.objs w0=some ⟨105,2,W0⟩) (g0:W0[r0_]? =some [.fsl (eL rU8 p0.b),.int .i64 p0.p]),ACalls Tryz.prog G 148 [.ptr w0 r0_ 0,.int .i64 p1,.int .i64 p2] σ (fun v σ'=>∃M:Nat,σ.next≤M∧v=.fsl (eL rStmt r.1)∧σ'=hp σ.objs [(w0,some ⟨105,2,W0.set r0_ [.fsl (eL rU8 r.2.b),.int .i64 r.2.p]⟩)] M)


abbrev c129Q (F:gL6Rd→Int→Int→Bool→Option ((List gStmt)×gL6Rd)):Prop:=∀{p0:gL6Rd} {p1:Int} {p2:Int} {p3:Bool} {r:(List gStmt)×gL6Rd} (H:F p0 p1 p2 p3=some r) {σ:AHeap} {w0:Nat} {W0:List (List AV)} {r0_:Nat} (q0:σ.objs w0=some ⟨105,2,W0⟩) (g0:W0[r0_]? =some [.fsl (eL rU8 p0.b),.int .i64 p0.p]),ACalls Tryz.prog G 129 [.ptr w0 r0_ 0,.int .i64 p1,.int .i64 p2,.bool p3] σ (fun v σ'=>∃M:Nat,σ.next≤M∧v=.fsl (eL rStmt r.1)∧σ'=hp σ.objs [(w0,some ⟨105,2,W0.set r0_ [.fsl (eL rU8 r.2.b),.int .i64 r.2.p]⟩)] M)


theorem c116B {Fr2:gL6Rd→Int→Int→Int→Bool→Option ((List gStmt)×gL6Rd)}{Fr3:gL6Rd→Int→Int→Bool→Option (gStmt×gL6Rd)}{Fr5:gL6Rd→Int→Int→Int→Bool→Option ((List gStmt)×gL6Rd)}{Fr6:gL6Rd→Int→Int→Option ((List gStmt)×gL6Rd)}{Fr4:gL6Rd→Int→Int→Bool→Option ((List gStmt)×gL6Rd)}(hFr2:c116Q Fr2)(hFr3:c147Q Fr3)(hFr5:c116_oQ Fr5)(hFr6:c148Q Fr6)(hFr4:c129Q Fr4){p0:gL6Rd}{p1:Int}{p2:Int}{p3:Int}{p4:Bool}{r:(List gStmt)×gL6Rd}(H:vP Fr2 Fr3 Fr5 Fr6 Fr4 p0 p1 p2 p3 p4=some r){σ:AHeap}{w0:Nat}{W0:List (List AV)}{r0_:Nat}(q0:σ.objs w0=some ⟨105,2,W0⟩)(g0:W0[r0_]? =some [.fsl (eL rU8 p0.b),.int .i64 p0.p]):ACalls Tryz.prog G 116 [.ptr w0 r0_ 0,.int .i64 p1,.int .i64 p2,.int .i64 p3,.bool p4] σ (fun v σ'=>∃M:Nat,σ.next≤M∧v=.fsl (eL rStmt r.1)∧σ'=hp σ.objs [(w0,some ⟨105,2,W0.set r0_ [.fsl (eL rU8 r.2.b),.int .i64 r.2.p]⟩)] M):=by
 refine fr1 ([(w0,some ⟨105,2,W0⟩)]) (by simp[q0]) (fun hlt=>?_) ⟨_,Tryz.func116,rfl,rfl⟩
 generalize σ.next=N0 at hlt ⊢
 have lw0:w0<N0:=hlt _ (.head _) rfl
 have gs_W0:∀x,(W0.set r0_ x)[r0_]? =some x:=gsetW g0
 rw[← kH g0]
 refine fnK tok Tryz.func116 Tryz.ntmps116 Tryz.results116 ?_
 simp only[argsA,Nat.reduceAdd,hpN]
 unfold vP at H
 refine Sx tok [] [0,1,2,3,4] (by intro K k;simp -dsimp -implicitDefEqProofs [gs_W0];exact k) ?_
 have q0:∀σ i,bsA T 124 true i 0 [] σ=some (.esl,σ):=fun _ _=>rfl
 refine Sx tok [0] [0,1,2,3,4,11] (by intro K k;simp -dsimp -implicitDefEqProofs [gs_W0,q0];exact k) ?_
 refine Wsq [11] fun K1 hK1=>?_
 refine Sx tok [] [0,1,2,3,4,11,12] (by intro K k;simp -dsimp -implicitDefEqProofs [gs_W0];exact k) ?_
 refine Wbl (Wth ?_)
 obtain⟨e1,hse1,H⟩:=bE H
 refine zS [0,1,2,3,4,11,12] (fun s a σ=>∃M1 o1:Nat,N0≤M1∧N0≤o1∧o1<M1∧a=[(0,.ptr w0 r0_ 0),(1,.int .i64 p1),(2,.int .i64 p2),(3,.int .i64 p3),(4,.bool p4),(11,.sl o1 0 s.2.2.length),(12,.int .i64 s.1)]∧σ=hp E0 [(w0,some ⟨105,2,W0.set r0_ [.fsl (eL rU8 s.2.1.b),.int .i64 s.2.1.p]⟩),(o1,some ⟨151,8,eL rStmt s.2.2⟩)] M1) (fun s x a σ=>x=.exit 0∧Rc G 27 N0 (fun a σ=>∃M2 o2:Nat,N0≤M2∧N0≤o2∧o2<M2∧a=[(11,.sl o2 0 s.2.length)]∧σ=hp E0 [(w0,some ⟨105,2,W0.set r0_ [.fsl (eL rU8 s.1.b),.int .i64 s.1.p]⟩),(o2,some ⟨151,8,eL rStmt s.2⟩)] M2) (AAct.keep a [11]) σ) hse1 ?_ ?_ ?_
 ·refine Rc.kp [0,1,2,3,4,11,12] [(0,.ptr w0 r0_ 0),(1,.int .i64 p1),(2,.int .i64 p2),(3,.int .i64 p3),(4,.bool p4),(11,.esl),(12,.int .i64 0)] rfl ?_
  refine gNilS zK 11 151 8 [(w0,some ⟨105,2,W0.set r0_ [.fsl (eL rU8 p0.b),.int .i64 p0.p]⟩),(N0+4,some ⟨151,8,eL rStmt ([]:List gStmt)⟩)] [(0,.ptr w0 r0_ 0),(1,.int .i64 p1),(2,.int .i64 p2),(3,.int .i64 p3),(4,.bool p4),(11,.sl (N0+4) 0 ([]:List gStmt).length),(12,.int .i64 0)] (by simp(disch:=omega)) (by simp(disch:=omega) [eN]) [0,1,2,3,4,11,12] rfl ?_
  exact Rf ⟨N0+5,(N0+4),(by omega),(by omega),(by omega),rfl,rfl⟩
 ·clear H hse1
  rintro⟨s1,s2,s3⟩ fl a σ H ⟨M1,o1,fM1_0,fM1_1,fM1_2,rfl,rfl⟩ K2 O2 hK2 hO2
  unfold uP at H;dsimp only at H
  refine Wsq [0,1,2,3,4,11,12] fun K3 hK3=>?_
  refine Sx tok [] [0,1,2,3,4,11,12,16] (by
   intro K k
   have e0:=nQ w0 o1
   simp -dsimp -implicitDefEqProofs [e0,gs_W0]
   exact k) ?_
  refine Ci H (fun H=>?_) fun H=>?_
  ·refine Wsk (Jn hK3 ?_)
   refine Wsq [0,1,2,3,4,11,12] fun K4 hK4=>?_
   refine Wbl (Wth ?_)
   obtain⟨r6,hr6,H⟩:=bE H
   obtain⟨l7,hl7,H⟩:=bE H
   refine gR tok [] [0,1,2,3,4,11,12] (fun a σ=>∃M3:Nat,M1+11≤M3∧a=[(0,.ptr w0 r0_ 0),(1,.int .i64 p1),(2,.int .i64 p2),(3,.int .i64 p3),(4,.bool p4),(11,.sl (M1+9) 0 l7.length),(12,.int .i64 s1)]∧σ=hp E0 [(w0,some ⟨105,2,W0.set r0_ [.fsl (eL rU8 r6.2.b),.int .i64 r6.2.p]⟩),(M1+9,some ⟨151,8,eL rStmt l7⟩)] M3) (fun K hK=>?_) ?_
   ·skip
    have e0:=nQ w0 o1
    have e1:=nQ w0 (M1+9)
    have e2:=nQ o1 (M1+9)
    simp -dsimp -implicitDefEqProofs [e0,e1,e2,gs_W0,sC hl7]
    refine(hFr4 (W0:=W0.set r0_ [.fsl (eL rU8 s2.b),.int .i64 s2.p]) (r0_:=r0_) (H:=hr6) (by simp[e0,e1,e2,gs_W0,sC hl7]) (by simp[e0,e1,e2,gs_W0,sC hl7])).mono ?_;rintro _ _ ⟨M3,fM3_0,rfl,rfl⟩;simp only[hpN] at fM3_0
    try simp -dsimp -implicitDefEqProofs [e0,e1,e2,gs_W0,sC hl7,hoS,hoN]
    exact hK _ _ ⟨M3,(by omega),rfl,rfl⟩
   rintro a σ ⟨M3,fM3_0,ha,rfl⟩
   refine hK4 _ _ ?_;rw[ha]
   refine Rc.mk ?_
   refine Rt tok [] [0,1,2,3,4,11,12] (by
    intro K k
    have e0:=nQ w0 (M1+9)
    simp -dsimp -implicitDefEqProofs [e0,gs_W0]
    exact k) fun a ha=>?_
   obtain rfl:=oi H
   refine hK2 _ _ _ rfl ?_;rw[ha]
   exact Rf ⟨M3+3,(M1+9),(by omega),(by omega),(by omega),rfl,rfl⟩
  obtain rfl:=oi H
  refine zJ (hO2 _ _ _ _ rfl ⟨rfl,?_⟩)
  refine Rc.rw (l:=[11]) (X:=[(11,.sl o1 0 s3.length)]) rfl ?_
  exact Rf ⟨M1+3,o1,(by omega),(by omega),(by omega),rfl,rfl⟩
 intro x a σ hx
 obtain⟨y4,y5⟩:=e1
 obtain⟨rfl,b,τ,hr,M2,o2,fM2_0,fM2_1,fM2_2,rfl,rfl⟩:=hx
 (try dsimp only at H)
 show K1 _ _
 refine hK1 _ _ (zK hr ?_)
 refine Rc.mk ?_
 refine Sx tok [] [10] (by
  intro K k
  have e0:=nQ w0 o2
  simp -dsimp -implicitDefEqProofs [e0,gs_W0]
  exact k) ?_
 obtain rfl:=oi H
 refine Kp [10] ?_
 have z0:=nQ w0 o2
 refine gFrz Wre 4 [o2] [(w0,some ⟨105,2,W0.set r0_ [.fsl (eL rU8 y4.b),.int .i64 y4.p]⟩)] [(10,.fsl (eL rStmt y5))] (by simp[z0]) (cutD (by simp[z0])) ?_
 refine Wr ?_
 refine⟨[.fsl (eL rStmt y5)],by simp[gs_W0],M2+2,by omega,?_,?_⟩
 ·simp[eN]
 first|rfl|simp

theorem c147B {Fr2:gL6Rd→Int→Int→Int→Bool→Option ((List gStmt)×gL6Rd)}{Fr3:gL6Rd→Int→Int→Bool→Option (gStmt×gL6Rd)}{Fr5:gL6Rd→Int→Int→Int→Bool→Option ((List gStmt)×gL6Rd)}{Fr6:gL6Rd→Int→Int→Option ((List gStmt)×gL6Rd)}{Fr4:gL6Rd→Int→Int→Bool→Option ((List gStmt)×gL6Rd)}(hFr2:c116Q Fr2)(hFr3:c147Q Fr3)(hFr5:c116_oQ Fr5)(hFr6:c148Q Fr6)(hFr4:c129Q Fr4){p0:gL6Rd}{p1:Int}{p2:Int}{p3:Bool}{r:gStmt×gL6Rd}(H:nN Fr2 Fr3 Fr5 Fr6 Fr4 p0 p1 p2 p3=some r){σ:AHeap}{w0:Nat}{W0:List (List AV)}{r0_:Nat}(q0:σ.objs w0=some ⟨105,2,W0⟩)(g0:W0[r0_]? =some [.fsl (eL rU8 p0.b),.int .i64 p0.p]):ACalls Tryz.prog G 147 [.ptr w0 r0_ 0,.int .i64 p1,.int .i64 p2,.bool p3] σ (fun v σ'=>∃M:Nat,σ.next≤M∧v=.agg [.int .i64 r.1.Kind,.int .i64 r.1.Var,.int .i64 r.1.Box,.int .i64 r.1.Expr.Op,.int .i64 r.1.Expr.N,.fsl (eL rExpr r.1.Expr.Args),.fsl (eL rStmt r.1.Body),.fsl (eL rStmt r.1.Else)]∧σ'=hp σ.objs [(w0,some ⟨105,2,W0.set r0_ [.fsl (eL rU8 r.2.b),.int .i64 r.2.p]⟩)] M):=by
 refine fr1 ([(w0,some ⟨105,2,W0⟩)]) (by simp[q0]) (fun hlt=>?_) ⟨_,Tryz.func147,rfl,rfl⟩
 generalize σ.next=N0 at hlt ⊢
 have lw0:w0<N0:=hlt _ (.head _) rfl
 have gs_W0:∀x,(W0.set r0_ x)[r0_]? =some x:=gsetW g0
 rw[← kH g0]
 refine vG 4 ?_
 refine fnK tok Tryz.func147 Tryz.ntmps147 Tryz.results147 ?_
 simp only[argsA,Nat.reduceAdd,hpN]
 unfold nN at H
 refine Sx tok [] [0,1,2,3,8] (by
  intro K k
  have e0:=nQ w0 N0
  simp -dsimp -implicitDefEqProofs [e0,gs_W0]
  exact k) ?_
 refine gW Wre N0 0 5 ?_
 refine gW Wre N0 0 6 ?_
 refine gW Wre N0 0 7 ?_
 obtain⟨r1,hr1,H⟩:=bE H
 obtain⟨r2,hr2,H⟩:=bE H
 refine Sm tok [] [0,1,2,3,8,9] (N0+8) (by
  intro K k
  have e0:=nQ w0 N0
  have e1:=nQ w0 (N0+6)
  simp -dsimp -implicitDefEqProofs [e0,e1,gs_W0]
  refine(c41 (W0:=W0.set r0_ [.fsl (eL rU8 p0.b),.int .i64 p0.p]) (r0_:=r0_) (H:=hr1) (by simp[e0,e1,gs_W0]) (by simp[e0,e1,gs_W0])).mono ?_;rintro _ _ ⟨M1,fM1_0,rfl,rfl⟩;simp only[hpN] at fM1_0
  try simp -dsimp -implicitDefEqProofs [e0,e1,gs_W0,hoS,hoN]
  refine(c150 (W0:=W0.set r0_ [.fsl (eL rU8 r1.2.b),.int .i64 r1.2.p]) (r0_:=r0_) (H:=hr2) (by simp[e0,e1,gs_W0,hoS,hoN]) (by simp[e0,e1,gs_W0,hoS,hoN])).mono ?_;rintro _ _ ⟨M2,fM2_0,rfl,rfl⟩;simp only[hpN] at fM2_0
  try simp -dsimp -implicitDefEqProofs [e0,e1,gs_W0,hoS,hoN]
  exact k M2 (by omega)) fun M2 fM2_0=>?_
 obtain⟨r3,hr3,H⟩:=bE H
 obtain⟨r4,hr4,H⟩:=bE H
 refine Sm tok [] [0,1,2,3,8,9,10] (M2+9) (by
  intro K k
  have e0:=nQ w0 N0
  have e1:=nQ w0 (N0+6)
  simp -dsimp -implicitDefEqProofs [e0,e1,gs_W0]
  refine(c41 (W0:=W0.set r0_ [.fsl (eL rU8 r2.2.b),.int .i64 r2.2.p]) (r0_:=r0_) (H:=hr3) (by simp[e0,e1,gs_W0]) (by simp[e0,e1,gs_W0])).mono ?_;rintro _ _ ⟨M3,fM3_0,rfl,rfl⟩;simp only[hpN] at fM3_0
  try simp -dsimp -implicitDefEqProofs [e0,e1,gs_W0,hoS,hoN]
  refine(hFr2 (W0:=W0.set r0_ [.fsl (eL rU8 r3.2.b),.int .i64 r3.2.p]) (r0_:=r0_) (H:=hr4) (by simp[e0,e1,gs_W0,hoS,hoN]) (by simp[e0,e1,gs_W0,hoS,hoN])).mono ?_;rintro _ _ ⟨M4,fM4_0,rfl,rfl⟩;simp only[hpN] at fM4_0
  try simp -dsimp -implicitDefEqProofs [e0,e1,gs_W0,hoS,hoN]
  exact k M4 (by omega)) fun M4 fM4_0=>?_
 obtain⟨r5,hr5,H⟩:=bE H
 obtain⟨r6,hr6,H⟩:=bE H
 refine AWP_sy tok tokM [] [0,7,9,11] [1,2,3,4,5,6,8,0,7,9,10,11] [(7,[0]),(9,[0])] [8] (fun a σ=>∃M5:Nat,∃M6:Nat,M4+12≤M5∧M5≤M6∧a=[(8,.ptr N0 0 0)]∧σ=hp E0 [(w0,some ⟨105,2,W0.set r0_ [.fsl (eL rU8 r6.2.b),.int .i64 r6.2.p]⟩),(N0,some ⟨151,8,[[.int .i64 2,.int .i64 0,.int .i64 0,.int .i64 r2.1.Op,.int .i64 r2.1.N,.fsl (eL rExpr r2.1.Args),.fsl (eL rStmt r4.1),.fsl (eL rStmt r6.1)]]⟩),(N0+6,some ⟨149,3,[[.int .i64 r2.1.Op,.int .i64 r2.1.N,.fsl (eL rExpr r2.1.Args)]]⟩)] M6) (by decide) (fun K hK=>?_) ?_
 ·simp only[pickL,zO,zQ]
  have e0:=nQ w0 N0
  have e1:=nQ w0 (N0+6)
  simp -dsimp -implicitDefEqProofs [e0,e1,gs_W0]
  refine(c41 (W0:=W0.set r0_ [.fsl (eL rU8 r4.2.b),.int .i64 r4.2.p]) (r0_:=r0_) (H:=hr5) (by simp[e0,e1,gs_W0]) (by simp[e0,e1,gs_W0])).mono ?_;rintro _ _ ⟨M5,fM5_0,rfl,rfl⟩;simp only[hpN] at fM5_0
  try simp -dsimp -implicitDefEqProofs [e0,e1,gs_W0,hoS,hoN]
  refine(hFr2 (W0:=W0.set r0_ [.fsl (eL rU8 r5.2.b),.int .i64 r5.2.p]) (r0_:=r0_) (H:=hr6) (by simp[e0,e1,gs_W0,hoS,hoN]) (by simp[e0,e1,gs_W0,hoS,hoN])).mono ?_;rintro _ _ ⟨M6,fM6_0,rfl,rfl⟩;simp only[hpN] at fM6_0
  try simp -dsimp -implicitDefEqProofs [e0,e1,gs_W0,hoS,hoN]
  exact hK _ _ ⟨M5,M6,(by omega),(by omega),rfl,rfl⟩
 rintro a σ ⟨M5,M6,fM5_0,fM6_0,rfl,rfl⟩
 obtain rfl:=oi H
 refine Kp [8] ?_
 have z0:=nQ w0 N0
 have z1:=nQ w0 (N0+6)
 refine gDrop Wre [(w0,some ⟨105,2,W0.set r0_ [.fsl (eL rU8 r6.2.b),.int .i64 r6.2.p]⟩),(N0,some ⟨151,8,[[.int .i64 2,.int .i64 0,.int .i64 0,.int .i64 r2.1.Op,.int .i64 r2.1.N,.fsl (eL rExpr r2.1.Args),.fsl (eL rStmt r4.1),.fsl (eL rStmt r6.1)]]⟩)] (zP (zP (AHeap.Sub.trans (AHeap.Sub.refl _) (zY rfl (by simp;try omega))))) ?_
 refine Wr ?_
 refine⟨[.agg [.int .i64 2,.int .i64 0,.int .i64 0,.int .i64 r2.1.Op,.int .i64 r2.1.N,.fsl (eL rExpr r2.1.Args),.fsl (eL rStmt r4.1),.fsl (eL rStmt r6.1)]],by simp[z0,z1,gs_W0],(fun o=>[N0].contains o),M6,by omega,?_,?_⟩
 ·simp[eN,z0,z1,gs_W0]
 rw[cutD (L':=[(w0,some ⟨105,2,W0.set r0_ [.fsl (eL rU8 r6.2.b),.int .i64 r6.2.p]⟩)]) (by simp[z0,z1,gs_W0])]
 first|done|rfl|simp

theorem c116_oB {Fr2:gL6Rd→Int→Int→Int→Bool→Option ((List gStmt)×gL6Rd)}{Fr3:gL6Rd→Int→Int→Bool→Option (gStmt×gL6Rd)}{Fr5:gL6Rd→Int→Int→Int→Bool→Option ((List gStmt)×gL6Rd)}{Fr6:gL6Rd→Int→Int→Option ((List gStmt)×gL6Rd)}{Fr4:gL6Rd→Int→Int→Bool→Option ((List gStmt)×gL6Rd)}(hFr2:c116Q Fr2)(hFr3:c147Q Fr3)(hFr5:c116_oQ Fr5)(hFr6:c148Q Fr6)(hFr4:c129Q Fr4){p0:gL6Rd}{p1:Int}{p2:Int}{p3:Int}{p4:Bool}{r:(List gStmt)×gL6Rd}(H:jM Fr2 Fr3 Fr5 Fr6 Fr4 p0 p1 p2 p3 p4=some r){σ:AHeap}{w0:Nat}{W0:List (List AV)}{r0_:Nat}(q0:σ.objs w0=some ⟨105,2,W0⟩)(g0:W0[r0_]? =some [.fsl (eL rU8 p0.b),.int .i64 p0.p]):ACalls Tryz.prog G 116 [.ptr w0 r0_ 0,.int .i64 p1,.int .i64 p2,.int .i64 p3,.bool p4] σ (fun v σ'=>∃M n0:Nat,σ.next≤M∧σ.next≤n0∧n0<M∧v=.sl n0 0 r.1.length∧σ'=hp σ.objs [(w0,some ⟨105,2,W0.set r0_ [.fsl (eL rU8 r.2.b),.int .i64 r.2.p]⟩),(n0,some ⟨151,8,eL rStmt r.1⟩)] M):=by
 refine fr2 ([(w0,some ⟨105,2,W0⟩)]) (by simp[q0]) (fun hlt=>?_) ⟨_,Tryz.func116,rfl,rfl⟩
 generalize σ.next=N0 at hlt ⊢
 have lw0:w0<N0:=hlt _ (.head _) rfl
 have gs_W0:∀x,(W0.set r0_ x)[r0_]? =some x:=gsetW g0
 rw[← kH g0]
 refine fnK tok Tryz.func116 Tryz.ntmps116 Tryz.results116 ?_
 simp only[argsA,Nat.reduceAdd,hpN]
 unfold jM at H
 refine Sx tok [] [0,1,2,3,4] (by intro K k;simp -dsimp -implicitDefEqProofs [gs_W0];exact k) ?_
 have q0:∀σ i,bsA T 124 true i 0 [] σ=some (.esl,σ):=fun _ _=>rfl
 refine Sx tok [0] [0,1,2,3,4,11] (by intro K k;simp -dsimp -implicitDefEqProofs [gs_W0,q0];exact k) ?_
 refine Wsq [11] fun K1 hK1=>?_
 refine Sx tok [] [0,1,2,3,4,11,12] (by intro K k;simp -dsimp -implicitDefEqProofs [gs_W0];exact k) ?_
 refine Wbl (Wth ?_)
 obtain⟨e1,hse1,H⟩:=bE H
 refine zS [0,1,2,3,4,11,12] (fun s a σ=>∃M1 o1:Nat,N0≤M1∧N0≤o1∧o1<M1∧a=[(0,.ptr w0 r0_ 0),(1,.int .i64 p1),(2,.int .i64 p2),(3,.int .i64 p3),(4,.bool p4),(11,.sl o1 0 s.2.2.length),(12,.int .i64 s.1)]∧σ=hp E0 [(w0,some ⟨105,2,W0.set r0_ [.fsl (eL rU8 s.2.1.b),.int .i64 s.2.1.p]⟩),(o1,some ⟨151,8,eL rStmt s.2.2⟩)] M1) (fun s x a σ=>x=.exit 0∧Rc G 27 N0 (fun a σ=>∃M2 o2:Nat,N0≤M2∧N0≤o2∧o2<M2∧a=[(11,.sl o2 0 s.2.length)]∧σ=hp E0 [(w0,some ⟨105,2,W0.set r0_ [.fsl (eL rU8 s.1.b),.int .i64 s.1.p]⟩),(o2,some ⟨151,8,eL rStmt s.2⟩)] M2) (AAct.keep a [11]) σ) hse1 ?_ ?_ ?_
 ·refine Rc.kp [0,1,2,3,4,11,12] [(0,.ptr w0 r0_ 0),(1,.int .i64 p1),(2,.int .i64 p2),(3,.int .i64 p3),(4,.bool p4),(11,.esl),(12,.int .i64 0)] rfl ?_
  refine gNilS zK 11 151 8 [(w0,some ⟨105,2,W0.set r0_ [.fsl (eL rU8 p0.b),.int .i64 p0.p]⟩),(N0+4,some ⟨151,8,eL rStmt ([]:List gStmt)⟩)] [(0,.ptr w0 r0_ 0),(1,.int .i64 p1),(2,.int .i64 p2),(3,.int .i64 p3),(4,.bool p4),(11,.sl (N0+4) 0 ([]:List gStmt).length),(12,.int .i64 0)] (by simp(disch:=omega)) (by simp(disch:=omega) [eN]) [0,1,2,3,4,11,12] rfl ?_
  exact Rf ⟨N0+5,(N0+4),(by omega),(by omega),(by omega),rfl,rfl⟩
 ·clear H hse1
  rintro⟨s1,s2,s3⟩ fl a σ H ⟨M1,o1,fM1_0,fM1_1,fM1_2,rfl,rfl⟩ K2 O2 hK2 hO2
  unfold nO at H;dsimp only at H
  refine Wsq [0,1,2,3,4,11,12] fun K3 hK3=>?_
  refine Sx tok [] [0,1,2,3,4,11,12,16] (by
   intro K k
   have e0:=nQ w0 o1
   simp -dsimp -implicitDefEqProofs [e0,gs_W0]
   exact k) ?_
  refine Ci H (fun H=>?_) fun H=>?_
  ·refine Wsk (Jn hK3 ?_)
   refine Wsq [0,1,2,3,4,11,12] fun K4 hK4=>?_
   refine Wbl (Wth ?_)
   obtain⟨r6,hr6,H⟩:=bE H
   obtain⟨l7,hl7,H⟩:=bE H
   refine gR tok [] [0,1,2,3,4,11,12] (fun a σ=>∃M3:Nat,M1+11≤M3∧a=[(0,.ptr w0 r0_ 0),(1,.int .i64 p1),(2,.int .i64 p2),(3,.int .i64 p3),(4,.bool p4),(11,.sl (M1+9) 0 l7.length),(12,.int .i64 s1)]∧σ=hp E0 [(w0,some ⟨105,2,W0.set r0_ [.fsl (eL rU8 r6.2.b),.int .i64 r6.2.p]⟩),(M1+9,some ⟨151,8,eL rStmt l7⟩)] M3) (fun K hK=>?_) ?_
   ·skip
    have e0:=nQ w0 o1
    have e1:=nQ w0 (M1+9)
    have e2:=nQ o1 (M1+9)
    simp -dsimp -implicitDefEqProofs [e0,e1,e2,gs_W0,sC hl7]
    refine(hFr4 (W0:=W0.set r0_ [.fsl (eL rU8 s2.b),.int .i64 s2.p]) (r0_:=r0_) (H:=hr6) (by simp[e0,e1,e2,gs_W0,sC hl7]) (by simp[e0,e1,e2,gs_W0,sC hl7])).mono ?_;rintro _ _ ⟨M3,fM3_0,rfl,rfl⟩;simp only[hpN] at fM3_0
    try simp -dsimp -implicitDefEqProofs [e0,e1,e2,gs_W0,sC hl7,hoS,hoN]
    exact hK _ _ ⟨M3,(by omega),rfl,rfl⟩
   rintro a σ ⟨M3,fM3_0,ha,rfl⟩
   refine hK4 _ _ ?_;rw[ha]
   refine Rc.mk ?_
   refine Rt tok [] [0,1,2,3,4,11,12] (by
    intro K k
    have e0:=nQ w0 (M1+9)
    simp -dsimp -implicitDefEqProofs [e0,gs_W0]
    exact k) fun a ha=>?_
   obtain rfl:=oi H
   refine hK2 _ _ _ rfl ?_;rw[ha]
   exact Rf ⟨M3+3,(M1+9),(by omega),(by omega),(by omega),rfl,rfl⟩
  obtain rfl:=oi H
  refine zJ (hO2 _ _ _ _ rfl ⟨rfl,?_⟩)
  refine Rc.rw (l:=[11]) (X:=[(11,.sl o1 0 s3.length)]) rfl ?_
  exact Rf ⟨M1+3,o1,(by omega),(by omega),(by omega),rfl,rfl⟩
 intro x a σ hx
 obtain⟨y4,y5⟩:=e1
 obtain⟨rfl,b,τ,hr,M2,o2,fM2_0,fM2_1,fM2_2,rfl,rfl⟩:=hx
 (try dsimp only at H)
 show K1 _ _
 refine hK1 _ _ (zK hr ?_)
 refine Rc.mk ?_
 refine Sx tok [] [10] (by
  intro K k
  have e0:=nQ w0 o2
  simp -dsimp -implicitDefEqProofs [e0,gs_W0]
  exact k) ?_
 obtain rfl:=oi H
 refine Kp [10] ?_
 have z0:=nQ w0 o2
 refine Wr ?_
 refine⟨[.sl o2 0 y5.length],by simp[z0,gs_W0],M2+2,o2,by omega,by omega,by omega,?_,?_⟩
 ·simp[eN]
 first|rfl|simp

theorem c148B {Fr2:gL6Rd→Int→Int→Int→Bool→Option ((List gStmt)×gL6Rd)}{Fr3:gL6Rd→Int→Int→Bool→Option (gStmt×gL6Rd)}{Fr5:gL6Rd→Int→Int→Int→Bool→Option ((List gStmt)×gL6Rd)}{Fr6:gL6Rd→Int→Int→Option ((List gStmt)×gL6Rd)}{Fr4:gL6Rd→Int→Int→Bool→Option ((List gStmt)×gL6Rd)}(hFr2:c116Q Fr2)(hFr3:c147Q Fr3)(hFr5:c116_oQ Fr5)(hFr6:c148Q Fr6)(hFr4:c129Q Fr4){p0:gL6Rd}{p1:Int}{p2:Int}{r:(List gStmt)×gL6Rd}(H:tG Fr2 Fr3 Fr5 Fr6 Fr4 p0 p1 p2=some r){σ:AHeap}{w0:Nat}{W0:List (List AV)}{r0_:Nat}(q0:σ.objs w0=some ⟨105,2,W0⟩)(g0:W0[r0_]? =some [.fsl (eL rU8 p0.b),.int .i64 p0.p]):ACalls Tryz.prog G 148 [.ptr w0 r0_ 0,.int .i64 p1,.int .i64 p2] σ (fun v σ'=>∃M:Nat,σ.next≤M∧v=.fsl (eL rStmt r.1)∧σ'=hp σ.objs [(w0,some ⟨105,2,W0.set r0_ [.fsl (eL rU8 r.2.b),.int .i64 r.2.p]⟩)] M):=by
 refine fr1 ([(w0,some ⟨105,2,W0⟩)]) (by simp[q0]) (fun hlt=>?_) ⟨_,Tryz.func148,rfl,rfl⟩
 generalize σ.next=N0 at hlt ⊢
 have lw0:w0<N0:=hlt _ (.head _) rfl
 have gs_W0:∀x,(W0.set r0_ x)[r0_]? =some x:=gsetW g0
 rw[← kH g0]
 refine fnK tok Tryz.func148 Tryz.ntmps148 Tryz.results148 ?_
 simp only[argsA,Nat.reduceAdd,hpN]
 unfold tG at H
 refine Sx tok [] [0,1,2] (by intro K k;simp -dsimp -implicitDefEqProofs [gs_W0];exact k) ?_
 refine Sx tok [] [0,1,2,7] (by intro K k;simp -dsimp -implicitDefEqProofs [gs_W0];exact k) ?_
 obtain⟨r1,hr1,H⟩:=bE H
 obtain⟨r2,hr2,H⟩:=bE H
 refine jV tok [] [0,7,8] (fun a σ=>∃M1:Nat,∃M2 o1:Nat,N0+10≤M1∧M1≤M2∧M1≤o1∧o1<M2∧a=[(0,.ptr w0 r0_ 0),(7,.int .i64 3),(8,.sl o1 0 r2.1.length)]∧σ=hp E0 [(w0,some ⟨105,2,W0.set r0_ [.fsl (eL rU8 r2.2.b),.int .i64 r2.2.p]⟩),(o1,some ⟨151,8,eL rStmt r2.1⟩)] M2) (fun K hK=>?_) ?_
 ·skip
  simp -dsimp -implicitDefEqProofs [gs_W0]
  refine(c41 (W0:=W0.set r0_ [.fsl (eL rU8 p0.b),.int .i64 p0.p]) (r0_:=r0_) (H:=hr1) (by simp[gs_W0]) (by simp[gs_W0])).mono ?_;rintro _ _ ⟨M1,fM1_0,rfl,rfl⟩;simp only[hpN] at fM1_0
  try simp -dsimp -implicitDefEqProofs [gs_W0,hoS,hoN]
  refine(hFr5 (W0:=W0.set r0_ [.fsl (eL rU8 r1.2.b),.int .i64 r1.2.p]) (r0_:=r0_) (H:=hr2) (by simp[gs_W0,hoS,hoN]) (by simp[gs_W0,hoS,hoN])).mono ?_;rintro _ _ ⟨M2,o1,fM2_0,fM2_1,fM2_2,rfl,rfl⟩;simp only[hpN] at fM2_0 fM2_1 fM2_2
  have eM2_0:=nQ o1 w0
  try simp -dsimp -implicitDefEqProofs [gs_W0,hoS,hoN,eM2_0]
  exact hK _ _ ⟨M1,M2,o1,(by omega),(by omega),(by omega),(by omega),rfl,rfl⟩
 rintro a σ ⟨M1,M2,o1,fM1_0,fM2_0,fM2_1,fM2_2,rfl,rfl⟩
 obtain⟨r3,hr3,H⟩:=bE H
 obtain⟨r4,hr4,H⟩:=bE H
 obtain⟨r5,hr5,H⟩:=bE H
 refine Sx tok [] [0,7,8,9] (by
  intro K k
  have e0:=nQ w0 o1
  have e1:=nQ w0 (M2+6)
  have e2:=nQ o1 (M2+6)
  repeat first|simp -dsimp -implicitDefEqProofs [e0,e1,e2,gs_W0]|refine(c168 hr3).app ?_|refine(c168 hr4).app ?_|refine(c167 hr5).app ?_
  exact k) ?_
 have z0:=nQ w0 o1
 have z1:=nQ w0 (M2+6)
 have z2:=nQ o1 (M2+6)
 refine gFrz Wre 4 [M2+6] [(w0,some ⟨105,2,W0.set r0_ [.fsl (eL rU8 r2.2.b),.int .i64 r2.2.p]⟩),(o1,some ⟨151,8,eL rStmt r2.1⟩)] [(0,.ptr w0 r0_ 0),(7,.int .i64 3),(8,.sl o1 0 r2.1.length),(9,.fptr [.int .i64 1,.int .i64 3,.int .i64 0,.int .i64 r5.Op,.int .i64 r5.N,.fsl (eL rExpr r5.Args),.fsl [],.fsl []] 0)] (by simp[z0,z1,z2]) (cutD (by simp[z0,z1,z2])) ?_
 obtain⟨r6,hr6,H⟩:=bE H
 obtain⟨r7,hr7,H⟩:=bE H
 obtain⟨r8,hr8,H⟩:=bE H
 obtain⟨l9,hl9,H⟩:=bE H
 have q0:∀σ i,bsA T 124 true i 1 [(0,.agg [.int .i64 1,.int .i64 3,.int .i64 0,.int .i64 r5.Op,.int .i64 r5.N,.fsl (eL rExpr r5.Args),.fsl [],.fsl []])] σ=some (.fsl (eL rStmt ([(⟨1,3,0,r5,([]:List gStmt),([]:List gStmt)⟩:gStmt)]:List gStmt)),σ):=by intro _ _;simp only[eL,List.map_cons,List.map_nil,jW];rfl
 refine AWP_syC tok tokM [9] [3,10,12,13] [0,1,2,7,8,9,3,4,5,6,10,11,12,13] [] [7,10] (fun a σ=>∃M3:Nat,M2+22≤M3∧a=[(7,.int .i64 3),(10,.ptr (M2+20) 0 0)]∧σ=hp E0 [(w0,some ⟨105,2,W0.set r0_ [.fsl (eL rU8 r6.2.b),.int .i64 r6.2.p]⟩),(M2+18,some ⟨151,8,eL rStmt l9⟩),(M2+20,some ⟨151,8,[[.int .i64 3,.int .i64 0,.int .i64 0,.int .i64 r8.Op,.int .i64 r8.N,.fsl (eL rExpr r8.Args),.sl (M2+18) 0 l9.length,.fsl []]]⟩)] M3) (by decide) (by kernel_rfl) (fun K hK=>?_) ?_
 ·simp only[pickL,zO,zQ]
  have e0:=nQ w0 o1
  have e1:=nQ w0 (M2+18)
  have e2:=nQ w0 (M2+20)
  have e3:=nQ o1 (M2+18)
  have e4:=nQ o1 (M2+20)
  simp -dsimp -implicitDefEqProofs [e0,e1,e2,e3,e4,gs_W0,q0,sC hl9]
  refine Pc.mk (c168 hr3) ?_;try simp -dsimp -implicitDefEqProofs [e0,e1,e2,e3,e4,gs_W0,q0,sC hl9]
  refine(c41 (W0:=W0.set r0_ [.fsl (eL rU8 r2.2.b),.int .i64 r2.2.p]) (r0_:=r0_) (H:=hr6) (by simp[e0,e1,e2,e3,e4,gs_W0,q0,sC hl9]) (by simp[e0,e1,e2,e3,e4,gs_W0,q0,sC hl9])).mono ?_;rintro _ _ ⟨M3,fM3_0,rfl,rfl⟩;simp only[hpN] at fM3_0
  try simp -dsimp -implicitDefEqProofs [e0,e1,e2,e3,e4,gs_W0,q0,sC hl9,hoS,hoN]
  refine Pc.mk (c168 hr7) ?_;try simp -dsimp -implicitDefEqProofs [e0,e1,e2,e3,e4,gs_W0,q0,sC hl9,hoS,hoN]
  refine Pc.mk (c167 hr8) ?_;try simp -dsimp -implicitDefEqProofs [e0,e1,e2,e3,e4,gs_W0,q0,sC hl9,hoS,hoN]
  exact hK _ _ ⟨M3,(by omega),rfl,rfl⟩
 rintro a σ ⟨M3,fM3_0,rfl,rfl⟩
 refine gP Wre (M2+20) 0 6 ?_
 refine gU Wre (M2+20) 0 6 ?_
 have z3:=nQ w0 (M2+20)
 have z4:=nQ w0 M3
 have z5:=nQ (M2+20) M3
 refine gFrz Wre 4 [M3,M2+20] [(w0,some ⟨105,2,W0.set r0_ [.fsl (eL rU8 r6.2.b),.int .i64 r6.2.p]⟩)] [(7,.int .i64 3),(10,.fptr [.int .i64 3,.int .i64 0,.int .i64 0,.int .i64 r8.Op,.int .i64 r8.N,.fsl (eL rExpr r8.Args),.fsl (eL rStmt l9),.fsl []] 0)] (by simp[z3,z4,z5]) (cutD (by simp[z3,z4,z5])) ?_
 obtain⟨r12,hr12,H⟩:=bE H
 have q1:∀σ i,bsA T 124 true i 2 [(0,.agg [.int .i64 1,.int .i64 3,.int .i64 0,.int .i64 r12.Op,.int .i64 r12.N,.fsl (eL rExpr r12.Args),.fsl [],.fsl []]),(1,.agg [.int .i64 3,.int .i64 0,.int .i64 0,.int .i64 r8.Op,.int .i64 r8.N,.fsl (eL rExpr r8.Args),.fsl (eL rStmt l9),.fsl []])] σ=some (.fsl (eL rStmt ([(⟨1,3,0,r12,([]:List gStmt),([]:List gStmt)⟩:gStmt),(⟨3,0,0,r8,l9,([]:List gStmt)⟩:gStmt)]:List gStmt)),σ):=by intro _ _;simp only[eL,List.map_cons,List.map_nil,jW];rfl
 refine Sd tok tokM [4] [] [0,1,2,3,4,5] [6] (by
  intro K k
  simp only[pickL,zO,zQ]
  repeat first|simp -dsimp -implicitDefEqProofs [gs_W0,q1]|refine Pc.mk (c168 hr12) ?_
  exact k) ?_
 obtain rfl:=oi H
 refine Kp [6] ?_
 refine Wr ?_
 refine⟨[.fsl (eL rStmt ([(⟨1,3,0,r12,([]:List gStmt),([]:List gStmt)⟩:gStmt),(⟨3,0,0,r8,l9,([]:List gStmt)⟩:gStmt)]:List gStmt))],by simp[gs_W0],M3+7,by omega,?_,?_⟩
 ·simp[eN]
 first|rfl|simp

theorem c129B {Fr2:gL6Rd→Int→Int→Int→Bool→Option ((List gStmt)×gL6Rd)}{Fr3:gL6Rd→Int→Int→Bool→Option (gStmt×gL6Rd)}{Fr5:gL6Rd→Int→Int→Int→Bool→Option ((List gStmt)×gL6Rd)}{Fr6:gL6Rd→Int→Int→Option ((List gStmt)×gL6Rd)}{Fr4:gL6Rd→Int→Int→Bool→Option ((List gStmt)×gL6Rd)}(hFr2:c116Q Fr2)(hFr3:c147Q Fr3)(hFr5:c116_oQ Fr5)(hFr6:c148Q Fr6)(hFr4:c129Q Fr4){p0:gL6Rd}{p1:Int}{p2:Int}{p3:Bool}{r:(List gStmt)×gL6Rd}(H:tF Fr2 Fr3 Fr5 Fr6 Fr4 p0 p1 p2 p3=some r){σ:AHeap}{w0:Nat}{W0:List (List AV)}{r0_:Nat}(q0:σ.objs w0=some ⟨105,2,W0⟩)(g0:W0[r0_]? =some [.fsl (eL rU8 p0.b),.int .i64 p0.p]):ACalls Tryz.prog G 129 [.ptr w0 r0_ 0,.int .i64 p1,.int .i64 p2,.bool p3] σ (fun v σ'=>∃M:Nat,σ.next≤M∧v=.fsl (eL rStmt r.1)∧σ'=hp σ.objs [(w0,some ⟨105,2,W0.set r0_ [.fsl (eL rU8 r.2.b),.int .i64 r.2.p]⟩)] M):=by
 refine fr1 ([(w0,some ⟨105,2,W0⟩)]) (by simp[q0]) (fun hlt=>?_) ⟨_,Tryz.func129,rfl,rfl⟩
 generalize σ.next=N0 at hlt ⊢
 have lw0:w0<N0:=hlt _ (.head _) rfl
 have gs_W0:∀x,(W0.set r0_ x)[r0_]? =some x:=gsetW g0
 rw[← kH g0]
 refine fnK tok Tryz.func129 Tryz.ntmps129 Tryz.results129 ?_
 simp only[argsA,Nat.reduceAdd,hpN]
 unfold tF at H
 refine Sx tok [] [0,1,2,3] (by intro K k;simp -dsimp -implicitDefEqProofs [gs_W0];exact k) ?_
 obtain⟨flj1,hflj1,H⟩:=bE H
 refine kR (kQ fun K1 hK1=>?_)
 have hJ1:∀(j1:gL6Rd) a σ,flj1=.next j1→Rc G 57 N0 (fun a σ=>∃M1:Nat,N0≤M1∧a=[(0,.ptr w0 r0_ 0)]∧σ=hp E0 [(w0,some ⟨105,2,W0.set r0_ [.fsl (eL rU8 j1.b),.int .i64 j1.p]⟩)] M1) (AAct.keep a [0]) σ→K1 a σ:=by
  rintro j1 a σ hfl ⟨b,τ,hr,M1,fM1_0,rfl,rfl⟩
  subst hfl;dsimp only at H
  refine hK1 _ _ (kI [0] (Wre hr ?_))
  obtain⟨r2,hr2,H⟩:=bE H
  obtain⟨r3,hr3,H⟩:=bE H
  have q0:∀σ i,bsA T 124 true i 1 [(0,.agg [.int .i64 7,.int .i64 0,.int .i64 0,.int .i64 r3.1.Op,.int .i64 r3.1.N,.fsl (eL rExpr r3.1.Args),.fsl [],.fsl []])] σ=some (.fsl (eL rStmt ([(⟨7,0,0,r3.1,([]:List gStmt),([]:List gStmt)⟩:gStmt)]:List gStmt)),σ):=by intro _ _;simp only[eL,List.map_cons,List.map_nil,jW];rfl
  refine Sm tok [6] [8] (M1+8) (by
   intro K k
   simp -dsimp -implicitDefEqProofs [gs_W0,q0]
   refine(c41 (W0:=W0.set r0_ [.fsl (eL rU8 j1.b),.int .i64 j1.p]) (r0_:=r0_) (H:=hr2) (by simp[gs_W0,q0]) (by simp[gs_W0,q0])).mono ?_;rintro _ _ ⟨M2,fM2_0,rfl,rfl⟩;simp only[hpN] at fM2_0
   try simp -dsimp -implicitDefEqProofs [gs_W0,q0,hoS,hoN]
   refine(c150 (W0:=W0.set r0_ [.fsl (eL rU8 r2.2.b),.int .i64 r2.2.p]) (r0_:=r0_) (H:=hr3) (by simp[gs_W0,q0,hoS,hoN]) (by simp[gs_W0,q0,hoS,hoN])).mono ?_;rintro _ _ ⟨M3,fM3_0,rfl,rfl⟩;simp only[hpN] at fM3_0
   try simp -dsimp -implicitDefEqProofs [gs_W0,q0,hoS,hoN]
   exact k M3 (by omega)) fun M3 fM3_0=>?_
  obtain rfl:=oi H
  refine Kp [8] ?_
  refine Wr ?_
  refine⟨[.fsl (eL rStmt ([(⟨7,0,0,r3.1,([]:List gStmt),([]:List gStmt)⟩:gStmt)]:List gStmt))],by simp[gs_W0],M3,by omega,?_,?_⟩
  ·simp[eN]
  first|rfl|simp
 have Gj1:=H;replace H:=hflj1
 obtain⟨r4,hr4,H⟩:=bE H
 refine Sm tok [] [0,1,2,3,10] (N0+3) (by
  intro K k
  simp -dsimp -implicitDefEqProofs [gs_W0]
  refine(c41 (W0:=W0.set r0_ [.fsl (eL rU8 p0.b),.int .i64 p0.p]) (r0_:=r0_) (H:=hr4) (by simp[gs_W0]) (by simp[gs_W0])).mono ?_;rintro _ _ ⟨M4,fM4_0,rfl,rfl⟩;simp only[hpN] at fM4_0
  try simp -dsimp -implicitDefEqProofs [gs_W0,hoS,hoN]
  exact k M4 (by omega)) fun M4 fM4_0=>?_
 refine Wbl (Wth ?_)
 obtain⟨j2,hj2,H⟩:=bE H
 refine kR (kQ fun K3 hK3=>?_)
 have hJ2:∀a σ,Rc G 57 N0 (fun a σ=>∃M5:Nat,N0≤M5∧a=[(0,.ptr w0 r0_ 0),(1,.int .i64 p1),(2,.int .i64 p2),(3,.bool p3),(10,.int .i64 r4.1),(11,.bool j2)]∧σ=hp E0 [(w0,some ⟨105,2,W0.set r0_ [.fsl (eL rU8 r4.2.b),.int .i64 r4.2.p]⟩)] M5) (a.keep [0,1,2,3,10,11]) σ→K3 a σ:=by
  rintro a σ ⟨b,τ,hr,M5,fM5_0,rfl,rfl⟩
  refine hK3 _ _ (kI [0,1,2,3,10,11] (Wre hr ?_))
  refine Ci H (fun H=>?_) fun H=>?_
  ·obtain⟨r6,hr6,H⟩:=bE H
   have q1:∀σ i,bsA T 124 true i 1 [(0,.agg [.int .i64 r6.1.Kind,.int .i64 r6.1.Var,.int .i64 r6.1.Box,.int .i64 r6.1.Expr.Op,.int .i64 r6.1.Expr.N,.fsl (eL rExpr r6.1.Expr.Args),.fsl (eL rStmt r6.1.Body),.fsl (eL rStmt r6.1.Else)])] σ=some (.fsl (eL rStmt ([r6.1]:List gStmt)),σ):=by intro _ _;simp only[eL,List.map_cons,List.map_nil,jW];rfl
   refine Sm tok [2] [8] (M5+4) (by
    intro K k
    simp -dsimp -implicitDefEqProofs [gs_W0,q1]
    refine(c146 (W0:=W0.set r0_ [.fsl (eL rU8 r4.2.b),.int .i64 r4.2.p]) (r0_:=r0_) (H:=hr6) (by simp[gs_W0,q1]) (by simp[gs_W0,q1])).mono ?_;rintro _ _ ⟨M6,fM6_0,rfl,rfl⟩;simp only[hpN] at fM6_0
    try simp -dsimp -implicitDefEqProofs [gs_W0,q1,hoS,hoN]
    exact k M6 (by omega)) fun M6 fM6_0=>?_
   obtain⟨z,hz,H⟩:=bE H
   obtain rfl:=oi H;dsimp only at Gj1;obtain rfl:=oi Gj1;have H:=hz
   obtain rfl:=oi H
   refine Kp [8] ?_
   refine Wr ?_
   refine⟨[.fsl (eL rStmt ([r6.1]:List gStmt))],by simp[gs_W0],M6,by omega,?_,?_⟩
   ·simp[eN]
   first|rfl|simp
  refine Sx tok [] [0,1,2,3,10,17] (by intro K k;simp -dsimp -implicitDefEqProofs [gs_W0];exact k) ?_
  refine Ci H (fun H=>?_) fun H=>?_
  ·refine Sx tok [] [0,1,2,3,20] (by intro K k;simp -dsimp -implicitDefEqProofs [gs_W0];exact k) ?_
   refine Ci H (fun H=>?_) fun H=>?_
   ·obtain⟨r7,hr7,H⟩:=bE H
    have q2:∀σ i,bsA T 124 true i 1 [(0,.agg [.int .i64 r7.1.Kind,.int .i64 r7.1.Var,.int .i64 r7.1.Box,.int .i64 r7.1.Expr.Op,.int .i64 r7.1.Expr.N,.fsl (eL rExpr r7.1.Expr.Args),.fsl (eL rStmt r7.1.Body),.fsl (eL rStmt r7.1.Else)])] σ=some (.fsl (eL rStmt ([r7.1]:List gStmt)),σ):=by intro _ _;simp only[eL,List.map_cons,List.map_nil,jW];rfl
    refine Sm tok [5] [8] (M5+11) (by
     intro K k
     simp -dsimp -implicitDefEqProofs [gs_W0,q2]
     refine(hFr3 (W0:=W0.set r0_ [.fsl (eL rU8 r4.2.b),.int .i64 r4.2.p]) (r0_:=r0_) (H:=hr7) (by simp[gs_W0,q2]) (by simp[gs_W0,q2])).mono ?_;rintro _ _ ⟨M7,fM7_0,rfl,rfl⟩;simp only[hpN] at fM7_0
     try simp -dsimp -implicitDefEqProofs [gs_W0,q2,hoS,hoN]
     exact k M7 (by omega)) fun M7 fM7_0=>?_
    obtain⟨z,hz,H⟩:=bE H
    obtain rfl:=oi H;dsimp only at Gj1;obtain rfl:=oi Gj1;have H:=hz
    obtain rfl:=oi H
    refine Kp [8] ?_
    refine Wr ?_
    refine⟨[.fsl (eL rStmt ([r7.1]:List gStmt))],by simp[gs_W0],M7,by omega,?_,?_⟩
    ·simp[eN]
    first|rfl|simp
   refine Wsk ?_
   show K1 _ _
   refine kE [0] fun a' ha=>?_
   replace H:=oi H
   refine hJ1 _ _ _ H.symm ?_;rw[ha]
   exact Rf ⟨M5+4,(by omega),rfl,rfl⟩
  refine Sx tok [] [0,1,2,3,10,27] (by intro K k;simp -dsimp -implicitDefEqProofs [gs_W0];exact k) ?_
  refine Ci H (fun H=>?_) fun H=>?_
  ·obtain⟨g8,hg8,H⟩:=bE H
   refine Sx tok [] [0,1,2,33] (X:=[(0,.ptr w0 r0_ 0),(1,.int .i64 p1),(2,.int .i64 p2),(33,.bool g8)]) (Y:=hp E0 [(w0,some ⟨105,2,W0.set r0_ [.fsl (eL rU8 r4.2.b),.int .i64 r4.2.p]⟩)] (M5+9)) (by
    intro K k
    simp -dsimp -implicitDefEqProofs [gs_W0]
    cases hbg8:igt p2 0
    ·obtain rfl:=oi (ifF hbg8 hg8)
     try simp -dsimp -implicitDefEqProofs [gs_W0,hbg8]
     exact k
    obtain rfl:=oi (ifT hbg8 hg8)
    try simp -dsimp -implicitDefEqProofs [gs_W0,hbg8]
    exact k) ?_
   refine Ci H (fun H=>?_) fun H=>?_
   ·obtain⟨r9,hr9,H⟩:=bE H
    refine Sm tok [] [8] (M5+14) (by
     intro K k
     simp -dsimp -implicitDefEqProofs [gs_W0]
     refine(hFr6 (W0:=W0.set r0_ [.fsl (eL rU8 r4.2.b),.int .i64 r4.2.p]) (r0_:=r0_) (H:=hr9) (by simp[gs_W0]) (by simp[gs_W0])).mono ?_;rintro _ _ ⟨M8,fM8_0,rfl,rfl⟩;simp only[hpN] at fM8_0
     try simp -dsimp -implicitDefEqProofs [gs_W0,hoS,hoN]
     exact k M8 (by omega)) fun M8 fM8_0=>?_
    obtain⟨z,hz,H⟩:=bE H
    obtain rfl:=oi H;dsimp only at Gj1;obtain rfl:=oi Gj1;have H:=hz
    obtain rfl:=oi H
    refine Kp [8] ?_
    refine Wr ?_
    refine⟨[.fsl (eL rStmt r9.1)],by simp[gs_W0],M8,by omega,?_,?_⟩
    ·simp[eN]
    first|rfl|simp
   refine Wsk ?_
   show K1 _ _
   refine kE [0] fun a' ha=>?_
   replace H:=oi H
   refine hJ1 _ _ _ H.symm ?_;rw[ha]
   exact Rf ⟨M5+9,(by omega),rfl,rfl⟩
  obtain⟨j3,hj3,H⟩:=bE H
  refine kR (kQ fun K2 hK2=>?_)
  have hJ3:∀a σ,Rc G 57 N0 (fun a σ=>∃M9:Nat,N0≤M9∧a=[(0,.ptr w0 r0_ 0),(1,.int .i64 p1),(10,.int .i64 r4.1),(38,.bool j3)]∧σ=hp E0 [(w0,some ⟨105,2,W0.set r0_ [.fsl (eL rU8 r4.2.b),.int .i64 r4.2.p]⟩)] M9) (a.keep [0,1,10,38]) σ→K2 a σ:=by
   rintro a σ ⟨b,τ,hr,M9,fM9_0,rfl,rfl⟩
   refine hK2 _ _ (kI [0,1,10,38] (Wre hr ?_))
   refine Ci H (fun H=>?_) fun H=>?_
   ·obtain⟨r11,hr11,H⟩:=bE H
    have q3:∀σ i,bsA T 124 true i 1 [(0,.agg [.int .i64 r11.1.Kind,.int .i64 r11.1.Var,.int .i64 r11.1.Box,.int .i64 r11.1.Expr.Op,.int .i64 r11.1.Expr.N,.fsl (eL rExpr r11.1.Expr.Args),.fsl (eL rStmt r11.1.Body),.fsl (eL rStmt r11.1.Else)])] σ=some (.fsl (eL rStmt ([r11.1]:List gStmt)),σ):=by intro _ _;simp only[eL,List.map_cons,List.map_nil,jW];rfl
    refine Sm tok [3] [8] (M9+5) (by
     intro K k
     simp -dsimp -implicitDefEqProofs [gs_W0,q3]
     refine(c149 (W0:=W0.set r0_ [.fsl (eL rU8 r4.2.b),.int .i64 r4.2.p]) (r0_:=r0_) (H:=hr11) (by simp[gs_W0,q3]) (by simp[gs_W0,q3])).mono ?_;rintro _ _ ⟨M10,fM10_0,rfl,rfl⟩;simp only[hpN] at fM10_0
     try simp -dsimp -implicitDefEqProofs [gs_W0,q3,hoS,hoN]
     exact k M10 (by omega)) fun M10 fM10_0=>?_
    obtain⟨z,hz,H⟩:=bE H
    obtain rfl:=oi H;dsimp only at Gj1;obtain rfl:=oi Gj1;have H:=hz
    obtain rfl:=oi H
    refine Kp [8] ?_
    refine Wr ?_
    refine⟨[.fsl (eL rStmt ([r11.1]:List gStmt))],by simp[gs_W0],M10,by omega,?_,?_⟩
    ·simp[eN]
    first|rfl|simp
   refine Sx tok [] [0,46] (by intro K k;simp -dsimp -implicitDefEqProofs [gs_W0];exact k) ?_
   refine Ci H (fun H=>?_) fun H=>?_
   ·have q4:∀σ i,bsA T 124 true i 1 [(0,.agg [.int .i64 6,.int .i64 0,.int .i64 0,.int .i64 0,.int .i64 0,.fsl [],.fsl [],.fsl []])] σ=some (.fsl (eL rStmt ([(⟨6,0,0,(⟨0,0,([]:List gExpr)⟩:gExpr),([]:List gStmt),([]:List gStmt)⟩:gStmt)]:List gStmt)),σ):=by intro _ _;simp only[eL,List.map_cons,List.map_nil,jW];rfl
    refine Sx tok [1] [8] (by intro K k;simp -dsimp -implicitDefEqProofs [gs_W0,q4];exact k) ?_
    obtain⟨z,hz,H⟩:=bE H
    obtain rfl:=oi H;dsimp only at Gj1;obtain rfl:=oi Gj1;have H:=hz
    obtain rfl:=oi H
    refine Kp [8] ?_
    refine Wr ?_
    refine⟨[.fsl (eL rStmt ([(⟨6,0,0,(⟨0,0,([]:List gExpr)⟩:gExpr),([]:List gStmt),([]:List gStmt)⟩:gStmt)]:List gStmt))],by simp[gs_W0],M9+5,by omega,?_,?_⟩
    ·simp[eN]
    first|rfl|simp
   refine Wsk ?_
   show K1 _ _
   refine kE [0] fun a' ha=>?_
   replace H:=oi H
   refine hJ1 _ _ _ H.symm ?_;rw[ha]
   exact Rf ⟨M9+2,(by omega),rfl,rfl⟩
  replace H:=hj3
  refine Sx tok [] [0,1,10,38] (by intro K k;simp -dsimp -implicitDefEqProofs [gs_W0];exact k) ?_
  refine Ci H (fun H=>?_) fun H=>?_
  ·refine Wsk ?_
   show K2 _ _
   refine kE [0,1,10,38] fun a' ha=>?_
   obtain rfl:=oi H
   refine hJ3 _ _ ?_;rw[ha]
   exact Rf ⟨M5+6,(by omega),rfl,rfl⟩
  refine Sx tok [] [0,1,10,38] (by intro K k;simp -dsimp -implicitDefEqProofs [gs_W0];exact k) ?_
  refine Ci H (fun H=>?_) fun H=>?_
  ·refine Wsk ?_
   show K2 _ _
   refine kE [0,1,10,38] fun a' ha=>?_
   obtain rfl:=oi H
   refine hJ3 _ _ ?_;rw[ha]
   exact Rf ⟨M5+8,(by omega),rfl,rfl⟩
  refine Rt tok [] [0,1,10,38] (by intro K k;simp -dsimp -implicitDefEqProofs [gs_W0];exact k) fun a ha=>?_
  obtain rfl:=oi H
  refine hJ3 _ _ ?_;rw[ha]
  exact Rf ⟨M5+10,(by omega),rfl,rfl⟩
 replace H:=hj2
 refine Sx tok [] [0,1,2,3,10,11] (by intro K k;simp -dsimp -implicitDefEqProofs [gs_W0];exact k) ?_
 refine Ci H (fun H=>?_) fun H=>?_
 ·refine Wsk ?_
  show K3 _ _
  refine kE [0,1,2,3,10,11] fun a' ha=>?_
  obtain rfl:=oi H
  refine hJ2 _ _ ?_;rw[ha]
  exact Rf ⟨M4+2,(by omega),rfl,rfl⟩
 refine Rt tok [] [0,1,2,3,10,11] (by intro K k;simp -dsimp -implicitDefEqProofs [gs_W0];exact k) fun a ha=>?_
 obtain rfl:=oi H
 refine hJ2 _ _ ?_;rw[ha]
 exact Rf ⟨M4+4,(by omega),rfl,rfl⟩

theorem c116R:∀n:Nat,c116Q ((zB n).1)∧c147Q ((zB n).2.1)∧c116_oQ ((zB n).2.2.1)∧c148Q ((zB n).2.2.2.1)∧c129Q ((zB n).2.2.2.2):=by
 intro n;induction n with
 |zero=>exact⟨by intro p0 p1 p2 p3 p4 r H;exact absurd H (by simp[zB]),by intro p0 p1 p2 p3 r H;exact absurd H (by simp[zB]),by intro p0 p1 p2 p3 p4 r H;exact absurd H (by simp[zB]),by intro p0 p1 p2 r H;exact absurd H (by simp[zB]),by intro p0 p1 p2 p3 r H;exact absurd H (by simp[zB])⟩
 |succ n ih=>exact⟨by intro p0 p1 p2 p3 p4 r H;exact c116B (hFr2:=ih.1) (hFr3:=ih.2.1) (hFr5:=ih.2.2.1) (hFr6:=ih.2.2.2.1) (hFr4:=ih.2.2.2.2) H,by intro p0 p1 p2 p3 r H;exact c147B (hFr2:=ih.1) (hFr3:=ih.2.1) (hFr5:=ih.2.2.1) (hFr6:=ih.2.2.2.1) (hFr4:=ih.2.2.2.2) H,by intro p0 p1 p2 p3 p4 r H;exact c116_oB (hFr2:=ih.1) (hFr3:=ih.2.1) (hFr5:=ih.2.2.1) (hFr6:=ih.2.2.2.1) (hFr4:=ih.2.2.2.2) H,by intro p0 p1 p2 r H;exact c148B (hFr2:=ih.1) (hFr3:=ih.2.1) (hFr5:=ih.2.2.1) (hFr6:=ih.2.2.2.1) (hFr4:=ih.2.2.2.2) H,by intro p0 p1 p2 p3 r H;exact c129B (hFr2:=ih.1) (hFr3:=ih.2.1) (hFr5:=ih.2.2.1) (hFr6:=ih.2.2.2.1) (hFr4:=ih.2.2.2.2) H⟩

theorem c116 {p0:gL6Rd}{p1:Int}{p2:Int}{p3:Int}{p4:Bool}{r:(List gStmt)×gL6Rd}(H:fA p0 p1 p2 p3 p4=some r){σ:AHeap}{w0:Nat}{W0:List (List AV)}{r0_:Nat}(q0:σ.objs w0=some ⟨105,2,W0⟩)(g0:W0[r0_]? =some [.fsl (eL rU8 p0.b),.int .i64 p0.p]):ACalls Tryz.prog G 116 [.ptr w0 r0_ 0,.int .i64 p1,.int .i64 p2,.int .i64 p3,.bool p4] σ (fun v σ'=>∃M:Nat,σ.next≤M∧v=.fsl (eL rStmt r.1)∧σ'=hp σ.objs [(w0,some ⟨105,2,W0.set r0_ [.fsl (eL rU8 r.2.b),.int .i64 r.2.p]⟩)] M):=by
 unfold fA at H
 obtain⟨n,H⟩:=tR H
 exact(c116R n).1 H q0 g0

abbrev c117Q (F:(List gStmt)→Option (Int)):Prop:=∀{p0:List gStmt} {r:Int} (H:F p0=some r),APure Tryz.prog G 117 [.fsl (eL rStmt p0)] (.int .i64 r)


theorem c117B {Fr7:(List gStmt)→Option (Int)}(hFr7:c117Q Fr7){p0:List gStmt}{r:Int}(H:jB Fr7 p0=some r):APure Tryz.prog G 117 [.fsl (eL rStmt p0)] (.int .i64 r):=by
 refine zE (fun N0=>?_) (by simp)
 refine fnK tok Tryz.func117 Tryz.ntmps117 Tryz.results117 ?_
 simp only[argsA,Nat.reduceAdd,hpN]
 unfold jB at H
 refine S0 tok [] [0] ?_
 refine S0 tok [] [0,3] ?_
 refine Wsq [3] fun K1 hK1=>?_
 refine S0 tok [] [0,3,4] ?_
 refine Wbl (Wth ?_)
 obtain⟨e1,hse1,H⟩:=bE H
 refine zS [0,3,4] (fun s a σ=>∃M1:Nat,N0≤M1∧a=[(0,.fsl (eL rStmt p0)),(3,.int .i64 s.1),(4,.int .i64 s.2)]∧σ=hp E0 [] M1) (fun s x a σ=>x=.exit 0∧Rc G 28 N0 (fun a σ=>∃M2:Nat,N0≤M2∧a=[(3,.int .i64 s)]∧σ=hp E0 [] M2) (AAct.keep a [3]) σ) hse1 ?_ ?_ ?_
 ·refine Rc.kp [0,3,4] [(0,.fsl (eL rStmt p0)),(3,.int .i64 0),(4,.int .i64 0)] rfl ?_
  exact Rf ⟨N0+3,(by omega),rfl,rfl⟩
 ·clear H hse1
  rintro⟨s1,s2⟩ fl a σ H ⟨M1,fM1_0,rfl,rfl⟩ K2 O2 hK2 hO2
  unfold uQ at H;dsimp only at H
  refine Wsq [0,3,4] fun K3 hK3=>?_
  refine S0 tok [] [0,3,4,8] ?_
  refine Ci H (fun H=>?_) fun H=>?_
  ·refine Wsk (Jn hK3 ?_)
   refine Wsq [0,3,4] fun K4 hK4=>?_
   refine Wbl (Wth ?_)
   obtain⟨v4,hv4,H⟩:=bE H
   obtain⟨r5,hr5,H⟩:=bE H
   obtain⟨r6,hr6,H⟩:=bE H
   refine mQ tok tokM [] [] [0,1,2,3,4,5,6,7,8,9,10,11,12,13,14,15,16] [0,3,4] (fun a σ=>a=[(0,.fsl (eL rStmt p0)),(3,.int .i64 (iadd .i64 (iadd .i64 (iadd .i64 s1 1) r5) r6)),(4,.int .i64 s2)]∧σ=hp E0 [] (M1+21)) (by decide) (fun K hK=>?_) ?_
   ·simp only[pickL,zO,zQ]
    simp -dsimp -implicitDefEqProofs [ix124 hv4]
    refine Pc.mk (hFr7 hr5) ?_;try simp -dsimp -implicitDefEqProofs [ix124 hv4]
    refine Pc.mk (hFr7 hr6) ?_;try simp -dsimp -implicitDefEqProofs [ix124 hv4]
    exact hK _ _ ⟨rfl,rfl⟩
   rintro a σ ⟨ha,rfl⟩
   refine hK4 _ _ ?_;rw[ha]
   refine Rc.mk ?_
   refine Rt0 tok [] [0,3,4] fun a ha=>?_
   obtain rfl:=oi H
   refine hK2 _ _ _ rfl ?_;rw[ha]
   exact Rf ⟨M1+24,(by omega),rfl,rfl⟩
  obtain rfl:=oi H
  refine zJ (hO2 _ _ _ _ rfl ⟨rfl,?_⟩)
  refine Rc.rw (l:=[3]) (X:=[(3,.int .i64 s1)]) rfl ?_
  exact Rf ⟨M1+4,(by omega),rfl,rfl⟩
 intro x a σ hx
 obtain⟨y3,rfl⟩:∃x,x=e1:=⟨_,rfl⟩
 obtain⟨rfl,b,τ,hr,M2,fM2_0,rfl,rfl⟩:=hx
 (try dsimp only at H)
 show K1 _ _
 refine hK1 _ _ (zK hr ?_)
 refine Rc.mk ?_
 refine S0 tok [] [2] ?_
 obtain rfl:=oi H;exact Wr ⟨_,rfl,4,by simp[eN]⟩

theorem c117R:∀n:Nat,c117Q (kX n):=by
 intro n;induction n with
 |zero=>exact by intro p0 r H;exact absurd H (by simp[kX])
 |succ n ih=>exact by intro p0 r H;exact c117B (hFr7:=ih) H

theorem c117 {p0:List gStmt}{r:Int}(H:jI p0=some r):APure Tryz.prog G 117 [.fsl (eL rStmt p0)] (.int .i64 r):=by
 unfold jI at H
 obtain⟨n,H⟩:=tR H
 exact(c117R n) H

theorem c100 {p0:gL6Rd}{p1:Int}{r:(List gStmt)×gL6Rd}(H:sW p0 p1=some r){σ:AHeap}{w0:Nat}{W0:List (List AV)}{r0_:Nat}(q0:σ.objs w0=some ⟨105,2,W0⟩)(g0:W0[r0_]? =some [.fsl (eL rU8 p0.b),.int .i64 p0.p]):ACalls Tryz.prog G 100 [.ptr w0 r0_ 0,.int .i64 p1] σ (fun v σ'=>∃M:Nat,σ.next≤M∧v=.fsl (eL rStmt r.1)∧σ'=hp σ.objs [(w0,some ⟨105,2,W0.set r0_ [.fsl (eL rU8 r.2.b),.int .i64 r.2.p]⟩)] M):=by
 refine fr1 ([(w0,some ⟨105,2,W0⟩)]) (by simp[q0]) (fun hlt=>?_) ⟨_,Tryz.func100,rfl,rfl⟩
 generalize σ.next=N0 at hlt ⊢
 have lw0:w0<N0:=hlt _ (.head _) rfl
 have gs_W0:∀x,(W0.set r0_ x)[r0_]? =some x:=gsetW g0
 rw[← kH g0]
 refine fnK tok Tryz.func100 Tryz.ntmps100 Tryz.results100 ?_
 simp only[argsA,Nat.reduceAdd,hpN]
 unfold sW at H
 refine Sx tok [] [0,1] (by intro K k;simp -dsimp -implicitDefEqProofs [gs_W0];exact k) ?_
 obtain⟨r1,hr1,H⟩:=bE H
 obtain⟨r2,hr2,H⟩:=bE H
 refine Sm tok [] [5] (N0+8) (by
  intro K k
  simp -dsimp -implicitDefEqProofs [gs_W0]
  refine(c41 (W0:=W0.set r0_ [.fsl (eL rU8 p0.b),.int .i64 p0.p]) (r0_:=r0_) (H:=hr1) (by simp[gs_W0]) (by simp[gs_W0])).mono ?_;rintro _ _ ⟨M1,fM1_0,rfl,rfl⟩;simp only[hpN] at fM1_0
  try simp -dsimp -implicitDefEqProofs [gs_W0,hoS,hoN]
  refine(c116 (W0:=W0.set r0_ [.fsl (eL rU8 r1.2.b),.int .i64 r1.2.p]) (r0_:=r0_) (H:=hr2) (by simp[gs_W0,hoS,hoN]) (by simp[gs_W0,hoS,hoN])).mono ?_;rintro _ _ ⟨M2,fM2_0,rfl,rfl⟩;simp only[hpN] at fM2_0
  try simp -dsimp -implicitDefEqProofs [gs_W0,hoS,hoN]
  exact k M2 (by omega)) fun M2 fM2_0=>?_
 refine Wsq [5] fun K1 hK1=>?_
 refine Wbl (Wth ?_)
 obtain⟨e1,hse1,H⟩:=bE H
 refine zS [5] (fun s a σ=>∃M3:Nat,N0≤M3∧a=[(5,.fsl (eL rStmt s.1))]∧σ=hp E0 [(w0,some ⟨105,2,W0.set r0_ [.fsl (eL rU8 s.2.b),.int .i64 s.2.p]⟩)] M3) (fun s x a σ=>x=.exit 0∧Rc G 21 N0 (fun a σ=>∃M4:Nat,N0≤M4∧a=[(5,.fsl (eL rStmt s.1))]∧σ=hp E0 [(w0,some ⟨105,2,W0.set r0_ [.fsl (eL rU8 s.2.b),.int .i64 s.2.p]⟩)] M4) (AAct.keep a [5]) σ) hse1 ?_ ?_ ?_
 ·refine Rc.kp [5] [(5,.fsl (eL rStmt r2.1))] rfl ?_
  exact Rf ⟨M2,(by omega),rfl,rfl⟩
 ·clear H hse1
  rintro⟨s3,s4⟩ fl a σ H ⟨M3,fM3_0,rfl,rfl⟩ K2 O2 hK2 hO2
  unfold pH at H;dsimp only at H
  refine Wsq [5] fun K3 hK3=>?_
  obtain⟨r7,hr7,H⟩:=bE H
  refine Sx tok [] [5,14] (by intro K k;(repeat first|simp -dsimp -implicitDefEqProofs [gs_W0]|refine(c117 hr7).app ?_);exact k) ?_
  refine Ci H (fun H=>?_) fun H=>?_
  ·refine Wsk (Jn hK3 ?_)
   refine Wbl (Wth ?_)
   obtain⟨l8,hl8,H⟩:=bE H
   refine Rt tok [] [5] (by intro K k;simp -dsimp -implicitDefEqProofs [gs_W0,cuth_124 hl8];exact k) fun a ha=>?_
   obtain rfl:=oi H
   refine hK2 _ _ _ rfl ?_;rw[ha]
   exact Rf ⟨M3+9,(by omega),rfl,rfl⟩
  obtain rfl:=oi H
  refine zJ (hO2 _ _ _ _ rfl ⟨rfl,?_⟩)
  refine Rc.rw (l:=[5]) (X:=[(5,.fsl (eL rStmt s3))]) rfl ?_
  exact Rf ⟨M3+3,(by omega),rfl,rfl⟩
 intro x a σ hx
 obtain⟨y5,y6⟩:=e1
 obtain⟨rfl,b,τ,hr,M4,fM4_0,rfl,rfl⟩:=hx
 (try dsimp only at H)
 show K1 _ _
 refine hK1 _ _ (zK hr ?_)
 refine Rc.mk ?_
 refine Sx tok [] [4] (by intro K k;simp -dsimp -implicitDefEqProofs [gs_W0];exact k) ?_
 obtain rfl:=oi H
 refine Kp [4] ?_
 refine Wr ?_
 refine⟨[.fsl (eL rStmt y5)],by simp[gs_W0],M4+2,by omega,?_,?_⟩
 ·simp[eN]
 first|rfl|simp

theorem c66 {p0:Int}{p1:Int}{p2:Int}{r:Bool}(H:yC p0 p1 p2=some r):APure Tryz.prog G 66 [.int .i64 p0,.int .i64 p1,.int .i64 p2] (.bool r):=by
 refine zE (fun N0=>?_) (by simp)
 refine fnK tok Tryz.func66 Tryz.ntmps66 Tryz.results66 ?_
 simp only[argsA,Nat.reduceAdd,hpN]
 unfold yC at H
 refine S0 tok [] [0,1,2] ?_
 obtain⟨g1,hg1,H⟩:=bE H
 refine Sx tok [] [6] (X:=[(6,.bool g1)]) (Y:=hp E0 [] (N0+10)) (by
  intro K k
  simp -dsimp -implicitDefEqProofs
  cases hbg1:ige p0 p1
  ·obtain rfl:=oi (ifF hbg1 hg1)
   try simp -dsimp -implicitDefEqProofs [hbg1]
   exact k
  obtain rfl:=oi (ifT hbg1 hg1)
  try simp -dsimp -implicitDefEqProofs [hbg1]
  exact k) ?_
 obtain rfl:=oi H;exact Wr ⟨_,rfl,4,by simp[eN]⟩

theorem c164 {p0:gStmt}{p1:Bool}{r:Bool}(H:yO p0 p1=some r):APure Tryz.prog G 164 [.agg [.int .i64 p0.Kind,.int .i64 p0.Var,.int .i64 p0.Box,.int .i64 p0.Expr.Op,.int .i64 p0.Expr.N,.fsl (eL rExpr p0.Expr.Args),.fsl (eL rStmt p0.Body),.fsl (eL rStmt p0.Else)],.bool p1] (.bool r):=by
 refine zE (fun N0=>?_) (by simp)
 refine fnK tok Tryz.func164 Tryz.ntmps164 Tryz.results164 ?_
 simp only[argsA,Nat.reduceAdd,hpN]
 unfold yO at H
 refine S0 tok [0] [1,2] ?_
 refine Wsq [2] fun K1 hK1=>?_
 refine S0 tok [] [2,5] ?_
 refine Ci H (fun H=>?_) fun H=>?_
 ·obtain⟨r1,hr1,H⟩:=bE H
  refine Sx tok [] [4] (by intro K k;(repeat first|simp -dsimp -implicitDefEqProofs|refine(c66 hr1).app ?_);exact k) ?_
  obtain rfl:=oi H;exact Wr ⟨_,rfl,4,by simp[eN]⟩
 refine Wsk (Jn hK1 ?_)
 refine S0 tok [] [4] ?_
 obtain rfl:=oi H;exact Wr ⟨_,rfl,4,by simp[eN]⟩

theorem c165 {p0:gStmt}{p1:Bool}{r:Bool}(H:yP p0 p1=some r):APure Tryz.prog G 165 [.agg [.int .i64 p0.Kind,.int .i64 p0.Var,.int .i64 p0.Box,.int .i64 p0.Expr.Op,.int .i64 p0.Expr.N,.fsl (eL rExpr p0.Expr.Args),.fsl (eL rStmt p0.Body),.fsl (eL rStmt p0.Else)],.bool p1] (.bool r):=by
 refine zE (fun N0=>?_) (by simp)
 refine fnK tok Tryz.func165 Tryz.ntmps165 Tryz.results165 ?_
 simp only[argsA,Nat.reduceAdd,hpN]
 unfold yP at H
 refine S0 tok [0] [1,2] ?_
 refine Wsq [2] fun K1 hK1=>?_
 refine S0 tok [] [2,5] ?_
 refine Ci H (fun H=>?_) fun H=>?_
 ·obtain⟨r1,hr1,H⟩:=bE H
  refine Sx tok [] [4] (by intro K k;(repeat first|simp -dsimp -implicitDefEqProofs|refine(c66 hr1).app ?_);exact k) ?_
  obtain rfl:=oi H;exact Wr ⟨_,rfl,4,by simp[eN]⟩
 refine Wsk (Jn hK1 ?_)
 refine S0 tok [] [4] ?_
 obtain rfl:=oi H;exact Wr ⟨_,rfl,4,by simp[eN]⟩

theorem c136 {p0:Int}{r:Bool}(H:xV p0=some r):APure Tryz.prog G 136 [.int .i64 p0] (.bool r):=by
 refine zE (fun N0=>?_) (by simp)
 refine fnK tok Tryz.func136 Tryz.ntmps136 Tryz.results136 ?_
 simp only[argsA,Nat.reduceAdd,hpN]
 unfold xV at H
 refine S0 tok [] [0] ?_
 obtain⟨r1,hr1,H⟩:=bE H
 refine Sx tok [] [2] (by intro K k;(repeat first|simp -dsimp -implicitDefEqProofs|refine(c66 hr1).app ?_);exact k) ?_
 obtain rfl:=oi H;exact Wr ⟨_,rfl,4,by simp[eN]⟩

abbrev c179Q (F:gExpr→Int→Option (Bool)):Prop:=∀{p0:gExpr} {p1:Int} {r:Bool} (H:F p0 p1=some r),APure Tryz.prog G 179 [.agg [.int .i64 p0.Op,.int .i64 p0.N,.fsl (eL rExpr p0.Args)],.int .i64 p1] (.bool r)


theorem c179B {Fr8:gExpr→Int→Option (Bool)}(hFr8:c179Q Fr8){p0:gExpr}{p1:Int}{r:Bool}(H:hY Fr8 p0 p1=some r):APure Tryz.prog G 179 [.agg [.int .i64 p0.Op,.int .i64 p0.N,.fsl (eL rExpr p0.Args)],.int .i64 p1] (.bool r):=by
 refine zE (fun N0=>?_) (by simp)
 refine fnK tok Tryz.func179 Tryz.ntmps179 Tryz.results179 ?_
 simp only[argsA,Nat.reduceAdd,hpN]
 unfold hY at H
 refine S0 tok [0] [1,2] ?_
 refine Wsq [1,2] fun K1 hK1=>?_
 refine S0 tok [] [1,2,6] ?_
 refine Ci H (fun H=>?_) fun H=>?_
 ·refine S0 tok [] [4] ?_
  obtain rfl:=oi H;exact Wr ⟨_,rfl,4,by simp[eN]⟩
 refine Wsk (Jn hK1 ?_)
 refine Wsq [1,2] fun K2 hK2=>?_
 refine S0 tok [] [1,2,9] ?_
 refine Ci H (fun H=>?_) fun H=>?_
 ·obtain⟨r1,hr1,H⟩:=bE H
  obtain⟨g2,hg2,H⟩:=bE H
  refine Sx tok [] [4] (X:=[(4,.bool g2)]) (Y:=hp E0 [] (N0+17)) (by
   intro K k
   simp -dsimp -implicitDefEqProofs
   refine(c66 hr1).app ?_;try simp -dsimp -implicitDefEqProofs
   cases hbg2:r1
   ·obtain rfl:=oi (ifF hbg2 hg2)
    try simp -dsimp -implicitDefEqProofs [hbg2]
    exact k
   obtain rfl:=oi (ifT hbg2 hg2)
   try simp -dsimp -implicitDefEqProofs [hbg2]
   exact k) ?_
  obtain rfl:=oi H;exact Wr ⟨_,rfl,4,by simp[eN]⟩
 refine Wsk (Jn hK2 ?_)
 refine Wsq [1,2] fun K3 hK3=>?_
 refine S0 tok [] [1,2,21] ?_
 refine Ci H (fun H=>?_) fun H=>?_
 ·obtain⟨r3,hr3,H⟩:=bE H
  obtain⟨g4,hg4,H⟩:=bE H
  refine Sx tok [] [4] (X:=[(4,.bool g4)]) (Y:=hp E0 [] (N0+20)) (by
   intro K k
   simp -dsimp -implicitDefEqProofs
   refine(c66 hr3).app ?_;try simp -dsimp -implicitDefEqProofs
   cases hbg4:r3
   ·obtain rfl:=oi (ifF hbg4 hg4)
    try simp -dsimp -implicitDefEqProofs [hbg4]
    exact k
   obtain rfl:=oi (ifT hbg4 hg4)
   try simp -dsimp -implicitDefEqProofs [hbg4]
   exact k) ?_
  obtain rfl:=oi H;exact Wr ⟨_,rfl,4,by simp[eN]⟩
 refine Wsk (Jn hK3 ?_)
 obtain⟨r5,hr5,H⟩:=bE H
 obtain⟨g6,hg6,H⟩:=bE H
 obtain⟨g7,hg7,H⟩:=bE H
 obtain⟨g10,hg10,H⟩:=bE H
 obtain⟨g13,hg13,H⟩:=bE H
 refine Sx tok [] [4] (X:=[(4,.bool g13)]) (Y:=hp E0 [] (N0+43)) (by
  intro K k
  simp -dsimp -implicitDefEqProofs
  refine(c136 hr5).app ?_;try simp -dsimp -implicitDefEqProofs
  cases hbg6:r5
  ·obtain rfl:=oi (ifF hbg6 hg6)
   obtain rfl:=oi (ifF rfl hg7)
   obtain rfl:=oi (ifF rfl hg10)
   obtain rfl:=oi (ifF rfl hg13)
   try simp -dsimp -implicitDefEqProofs [hbg6]
   exact k
  obtain rfl:=oi (ifT hbg6 hg6)
  try simp -dsimp -implicitDefEqProofs [hbg6]
  cases hbg7:(ieq p0.N 0)
  ·obtain rfl:=oi (ifF hbg7 hg7)
   obtain rfl:=oi (ifF rfl hg10)
   obtain rfl:=oi (ifF rfl hg13)
   try simp -dsimp -implicitDefEqProofs [hbg6,hbg7]
   exact k
  obtain rfl:=oi (ifT hbg7 hg7)
  try simp -dsimp -implicitDefEqProofs [hbg6,hbg7]
  cases hbg10:(ieq (ilen p0.Args) 2)
  ·obtain rfl:=oi (ifF hbg10 hg10)
   obtain rfl:=oi (ifF rfl hg13)
   try simp -dsimp -implicitDefEqProofs [hbg6,hbg7,hbg10]
   exact k
  replace hg10:=ifT hbg10 hg10
  obtain⟨v8,hv8,hg10⟩:=bE hg10
  obtain⟨r9,hr9,hg10⟩:=bE hg10
  obtain rfl:=oi hg10
  try simp -dsimp -implicitDefEqProofs [hbg6,hbg7,hbg10,ix147 hv8]
  refine(hFr8 hr9).app ?_;try simp -dsimp -implicitDefEqProofs [hbg6,hbg7,hbg10,ix147 hv8]
  cases hbg13:r9
  ·obtain rfl:=oi (ifF hbg13 hg13)
   try simp -dsimp -implicitDefEqProofs [hbg6,hbg7,hbg10,ix147 hv8,hbg13]
   exact k
  replace hg13:=ifT hbg13 hg13
  obtain⟨v11,hv11,hg13⟩:=bE hg13
  obtain⟨r12,hr12,hg13⟩:=bE hg13
  obtain rfl:=oi hg13
  try simp -dsimp -implicitDefEqProofs [hbg6,hbg7,hbg10,ix147 hv8,hbg13,ix147 hv11]
  refine(hFr8 hr12).app ?_;try simp -dsimp -implicitDefEqProofs [hbg6,hbg7,hbg10,ix147 hv8,hbg13,ix147 hv11]
  exact k) ?_
 obtain rfl:=oi H;exact Wr ⟨_,rfl,4,by simp[eN]⟩

theorem c179R:∀n:Nat,c179Q (mB n):=by
 intro n;induction n with
 |zero=>exact by intro p0 p1 r H;exact absurd H (by simp[mB])
 |succ n ih=>exact by intro p0 p1 r H;exact c179B (hFr8:=ih) H

theorem c179 {p0:gExpr}{p1:Int}{r:Bool}(H:s_l4Ok p0 p1=some r):APure Tryz.prog G 179 [.agg [.int .i64 p0.Op,.int .i64 p0.N,.fsl (eL rExpr p0.Args)],.int .i64 p1] (.bool r):=by
 unfold s_l4Ok at H
 obtain⟨n,H⟩:=tR H
 exact(c179R n) H

theorem c166 {p0:gExpr}{r:Bool}(H:jC p0=some r):APure Tryz.prog G 166 [.agg [.int .i64 p0.Op,.int .i64 p0.N,.fsl (eL rExpr p0.Args)]] (.bool r):=by
 refine zE (fun N0=>?_) (by simp)
 refine fnK tok Tryz.func166 Tryz.ntmps166 Tryz.results166 ?_
 simp only[argsA,Nat.reduceAdd,hpN]
 unfold jC at H
 refine S0 tok [0] [1] ?_
 obtain⟨r1,hr1,H⟩:=bE H
 refine Sx tok [] [2] (by intro K k;(repeat first|simp -dsimp -implicitDefEqProofs|refine(c179 hr1).app ?_);exact k) ?_
 obtain rfl:=oi H;exact Wr ⟨_,rfl,4,by simp[eN]⟩

theorem c178 {p0:gExpr}{r:Bool}(H:jH p0=some r):APure Tryz.prog G 178 [.agg [.int .i64 p0.Op,.int .i64 p0.N,.fsl (eL rExpr p0.Args)]] (.bool r):=by
 refine zE (fun N0=>?_) (by simp)
 refine fnK tok Tryz.func178 Tryz.ntmps178 Tryz.results178 ?_
 simp only[argsA,Nat.reduceAdd,hpN]
 unfold jH at H
 refine S0 tok [0] [1] ?_
 obtain⟨g1,hg1,H⟩:=bE H
 obtain⟨g2,hg2,H⟩:=bE H
 refine Sx tok [] [2] (X:=[(2,.bool g2)]) (Y:=hp E0 [] (N0+17)) (by
  intro K k
  simp -dsimp -implicitDefEqProofs
  cases hbg1:ieq p0.Op 0
  ·obtain rfl:=oi (ifF hbg1 hg1)
   obtain rfl:=oi (ifF rfl hg2)
   try simp -dsimp -implicitDefEqProofs [hbg1]
   exact k
  obtain rfl:=oi (ifT hbg1 hg1)
  try simp -dsimp -implicitDefEqProofs [hbg1]
  cases hbg2:(ieq p0.N 0)
  ·obtain rfl:=oi (ifF hbg2 hg2)
   try simp -dsimp -implicitDefEqProofs [hbg1,hbg2]
   exact k
  obtain rfl:=oi (ifT hbg2 hg2)
  try simp -dsimp -implicitDefEqProofs [hbg1,hbg2]
  exact k) ?_
 obtain rfl:=oi H;exact Wr ⟨_,rfl,4,by simp[eN]⟩

theorem c163 {p0:gStmt}{r:Bool}(H:jA p0=some r):APure Tryz.prog G 163 [.agg [.int .i64 p0.Kind,.int .i64 p0.Var,.int .i64 p0.Box,.int .i64 p0.Expr.Op,.int .i64 p0.Expr.N,.fsl (eL rExpr p0.Expr.Args),.fsl (eL rStmt p0.Body),.fsl (eL rStmt p0.Else)]] (.bool r):=by
 refine zE (fun N0=>?_) (by simp)
 refine fnK tok Tryz.func163 Tryz.ntmps163 Tryz.results163 ?_
 simp only[argsA,Nat.reduceAdd,hpN]
 unfold jA at H
 refine S0 tok [0] [1] ?_
 refine Wsq [1] fun K1 hK1=>?_
 obtain⟨g1,hg1,H⟩:=bE H
 refine Sx tok [] [1,12] (X:=[(1,.fptr [.int .i64 p0.Kind,.int .i64 p0.Var,.int .i64 p0.Box,.int .i64 p0.Expr.Op,.int .i64 p0.Expr.N,.fsl (eL rExpr p0.Expr.Args),.fsl (eL rStmt p0.Body),.fsl (eL rStmt p0.Else)] 0),(12,.bool g1)]) (Y:=hp E0 [] (N0+12)) (by
  intro K k
  simp -dsimp -implicitDefEqProofs
  cases hbg1:igt (ilen p0.Body) 0
  ·obtain rfl:=oi (ifF hbg1 hg1)
   try simp -dsimp -implicitDefEqProofs [hbg1]
   exact k
  obtain rfl:=oi (ifT hbg1 hg1)
  try simp -dsimp -implicitDefEqProofs [hbg1]
  exact k) ?_
 refine Ci H (fun H=>?_) fun H=>?_
 ·refine S0 tok [] [2] ?_
  obtain rfl:=oi H;exact Wr ⟨_,rfl,4,by simp[eN]⟩
 refine Wsk (Jn hK1 ?_)
 refine Wsq [] fun K2 hK2=>?_
 refine S0 tok [] [1,14] ?_
 refine Wbl (Wth ?_)
 refine S0 tok [] [1,14,15] ?_
 refine Ci H (fun H=>?_) fun H=>?_
 ·obtain⟨r2,hr2,H⟩:=bE H
  obtain⟨g4,hg4,H⟩:=bE H
  obtain⟨g6,hg6,H⟩:=bE H
  refine Sx tok [] [2] (X:=[(2,.bool g6)]) (Y:=hp E0 [] (N0+28)) (by
   intro K k
   simp -dsimp -implicitDefEqProofs
   refine(c164 hr2).app ?_;try simp -dsimp -implicitDefEqProofs
   cases hbg4:r2
   ·obtain rfl:=oi (ifF hbg4 hg4)
    obtain rfl:=oi (ifF rfl hg6)
    try simp -dsimp -implicitDefEqProofs [hbg4]
    exact k
   replace hg4:=ifT hbg4 hg4
   obtain⟨r3,hr3,hg4⟩:=bE hg4
   obtain rfl:=oi hg4
   try simp -dsimp -implicitDefEqProofs [hbg4]
   refine(c165 hr3).app ?_;try simp -dsimp -implicitDefEqProofs [hbg4]
   cases hbg6:r3
   ·obtain rfl:=oi (ifF hbg6 hg6)
    try simp -dsimp -implicitDefEqProofs [hbg4,hbg6]
    exact k
   replace hg6:=ifT hbg6 hg6
   obtain⟨r5,hr5,hg6⟩:=bE hg6
   obtain rfl:=oi hg6
   try simp -dsimp -implicitDefEqProofs [hbg4,hbg6]
   refine(c166 hr5).app ?_;try simp -dsimp -implicitDefEqProofs [hbg4,hbg6]
   exact k) ?_
  obtain rfl:=oi H;exact Wr ⟨_,rfl,4,by simp[eN]⟩
 refine S0 tok [] [1,14,28] ?_
 refine Ci H (fun H=>?_) fun H=>?_
 ·obtain⟨r7,hr7,H⟩:=bE H
  obtain⟨g9,hg9,H⟩:=bE H
  obtain⟨g11,hg11,H⟩:=bE H
  refine Sx tok [] [2] (X:=[(2,.bool g11)]) (Y:=hp E0 [] (N0+30)) (by
   intro K k
   simp -dsimp -implicitDefEqProofs
   refine(c164 hr7).app ?_;try simp -dsimp -implicitDefEqProofs
   cases hbg9:r7
   ·obtain rfl:=oi (ifF hbg9 hg9)
    obtain rfl:=oi (ifF rfl hg11)
    try simp -dsimp -implicitDefEqProofs [hbg9]
    exact k
   replace hg9:=ifT hbg9 hg9
   obtain⟨r8,hr8,hg9⟩:=bE hg9
   obtain rfl:=oi hg9
   try simp -dsimp -implicitDefEqProofs [hbg9]
   refine(c165 hr8).app ?_;try simp -dsimp -implicitDefEqProofs [hbg9]
   cases hbg11:r8
   ·obtain rfl:=oi (ifF hbg11 hg11)
    try simp -dsimp -implicitDefEqProofs [hbg9,hbg11]
    exact k
   replace hg11:=ifT hbg11 hg11
   obtain⟨r10,hr10,hg11⟩:=bE hg11
   obtain rfl:=oi hg11
   try simp -dsimp -implicitDefEqProofs [hbg9,hbg11]
   refine(c166 hr10).app ?_;try simp -dsimp -implicitDefEqProofs [hbg9,hbg11]
   exact k) ?_
  obtain rfl:=oi H;exact Wr ⟨_,rfl,4,by simp[eN]⟩
 refine S0 tok [] [1,14,41] ?_
 refine Ci H (fun H=>?_) fun H=>?_
 ·obtain⟨r12,hr12,H⟩:=bE H
  obtain⟨g14,hg14,H⟩:=bE H
  obtain⟨g16,hg16,H⟩:=bE H
  refine Sx tok [] [2] (X:=[(2,.bool g16)]) (Y:=hp E0 [] (N0+32)) (by
   intro K k
   simp -dsimp -implicitDefEqProofs
   refine(c164 hr12).app ?_;try simp -dsimp -implicitDefEqProofs
   cases hbg14:r12
   ·obtain rfl:=oi (ifF hbg14 hg14)
    obtain rfl:=oi (ifF rfl hg16)
    try simp -dsimp -implicitDefEqProofs [hbg14]
    exact k
   replace hg14:=ifT hbg14 hg14
   obtain⟨r13,hr13,hg14⟩:=bE hg14
   obtain rfl:=oi hg14
   try simp -dsimp -implicitDefEqProofs [hbg14]
   refine(c165 hr13).app ?_;try simp -dsimp -implicitDefEqProofs [hbg14]
   cases hbg16:r13
   ·obtain rfl:=oi (ifF hbg16 hg16)
    try simp -dsimp -implicitDefEqProofs [hbg14,hbg16]
    exact k
   replace hg16:=ifT hbg16 hg16
   obtain⟨r15,hr15,hg16⟩:=bE hg16
   obtain rfl:=oi hg16
   try simp -dsimp -implicitDefEqProofs [hbg14,hbg16]
   refine(c178 hr15).app ?_;try simp -dsimp -implicitDefEqProofs [hbg14,hbg16]
   exact k) ?_
  obtain rfl:=oi H;exact Wr ⟨_,rfl,4,by simp[eN]⟩
 refine S0 tok [] [1,14,54] ?_
 refine Ci H (fun H=>?_) fun H=>?_
 ·obtain⟨r17,hr17,H⟩:=bE H
  obtain⟨g19,hg19,H⟩:=bE H
  obtain⟨g21,hg21,H⟩:=bE H
  refine Sx tok [] [2] (X:=[(2,.bool g21)]) (Y:=hp E0 [] (N0+34)) (by
   intro K k
   simp -dsimp -implicitDefEqProofs
   refine(c164 hr17).app ?_;try simp -dsimp -implicitDefEqProofs
   cases hbg19:r17
   ·obtain rfl:=oi (ifF hbg19 hg19)
    obtain rfl:=oi (ifF rfl hg21)
    try simp -dsimp -implicitDefEqProofs [hbg19]
    exact k
   replace hg19:=ifT hbg19 hg19
   obtain⟨r18,hr18,hg19⟩:=bE hg19
   obtain rfl:=oi hg19
   try simp -dsimp -implicitDefEqProofs [hbg19]
   refine(c165 hr18).app ?_;try simp -dsimp -implicitDefEqProofs [hbg19]
   cases hbg21:r18
   ·obtain rfl:=oi (ifF hbg21 hg21)
    try simp -dsimp -implicitDefEqProofs [hbg19,hbg21]
    exact k
   replace hg21:=ifT hbg21 hg21
   obtain⟨r20,hr20,hg21⟩:=bE hg21
   obtain rfl:=oi hg21
   try simp -dsimp -implicitDefEqProofs [hbg19,hbg21]
   refine(c178 hr20).app ?_;try simp -dsimp -implicitDefEqProofs [hbg19,hbg21]
   exact k) ?_
  obtain rfl:=oi H;exact Wr ⟨_,rfl,4,by simp[eN]⟩
 refine S0 tok [] [1,67] ?_
 refine Ci H (fun H=>?_) fun H=>?_
 ·obtain⟨r22,hr22,H⟩:=bE H
  obtain⟨g24,hg24,H⟩:=bE H
  obtain⟨g26,hg26,H⟩:=bE H
  refine Sx tok [] [2] (X:=[(2,.bool g26)]) (Y:=hp E0 [] (N0+36)) (by
   intro K k
   simp -dsimp -implicitDefEqProofs
   refine(c164 hr22).app ?_;try simp -dsimp -implicitDefEqProofs
   cases hbg24:r22
   ·obtain rfl:=oi (ifF hbg24 hg24)
    obtain rfl:=oi (ifF rfl hg26)
    try simp -dsimp -implicitDefEqProofs [hbg24]
    exact k
   replace hg24:=ifT hbg24 hg24
   obtain⟨r23,hr23,hg24⟩:=bE hg24
   obtain rfl:=oi hg24
   try simp -dsimp -implicitDefEqProofs [hbg24]
   refine(c165 hr23).app ?_;try simp -dsimp -implicitDefEqProofs [hbg24]
   cases hbg26:r23
   ·obtain rfl:=oi (ifF hbg26 hg26)
    try simp -dsimp -implicitDefEqProofs [hbg24,hbg26]
    exact k
   replace hg26:=ifT hbg26 hg26
   obtain⟨r25,hr25,hg26⟩:=bE hg26
   obtain rfl:=oi hg26
   try simp -dsimp -implicitDefEqProofs [hbg24,hbg26]
   refine(c166 hr25).app ?_;try simp -dsimp -implicitDefEqProofs [hbg24,hbg26]
   exact k) ?_
  obtain rfl:=oi H;exact Wr ⟨_,rfl,4,by simp[eN]⟩
 refine Wsk (Jn hK2 ?_)
 refine S0 tok [] [2] ?_
 obtain rfl:=oi H;exact Wr ⟨_,rfl,4,by simp[eN]⟩

abbrev c127Q (F:(List gStmt)→Int→Option (Bool)):Prop:=∀{p0:List gStmt} {p1:Int} {r:Bool} (H:F p0 p1=some r),APure Tryz.prog G 127 [.fsl (eL rStmt p0),.int .i64 p1] (.bool r)


abbrev c142Q (F:gStmt→Int→Option (Bool)):Prop:=∀{p0:gStmt} {p1:Int} {r:Bool} (H:F p0 p1=some r),APure Tryz.prog G 142 [.agg [.int .i64 p0.Kind,.int .i64 p0.Var,.int .i64 p0.Box,.int .i64 p0.Expr.Op,.int .i64 p0.Expr.N,.fsl (eL rExpr p0.Expr.Args),.fsl (eL rStmt p0.Body),.fsl (eL rStmt p0.Else)],.int .i64 p1] (.bool r)


theorem c127B {Fr9:(List gStmt)→Int→Option (Bool)}{Fr10:gStmt→Int→Option (Bool)}(hFr9:c127Q Fr9)(hFr10:c142Q Fr10){p0:List gStmt}{p1:Int}{r:Bool}(H:xT Fr9 Fr10 p0 p1=some r):APure Tryz.prog G 127 [.fsl (eL rStmt p0),.int .i64 p1] (.bool r):=by
 refine zE (fun N0=>?_) (by simp)
 refine fnK tok Tryz.func127 Tryz.ntmps127 Tryz.results127 ?_
 simp only[argsA,Nat.reduceAdd,hpN]
 unfold xT at H
 refine S0 tok [] [0,1] ?_
 refine Wsq [] fun K1 hK1=>?_
 refine S0 tok [] [0,1,5] ?_
 refine Wbl (Wth ?_)
 obtain⟨e1,hse1,H⟩:=bE H
 refine zS [0,1,5] (fun s a σ=>∃M1:Nat,N0≤M1∧a=[(0,.fsl (eL rStmt p0)),(1,.int .i64 p1),(5,.int .i64 s)]∧σ=hp E0 [] M1) (fun e x a σ=>match e with|.inl s=>x=.exit 0∧Rc G 19 N0 (fun a σ=>∃M2:Nat,N0≤M2∧a=[]∧σ=hp E0 [] M2) (AAct.keep a []) σ|.inr s=>x=.ret∧∃vs,resA T σ a [.tmp 4]=some vs∧∃d,thawA (fun _=>true) σ d (tupA vs)=.bool s) hse1 ?_ ?_ ?_
 ·refine Rc.kp [0,1,5] [(0,.fsl (eL rStmt p0)),(1,.int .i64 p1),(5,.int .i64 0)] rfl ?_
  exact Rf ⟨N0+2,(by omega),rfl,rfl⟩
 ·clear H hse1
  rintro s1 fl a σ H ⟨M1,fM1_0,rfl,rfl⟩ K2 O2 hK2 hO2
  unfold sQ at H;dsimp only at H
  refine Wsq [0,1,5] fun K3 hK3=>?_
  refine S0 tok [] [0,1,5,9] ?_
  refine Ci H (fun H=>?_) fun H=>?_
  ·refine Wsk (Jn hK3 ?_)
   refine Wsq [0,1,5] fun K4 hK4=>?_
   refine Wbl (Wth ?_)
   obtain⟨v2,hv2,H⟩:=bE H
   obtain⟨r3,hr3,H⟩:=bE H
   refine Sx tok [] [0,1,5,18] (by intro K k;(repeat first|simp -dsimp -implicitDefEqProofs [ix124 hv2]|refine(hFr10 hr3).app ?_);exact k) ?_
   refine Ci H (fun H=>?_) fun H=>?_
   ·refine S0 tok [] [4] ?_
    obtain rfl:=oi H
    refine Kp [4] ?_
    refine Wr (hO2 _ _ _ _ rfl ⟨rfl,?_⟩)
    exact⟨[.bool false],by simp,4,by simp[eN]⟩
   refine Wsk (Jn hK4 ?_)
   refine Rt0 tok [] [0,1,5] fun a ha=>?_
   obtain rfl:=oi H
   refine hK2 _ _ _ rfl ?_;rw[ha]
   exact Rf ⟨M1+14,(by omega),rfl,rfl⟩
  obtain rfl:=oi H
  refine zJ (hO2 _ _ _ _ rfl ⟨rfl,?_⟩)
  refine Rc.rw (l:=[]) (X:=[]) rfl ?_
  exact Rf ⟨M1+4,(by omega),rfl,rfl⟩
 intro x a σ hx
 rcases e1 with⟨⟩|r0
 ·obtain⟨rfl,b,τ,hr,M2,fM2_0,rfl,rfl⟩:=hx
  (try dsimp only at H)
  show K1 _ _
  refine hK1 _ _ (zK hr ?_)
  refine Rc.mk ?_
  refine S0 tok [] [4] ?_
  obtain rfl:=oi H;exact Wr ⟨_,rfl,4,by simp[eN]⟩
 obtain⟨rfl,hx2⟩:=hx
 (try dsimp only at H)
 obtain rfl:=oi H;first|exact hx2|(simp only[List.set_set] at hx2 ⊢;exact hx2)

theorem c142B {Fr9:(List gStmt)→Int→Option (Bool)}{Fr10:gStmt→Int→Option (Bool)}(hFr9:c127Q Fr9)(hFr10:c142Q Fr10){p0:gStmt}{p1:Int}{r:Bool}(H:oG Fr9 Fr10 p0 p1=some r):APure Tryz.prog G 142 [.agg [.int .i64 p0.Kind,.int .i64 p0.Var,.int .i64 p0.Box,.int .i64 p0.Expr.Op,.int .i64 p0.Expr.N,.fsl (eL rExpr p0.Expr.Args),.fsl (eL rStmt p0.Body),.fsl (eL rStmt p0.Else)],.int .i64 p1] (.bool r):=by
 refine zE (fun N0=>?_) (by simp)
 refine fnK tok Tryz.func142 Tryz.ntmps142 Tryz.results142 ?_
 simp only[argsA,Nat.reduceAdd,hpN]
 unfold oG at H
 refine S0 tok [0] [1,2] ?_
 refine Wsq [1,2] fun K1 hK1=>?_
 obtain⟨g1,hg1,H⟩:=bE H
 refine Sx tok [] [1,2,12] (X:=[(1,.int .i64 p1),(2,.fptr [.int .i64 p0.Kind,.int .i64 p0.Var,.int .i64 p0.Box,.int .i64 p0.Expr.Op,.int .i64 p0.Expr.N,.fsl (eL rExpr p0.Expr.Args),.fsl (eL rStmt p0.Body),.fsl (eL rStmt p0.Else)] 0),(12,.bool g1)]) (Y:=hp E0 [] (N0+10)) (by
  intro K k
  simp -dsimp -implicitDefEqProofs
  cases hbg1:ine p0.Kind 2
  ·obtain rfl:=oi (ifF hbg1 hg1)
   try simp -dsimp -implicitDefEqProofs [hbg1]
   exact k
  obtain rfl:=oi (ifT hbg1 hg1)
  try simp -dsimp -implicitDefEqProofs [hbg1]
  exact k) ?_
 refine Ci H (fun H=>?_) fun H=>?_
 ·obtain⟨r2,hr2,H⟩:=bE H
  refine Sx tok [] [4] (by intro K k;(repeat first|simp -dsimp -implicitDefEqProofs|refine(c163 hr2).app ?_);exact k) ?_
  obtain rfl:=oi H;exact Wr ⟨_,rfl,4,by simp[eN]⟩
 refine Wsk (Jn hK1 ?_)
 refine Wsq [1,2] fun K2 hK2=>?_
 obtain⟨g4,hg4,H⟩:=bE H
 refine Sx tok [] [1,2,27] (X:=[(1,.int .i64 p1),(2,.fptr [.int .i64 p0.Kind,.int .i64 p0.Var,.int .i64 p0.Box,.int .i64 p0.Expr.Op,.int .i64 p0.Expr.N,.fsl (eL rExpr p0.Expr.Args),.fsl (eL rStmt p0.Body),.fsl (eL rStmt p0.Else)] 0),(27,.bool g4)]) (Y:=hp E0 [] (N0+23)) (by
  intro K k
  simp -dsimp -implicitDefEqProofs
  cases hbg4:ilt p1 1
  ·replace hg4:=ifF hbg4 hg4
   obtain⟨g3,hg3,hg4⟩:=bE hg4
   obtain rfl:=oi hg4
   try simp -dsimp -implicitDefEqProofs [hbg4]
   cases hbg3:ieq p0.Kind 3
   ·obtain rfl:=oi (ifF hbg3 hg3)
    try simp -dsimp -implicitDefEqProofs [hbg4,hbg3]
    exact k
   obtain rfl:=oi (ifT hbg3 hg3)
   try simp -dsimp -implicitDefEqProofs [hbg4,hbg3]
   exact k
  obtain rfl:=oi (ifT hbg4 hg4)
  try simp -dsimp -implicitDefEqProofs [hbg4]
  exact k) ?_
 refine Ci H (fun H=>?_) fun H=>?_
 ·refine S0 tok [] [4] ?_
  obtain rfl:=oi H;exact Wr ⟨_,rfl,4,by simp[eN]⟩
 refine Wsk (Jn hK2 ?_)
 obtain⟨r5,hr5,H⟩:=bE H
 obtain⟨g7,hg7,H⟩:=bE H
 obtain⟨g9,hg9,H⟩:=bE H
 obtain⟨g11,hg11,H⟩:=bE H
 obtain⟨g13,hg13,H⟩:=bE H
 refine Sx tok [] [4] (X:=[(4,.bool g13)]) (Y:=hp E0 [] (N0+49)) (by
  intro K k
  simp -dsimp -implicitDefEqProofs
  refine(c164 hr5).app ?_;try simp -dsimp -implicitDefEqProofs
  cases hbg7:r5
  ·obtain rfl:=oi (ifF hbg7 hg7)
   obtain rfl:=oi (ifF rfl hg9)
   obtain rfl:=oi (ifF rfl hg11)
   obtain rfl:=oi (ifF rfl hg13)
   try simp -dsimp -implicitDefEqProofs [hbg7]
   exact k
  replace hg7:=ifT hbg7 hg7
  obtain⟨r6,hr6,hg7⟩:=bE hg7
  obtain rfl:=oi hg7
  try simp -dsimp -implicitDefEqProofs [hbg7]
  refine(c165 hr6).app ?_;try simp -dsimp -implicitDefEqProofs [hbg7]
  cases hbg9:r6
  ·obtain rfl:=oi (ifF hbg9 hg9)
   obtain rfl:=oi (ifF rfl hg11)
   obtain rfl:=oi (ifF rfl hg13)
   try simp -dsimp -implicitDefEqProofs [hbg7,hbg9]
   exact k
  replace hg9:=ifT hbg9 hg9
  obtain⟨r8,hr8,hg9⟩:=bE hg9
  obtain rfl:=oi hg9
  try simp -dsimp -implicitDefEqProofs [hbg7,hbg9]
  refine(c166 hr8).app ?_;try simp -dsimp -implicitDefEqProofs [hbg7,hbg9]
  cases hbg11:r8
  ·obtain rfl:=oi (ifF hbg11 hg11)
   obtain rfl:=oi (ifF rfl hg13)
   try simp -dsimp -implicitDefEqProofs [hbg7,hbg9,hbg11]
   exact k
  replace hg11:=ifT hbg11 hg11
  obtain⟨r10,hr10,hg11⟩:=bE hg11
  obtain rfl:=oi hg11
  try simp -dsimp -implicitDefEqProofs [hbg7,hbg9,hbg11]
  refine(hFr9 hr10).app ?_;try simp -dsimp -implicitDefEqProofs [hbg7,hbg9,hbg11]
  cases hbg13:r10
  ·obtain rfl:=oi (ifF hbg13 hg13)
   try simp -dsimp -implicitDefEqProofs [hbg7,hbg9,hbg11,hbg13]
   exact k
  replace hg13:=ifT hbg13 hg13
  obtain⟨r12,hr12,hg13⟩:=bE hg13
  obtain rfl:=oi hg13
  try simp -dsimp -implicitDefEqProofs [hbg7,hbg9,hbg11,hbg13]
  refine(hFr9 hr12).app ?_;try simp -dsimp -implicitDefEqProofs [hbg7,hbg9,hbg11,hbg13]
  exact k) ?_
 obtain rfl:=oi H;exact Wr ⟨_,rfl,4,by simp[eN]⟩

theorem c127R:∀n:Nat,c127Q ((kF n).1)∧c142Q ((kF n).2):=by
 intro n;induction n with
 |zero=>exact⟨by intro p0 p1 r H;exact absurd H (by simp[kF]),by intro p0 p1 r H;exact absurd H (by simp[kF])⟩
 |succ n ih=>exact⟨by intro p0 p1 r H;exact c127B (hFr9:=ih.1) (hFr10:=ih.2) H,by intro p0 p1 r H;exact c142B (hFr9:=ih.1) (hFr10:=ih.2) H⟩

theorem c127 {p0:List gStmt}{p1:Int}{r:Bool}(H:pU p0 p1=some r):APure Tryz.prog G 127 [.fsl (eL rStmt p0),.int .i64 p1] (.bool r):=by
 unfold pU at H
 obtain⟨n,H⟩:=tR H
 exact(c127R n).1 H

theorem c114 {p0:List gStmt}{r:Bool}(H:vZ p0=some r):APure Tryz.prog G 114 [.fsl (eL rStmt p0)] (.bool r):=by
 refine zE (fun N0=>?_) (by simp)
 refine fnK tok Tryz.func114 Tryz.ntmps114 Tryz.results114 ?_
 simp only[argsA,Nat.reduceAdd,hpN]
 unfold vZ at H
 refine S0 tok [] [0] ?_
 obtain⟨r1,hr1,H⟩:=bE H
 obtain⟨g3,hg3,H⟩:=bE H
 refine Sx tok [] [2] (X:=[(2,.bool g3)]) (Y:=hp E0 [] (N0+9)) (by
  intro K k
  simp -dsimp -implicitDefEqProofs
  refine(c127 hr1).app ?_;try simp -dsimp -implicitDefEqProofs
  cases hbg3:r1
  ·obtain rfl:=oi (ifF hbg3 hg3)
   try simp -dsimp -implicitDefEqProofs [hbg3]
   exact k
  replace hg3:=ifT hbg3 hg3
  obtain⟨r2,hr2,hg3⟩:=bE hg3
  obtain rfl:=oi hg3
  try simp -dsimp -implicitDefEqProofs [hbg3]
  refine(c117 hr2).app ?_;try simp -dsimp -implicitDefEqProofs [hbg3]
  exact k) ?_
 obtain rfl:=oi H;exact Wr ⟨_,rfl,4,by simp[eN]⟩

abbrev c143Q (F:gExpr→Int→Option ((List gQuad))):Prop:=∀{p0:gExpr} {p1:Int} {r:List gQuad} (H:F p0 p1=some r),APure Tryz.prog G 143 [.agg [.int .i64 p0.Op,.int .i64 p0.N,.fsl (eL rExpr p0.Args)],.int .i64 p1] (.fsl (eL rQuad r))


abbrev c143_oQ (F:gExpr→Int→Option ((List gQuad))):Prop:=∀{p0:gExpr} {p1:Int} {r:List gQuad} (H:F p0 p1=some r) {σ:AHeap},ACalls Tryz.prog G 143 [.agg [.int .i64 p0.Op,.int .i64 p0.N,.fsl (eL rExpr p0.Args)],.int .i64 p1] σ (fun v σ'=>∃M n0:Nat,σ.next≤M∧σ.next≤n0∧n0<M∧v=.sl n0 0 r.length∧σ'=hp σ.objs [(n0,some ⟨36,5,eL rQuad r⟩)] M)


theorem c143B {Fr11:gExpr→Int→Option ((List gQuad))}{Fr12:gExpr→Int→Option ((List gQuad))}(hFr11:c143Q Fr11)(hFr12:c143_oQ Fr12){p0:gExpr}{p1:Int}{r:List gQuad}(H:tO Fr11 Fr12 p0 p1=some r):APure Tryz.prog G 143 [.agg [.int .i64 p0.Op,.int .i64 p0.N,.fsl (eL rExpr p0.Args)],.int .i64 p1] (.fsl (eL rQuad r)):=by
 refine zE (fun N0=>?_) (by simp)
 refine fnK tok Tryz.func143 Tryz.ntmps143 Tryz.results143 ?_
 simp only[argsA,Nat.reduceAdd,hpN]
 unfold tO at H
 refine S0 tok [0] [1,2] ?_
 refine Wsq [1,2] fun K1 hK1=>?_
 refine S0 tok [] [1,2,8] ?_
 refine Ci H (fun H=>?_) fun H=>?_
 ·have q0:∀σ i,bsA T 34 true i 1 [(0,.agg [.int .i64 1,.int .i64 p1,.int .i64 0,.int .i64 0,.int .i64 p0.N])] σ=some (.fsl (eL rQuad ([(⟨1,p1,0,0,p0.N⟩:gQuad)]:List gQuad)),σ):=fun _ _=>rfl
  refine Sx tok [4] [4] (by intro K k;simp -dsimp -implicitDefEqProofs [q0];exact k) ?_
  obtain rfl:=oi H;exact Wr ⟨_,rfl,4,by simp[eN]⟩
 refine Wsk (Jn hK1 ?_)
 refine Wsq [1,2] fun K2 hK2=>?_
 refine S0 tok [] [1,2,16] ?_
 refine Ci H (fun H=>?_) fun H=>?_
 ·have q1:∀σ i,bsA T 34 true i 1 [(0,.agg [.int .i64 2,.int .i64 p1,.int .i64 p0.N,.int .i64 0,.int .i64 0])] σ=some (.fsl (eL rQuad ([(⟨2,p1,p0.N,0,0⟩:gQuad)]:List gQuad)),σ):=fun _ _=>rfl
  refine Sx tok [4] [4] (by intro K k;simp -dsimp -implicitDefEqProofs [q1];exact k) ?_
  obtain rfl:=oi H;exact Wr ⟨_,rfl,4,by simp[eN]⟩
 refine Wsk (Jn hK2 ?_)
 obtain⟨v1,hv1,H⟩:=bE H
 obtain⟨v2,hv2,H⟩:=bE H
 obtain⟨r3,hr3,H⟩:=bE H
 obtain⟨r4,hr4,H⟩:=bE H
 obtain⟨l5,hl5,H⟩:=bE H
 refine mP tok tokM [] [5,13] [0,1,2,3,4,6,7,8,9,10,11,5,12,13,14] [1,2,5] (fun a σ=>∃M1 o1:Nat,N0+23≤M1∧N0+23≤o1∧o1<M1∧a=[(1,.int .i64 p1),(2,.fptr [.int .i64 p0.Op,.int .i64 p0.N,.fsl (eL rExpr p0.Args)] 0),(5,.sl (N0+21) 0 l5.length)]∧σ=hp E0 [(N0+21,some ⟨36,5,eL rQuad l5⟩)] M1) (by decide) (fun K hK=>?_) ?_
 ·simp only[pickL,zO,zQ]
  simp -dsimp -implicitDefEqProofs [ix147 hv1,ix147 hv2,app34 hl5]
  refine(hFr12 (H:=hr3)).mono ?_;rintro _ _ ⟨M1,o1,fM1_0,fM1_1,fM1_2,rfl,rfl⟩;simp only[hpN] at fM1_0 fM1_1 fM1_2
  have eM1_0:=nQ o1 (N0+21)
  try simp -dsimp -implicitDefEqProofs [ix147 hv1,ix147 hv2,app34 hl5,eM1_0,hoS,hoN]
  refine Pc.mk (hFr11 hr4) ?_;try simp -dsimp -implicitDefEqProofs [ix147 hv1,ix147 hv2,app34 hl5,eM1_0,hoS,hoN]
  exact hK _ _ ⟨M1,o1,(by omega),(by omega),(by omega),rfl,rfl⟩
 rintro a σ ⟨M1,o1,fM1_0,fM1_1,fM1_2,rfl,rfl⟩
 obtain⟨l6,hl6,H⟩:=bE H
 have q2:∀σ i,bsA T 34 true i 1 [(0,.agg [.int .i64 3,.int .i64 p1,.int .i64 p1,.int .i64 (iadd .i64 p1 1),.int .i64 p0.Op])] σ=some (.fsl (eL rQuad ([(⟨3,p1,p1,iadd .i64 p1 1,p0.Op⟩:gQuad)]:List gQuad)),σ):=fun _ _=>rfl
 refine Sx tok [8] [4] (by
  intro K k
  have e0:=nQ (N0+21) (M1+9)
  have e1:=nQ (N0+12) M1
  simp -dsimp -implicitDefEqProofs [e0,e1,q2,app34 hl6]
  exact k) ?_
 refine gFrz Wre 4 [M1+9] [] [(4,.fsl (eL rQuad l6))] (by simp) (cutD (by simp)) ?_
 obtain rfl:=oi H;exact Wr ⟨_,rfl,4,by simp[eN]⟩

theorem c143_oB {Fr11:gExpr→Int→Option ((List gQuad))}{Fr12:gExpr→Int→Option ((List gQuad))}(hFr11:c143Q Fr11)(hFr12:c143_oQ Fr12){p0:gExpr}{p1:Int}{r:List gQuad}(H:xP Fr11 Fr12 p0 p1=some r){σ:AHeap}:ACalls Tryz.prog G 143 [.agg [.int .i64 p0.Op,.int .i64 p0.N,.fsl (eL rExpr p0.Args)],.int .i64 p1] σ (fun v σ'=>∃M n0:Nat,σ.next≤M∧σ.next≤n0∧n0<M∧v=.sl n0 0 r.length∧σ'=hp σ.objs [(n0,some ⟨36,5,eL rQuad r⟩)] M):=by
 refine fr2 [] (by simp) (fun hlt=>?_) ⟨_,Tryz.func143,rfl,rfl⟩
 generalize σ.next=N0 at hlt ⊢
 refine fnK tok Tryz.func143 Tryz.ntmps143 Tryz.results143 ?_
 simp only[argsA,Nat.reduceAdd,hpN]
 unfold xP at H
 refine S0 tok [0] [1,2] ?_
 refine Wsq [1,2] fun K1 hK1=>?_
 refine S0 tok [] [1,2,8] ?_
 refine Ci H (fun H=>?_) fun H=>?_
 ·obtain⟨l1,hl1,H⟩:=bE H
  have q0:∀σ i,bsA T 34 false i 1 [(0,.agg [.int .i64 1,.int .i64 p1,.int .i64 0,.int .i64 0,.int .i64 p0.N])] σ=some (.sl i 0 (List.length l1),σ.put i ⟨36,5,eL rQuad l1⟩):=by rw[← Option.some.inj hl1];exact fun _ _=>rfl
  refine Sx tok [] [4] (by intro K k;simp -dsimp -implicitDefEqProofs [q0];exact k) ?_
  obtain rfl:=oi H
  refine Kp [4] ?_
  refine Wr ?_
  refine⟨[.sl (N0+9) 0 l1.length],by simp,N0+11,N0+9,by omega,by omega,by omega,?_,?_⟩
  ·simp[eN]
  first|rfl|simp
 refine Wsk (Jn hK1 ?_)
 refine Wsq [1,2] fun K2 hK2=>?_
 refine S0 tok [] [1,2,16] ?_
 refine Ci H (fun H=>?_) fun H=>?_
 ·obtain⟨l2,hl2,H⟩:=bE H
  have q1:∀σ i,bsA T 34 false i 1 [(0,.agg [.int .i64 2,.int .i64 p1,.int .i64 p0.N,.int .i64 0,.int .i64 0])] σ=some (.sl i 0 (List.length l2),σ.put i ⟨36,5,eL rQuad l2⟩):=by rw[← Option.some.inj hl2];exact fun _ _=>rfl
  refine Sx tok [] [4] (by intro K k;simp -dsimp -implicitDefEqProofs [q1];exact k) ?_
  obtain rfl:=oi H
  refine Kp [4] ?_
  refine Wr ?_
  refine⟨[.sl (N0+12) 0 l2.length],by simp,N0+14,N0+12,by omega,by omega,by omega,?_,?_⟩
  ·simp[eN]
  first|rfl|simp
 refine Wsk (Jn hK2 ?_)
 obtain⟨v3,hv3,H⟩:=bE H
 obtain⟨v4,hv4,H⟩:=bE H
 obtain⟨r5,hr5,H⟩:=bE H
 obtain⟨r6,hr6,H⟩:=bE H
 obtain⟨l7,hl7,H⟩:=bE H
 refine mP tok tokM [] [5,13] [0,1,2,3,4,6,7,8,9,10,11,5,12,13,14] [1,2,5] (fun a σ=>∃M1 o1:Nat,N0+23≤M1∧N0+23≤o1∧o1<M1∧a=[(1,.int .i64 p1),(2,.fptr [.int .i64 p0.Op,.int .i64 p0.N,.fsl (eL rExpr p0.Args)] 0),(5,.sl (N0+21) 0 l7.length)]∧σ=hp E0 [(N0+21,some ⟨36,5,eL rQuad l7⟩)] M1) (by decide) (fun K hK=>?_) ?_
 ·simp only[pickL,zO,zQ]
  simp -dsimp -implicitDefEqProofs [ix147 hv3,ix147 hv4,app34 hl7]
  refine(hFr12 (H:=hr5)).mono ?_;rintro _ _ ⟨M1,o1,fM1_0,fM1_1,fM1_2,rfl,rfl⟩;simp only[hpN] at fM1_0 fM1_1 fM1_2
  have eM1_0:=nQ o1 (N0+21)
  try simp -dsimp -implicitDefEqProofs [ix147 hv3,ix147 hv4,app34 hl7,eM1_0,hoS,hoN]
  refine Pc.mk (hFr11 hr6) ?_;try simp -dsimp -implicitDefEqProofs [ix147 hv3,ix147 hv4,app34 hl7,eM1_0,hoS,hoN]
  exact hK _ _ ⟨M1,o1,(by omega),(by omega),(by omega),rfl,rfl⟩
 rintro a σ ⟨M1,o1,fM1_0,fM1_1,fM1_2,rfl,rfl⟩
 obtain⟨l8,hl8,H⟩:=bE H
 have q2:∀σ i,bsA T 34 true i 1 [(0,.agg [.int .i64 3,.int .i64 p1,.int .i64 p1,.int .i64 (iadd .i64 p1 1),.int .i64 p0.Op])] σ=some (.fsl (eL rQuad ([(⟨3,p1,p1,iadd .i64 p1 1,p0.Op⟩:gQuad)]:List gQuad)),σ):=fun _ _=>rfl
 refine Sx tok [8] [4] (by
  intro K k
  have e0:=nQ (N0+21) (M1+9)
  have e1:=nQ (N0+12) M1
  simp -dsimp -implicitDefEqProofs [e0,e1,q2,app34 hl8]
  exact k) ?_
 obtain rfl:=oi H
 refine Kp [4] ?_
 refine Wr ?_
 refine⟨[.sl (M1+9) 0 l8.length],by simp,M1+11,M1+9,by omega,by omega,by omega,?_,?_⟩
 ·simp[eN]
 first|rfl|simp

theorem c143R:∀n:Nat,c143Q ((kN n).1)∧c143_oQ ((kN n).2):=by
 intro n;induction n with
 |zero=>exact⟨by intro p0 p1 r H;exact absurd H (by simp[kN]),by intro p0 p1 r H;exact absurd H (by simp[kN])⟩
 |succ n ih=>exact⟨by intro p0 p1 r H;exact c143B (hFr11:=ih.1) (hFr12:=ih.2) H,by intro p0 p1 r H;exact c143_oB (hFr11:=ih.1) (hFr12:=ih.2) H⟩

theorem c143_o {p0:gExpr}{p1:Int}{r:List gQuad}(H:wP p0 p1=some r){σ:AHeap}:ACalls Tryz.prog G 143 [.agg [.int .i64 p0.Op,.int .i64 p0.N,.fsl (eL rExpr p0.Args)],.int .i64 p1] σ (fun v σ'=>∃M n0:Nat,σ.next≤M∧σ.next≤n0∧n0<M∧v=.sl n0 0 r.length∧σ'=hp σ.objs [(n0,some ⟨36,5,eL rQuad r⟩)] M):=by
 unfold wP at H
 obtain⟨n,H⟩:=tR H
 exact(c143R n).2 H
end Go.Proofs.YtolmjhgondilhaaGreat
