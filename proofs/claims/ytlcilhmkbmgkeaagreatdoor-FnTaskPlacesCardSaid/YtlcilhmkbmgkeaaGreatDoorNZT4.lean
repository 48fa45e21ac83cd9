/- The contracts of functions of the program, part 4: each computes what its mirror computes. No conditions. -/
import Derived.Test.YtlcilhmkbmgkeaaGreatDoorNZT3
set_option linter.unusedSimpArgs false
set_option linter.unusedVariables false
set_option maxRecDepth 20000
set_option maxHeartbeats 4000000
namespace Go.Proofs.YtlcilhmkbmgkeaaGreatDoor
open Go Go.Abs Go.RowKit

theorem c13 {p0:(List gQuad)} {p1:Int} {r:(List Int)} (H:i_TaskPlaces p0 p1=some r):APure Tryz.prog G 13 [.fsl (encL rQuad p0),.int .i64 p1] (.fsl (encL rI r)):=by
 refine APure_fn (fun N0=>?_) (by simp)
 refine fnK tok Tryz.func13 Tryz.ntmps13 Tryz.results13 ?_
 simp only[argsA,Nat.reduceAdd,hp_next]
 unfold i_TaskPlaces at H
 refine S0 tok [] [0,1] ?_
 refine AWP_sq [0,1] fun K1 hK1=>?_
 obtain⟨r1,hr1,H⟩:=bindE H
 obtain⟨g2,hg2,H⟩:=bindE H
 obtain⟨g3,hg3,H⟩:=bindE H
 refine Sx tok [] [0,1,19] (X:=[(0,.fsl (encL rQuad p0)),(1,.int .i64 p1),(19,.bool g3)]) (Y:=hp E0 [] (N0+12)) (by
  intro K k
  simp -dsimp -implicitDefEqProofs
  refine(c45 hr1).app ?_;try simp -dsimp -implicitDefEqProofs
  cases hbg2:bnot r1
  ·obtain rfl:=oi (ifF hbg2 hg2)
   try simp -dsimp -implicitDefEqProofs [hbg2]
   cases hbg3:(ilt p1 1)
   ·obtain rfl:=oi (ifF hbg3 hg3)
    try simp -dsimp -implicitDefEqProofs [hbg2,hbg3]
    exact k
   ·obtain rfl:=oi (ifT hbg3 hg3)
    try simp -dsimp -implicitDefEqProofs [hbg2,hbg3]
    exact k
  ·obtain rfl:=oi (ifT hbg2 hg2)
   obtain rfl:=oi (ifT rfl hg3)
   try simp -dsimp -implicitDefEqProofs [hbg2]
   exact k) ?_
 refine Cd (fun C1=>?_) fun C1=>?_
 ·replace H:=ifT C1 H
  refine S0 tok [] [4] ?_
  obtain rfl:=oi H;exact AWP_ret ⟨_,rfl,4,by simp[encL_nil]⟩
 ·replace H:=ifF C1 H
  refine AWP_skip (Jn hK1 ?_)
  refine S0 tok [] [0,1,5] ?_
  refine S0 tok [] [0,1,5,6] ?_
  refine AWP_sq [5] fun K2 hK2=>?_
  refine S0 tok [] [1,5,6,20,21,22] ?_
  refine AWP_block (AWP_thenB ?_)
  obtain⟨e1,hse1,H⟩:=bindE H
  refine AWP_lp [1,5,6,20,21,22] (fun s a σ=>∃M1 o1:Nat,N0≤M1∧N0≤o1∧o1<M1∧a=[(1,.int .i64 p1),(5,.sl o1 0 s.2.2.length),(6,.int .i64 s.1),(20,.fsl (encL rQuad p0)),(21,.int .i64 (ilen p0)),(22,.int .i64 s.2.1)]∧σ=hp E0 [(o1,some ⟨3,1,encL rI s.2.2⟩)] M1) (fun s x a σ=>x=.exit 0∧Rc G 38 N0 (fun a σ=>∃M2 o2:Nat,N0≤M2∧N0≤o2∧o2<M2∧a=[(5,.sl o2 0 s.length)]∧σ=hp E0 [(o2,some ⟨3,1,encL rI s⟩)] M2) (AAct.keep a [5]) σ) hse1 ?_ ?_ ?_
  ·refine Rc.kp [1,5,6,20,21,22] [(1,.int .i64 p1),(5,.nilsl),(6,.int .i64 0),(20,.fsl (encL rQuad p0)),(21,.int .i64 (ilen p0)),(22,.int .i64 0)] rfl ?_
   refine gNilS Rc_ref 5 3 1 [(N0+17,some ⟨3,1,encL rI ([]:List Int)⟩)] [(1,.int .i64 p1),(5,.sl (N0+17) 0 ([]:List Int).length),(6,.int .i64 0),(20,.fsl (encL rQuad p0)),(21,.int .i64 (ilen p0)),(22,.int .i64 0)] (by simp(disch:=omega)) (by simp(disch:=omega) [encL_nil]) [1,5,6,20,21,22] rfl ?_
   exact Rf ⟨N0+18,(N0+17),(by omega),(by omega),(by omega),rfl,rfl⟩
  ·clear H hse1
   rintro⟨s4,s5,s6⟩ fl a σ H ⟨M1,o1,fM1_0,fM1_1,fM1_2,rfl,rfl⟩ K3 O3 hK3 hO3
   unfold i_TaskPlaces_L1 at H;dsimp only at H
   refine S0 tok [] [1,5,6,20,21,22,23] ?_
   refine AWP_sq [1,5,6,20,21,22] fun K4 hK4=>?_
   refine Cd (fun C2=>?_) fun C2=>?_
   ·replace H:=ifT C2 H
    refine AWP_skip (Jn hK4 ?_)
    refine AWP_sq [1,5,6,20,21,22] fun K5 hK5=>?_
    refine AWP_block (AWP_thenB ?_)
    obtain⟨v8,hv8,H⟩:=bindE H
    refine Sx tok [] [1,5,6,8,20,21,22] (by
     intro K k
     have e0:=nQ o1 (M1+3)
     simp -dsimp -implicitDefEqProofs [e0,ix39 hv8]
     exact k) ?_
    obtain⟨l9,hl9,H⟩:=bindE H
    have q0:∀σ i,buildSliceA T 24 true i 1 [(0,.int .i64 s4)] σ=some (.fsl (encL rI ([s4]:List Int)),σ):=fun _ _=>rfl
    refine Sx tok [2] [1,5,6,8,20,21,22] (by
     intro K k
     have e0:=nQ o1 (M1+3)
     have e1:=nQ o1 (M1+8)
     simp -dsimp -implicitDefEqProofs [e0,e1,q0,app24 hl9]
     exact k) ?_
    obtain⟨r10,hr10,H⟩:=bindE H
    refine Rt tok [] [1,5,6,20,21,22] (by intro K k;(repeat first|simp -dsimp -implicitDefEqProofs|refine(c46 hr10).app ?_);exact k) fun a ha=>?_
    refine hK5 _ _ ?_;rw[ha]
    refine Rc.mk ?_
    refine Rt0 tok [] [1,5,6,20,21,22] fun a ha=>?_
    obtain rfl:=oi H
    refine hK3 _ _ _ rfl ?_;rw[ha]
    exact Rc.fin (AHeap.Sub.trans (hp_skip (AHeap.Sub.refl _)) (hp_drop rfl (by simp;try omega))) ⟨M1+19,(M1+8),(by omega),(by omega),(by omega),rfl,rfl⟩
   ·obtain rfl:=oi (ifF C2 H)
    refine AWP_exit (hO3 _ _ _ _ rfl ⟨rfl,?_⟩)
    refine Rc.rw (l:=[5]) (X:=[(5,.sl o1 0 s6.length)]) rfl ?_
    exact Rf ⟨M1+1,o1,(by omega),(by omega),(by omega),rfl,rfl⟩
  ·intro x a σ hx
   obtain⟨y7,rfl⟩:∃x,x=e1:=⟨_,rfl⟩
   obtain⟨rfl,b,τ,hr,M2,o2,fM2_0,fM2_1,fM2_2,rfl,rfl⟩:=hx
   (try dsimp only at H)
   show K2 _ _
   refine hK2 _ _ (Rc_ref hr ?_)
   refine Rc.mk ?_
   refine S0 tok [] [4] ?_
   obtain rfl:=oi H;exact AWP_ret ⟨_,rfl,4,by simp[encL_nil]⟩
theorem c118 {p0:Int} {p1:Int} {p2:Int} {r:Int} (H:s_l43Reg p0 p1 p2=some r):APure Tryz.prog G 118 [.int .i64 p0,.int .i64 p1,.int .i64 p2] (.int .i64 r):=by
 refine APure_fn (fun N0=>?_) (by simp)
 refine fnK tok Tryz.func118 Tryz.ntmps118 Tryz.results118 ?_
 simp only[argsA,Nat.reduceAdd,hp_next]
 unfold s_l43Reg at H
 refine S0 tok [] [0,1,2] ?_
 refine AWP_sq [0] fun K1 hK1=>?_
 refine S0 tok [] [0,2,9] ?_
 refine Cd (fun C1=>?_) fun C1=>?_
 ·replace H:=ifT C1 H
  refine S0 tok [] [6] ?_
  obtain rfl:=oi H;exact AWP_ret ⟨_,rfl,4,by simp[encL_nil]⟩
 ·replace H:=ifF C1 H
  refine AWP_skip (Jn hK1 ?_)
  obtain⟨v1,hv1,H⟩:=bindE H
  have q0:∀σ i,buildSliceA T 24 true i 8 [(0,.int .i64 8),(1,.int .i64 9),(2,.int .i64 18),(3,.int .i64 19),(4,.int .i64 20),(5,.int .i64 21),(6,.int .i64 22),(7,.int .i64 23)] σ=some (.fsl (encL rI ([8,9,18,19,20,21,22,23]:List Int)),σ):=fun _ _=>rfl
  refine Sx tok [0] [6] (by intro K k;simp -dsimp -implicitDefEqProofs [q0,ix24 hv1];exact k) ?_
  obtain rfl:=oi H;exact AWP_ret ⟨_,rfl,4,by simp[encL_nil]⟩
theorem c104 {p0:Int} {r:Int} (H:s_Unsigned p0=some r):APure Tryz.prog G 104 [.int .i64 p0] (.int .i64 r):=by
 refine APure_fn (fun N0=>?_) (by simp)
 refine fnK tok Tryz.func104 Tryz.ntmps104 Tryz.results104 ?_
 simp only[argsA,Nat.reduceAdd,hp_next]
 unfold s_Unsigned at H
 refine S0 tok [] [0] ?_
 refine AWP_sq [0] fun K1 hK1=>?_
 obtain⟨r1,hr1,H⟩:=bindE H
 refine Sx tok [] [0,5] (by intro K k;(repeat first|simp -dsimp -implicitDefEqProofs|refine(c100 hr1).app ?_);exact k) ?_
 refine Cd (fun C1=>?_) fun C1=>?_
 ·replace H:=ifT C1 H
  refine S0 tok [] [2] ?_
  obtain rfl:=oi H;exact AWP_ret ⟨_,rfl,4,by simp[encL_nil]⟩
 ·replace H:=ifF C1 H
  refine AWP_skip (Jn hK1 ?_)
  refine AWP_sq [0] fun K2 hK2=>?_
  refine S0 tok [] [0,7] ?_
  refine Cd (fun C2=>?_) fun C2=>?_
  ·replace H:=ifT C2 H
   refine S0 tok [] [2] ?_
   obtain rfl:=oi H;exact AWP_ret ⟨_,rfl,4,by simp[encL_nil]⟩
  ·replace H:=ifF C2 H
   refine AWP_skip (Jn hK2 ?_)
   refine S0 tok [] [2] ?_
   obtain rfl:=oi H;exact AWP_ret ⟨_,rfl,4,by simp[encL_nil]⟩
theorem c166 {p0:Int} {r:Int} (H:s_l1Power p0=some r):APure Tryz.prog G 166 [.int .i64 p0] (.int .i64 r):=by
 refine APure_fn (fun N0=>?_) (by simp)
 refine fnK tok Tryz.func166 Tryz.ntmps166 Tryz.results166 ?_
 simp only[argsA,Nat.reduceAdd,hp_next]
 unfold s_l1Power at H
 refine S0 tok [] [0] ?_
 refine S0 tok [] [0,3] ?_
 refine AWP_sq [3] fun K1 hK1=>?_
 refine S0 tok [] [0,3,4] ?_
 refine AWP_block (AWP_thenB ?_)
 obtain⟨e1,hse1,H⟩:=bindE H
 refine AWP_lp [0,3,4] (fun s a σ=>∃M1:Nat,N0≤M1∧a=[(0,.int .i64 p0),(3,.int .i64 s.1),(4,.int .i64 s.2)]∧σ=hp E0 [] M1) (fun s x a σ=>x=.exit 0∧Rc G 13 N0 (fun a σ=>∃M2:Nat,N0≤M2∧a=[(3,.int .i64 s)]∧σ=hp E0 [] M2) (AAct.keep a [3]) σ) hse1 ?_ ?_ ?_
 ·refine Rc.kp [0,3,4] [(0,.int .i64 p0),(3,.int .i64 1),(4,.int .i64 0)] rfl ?_
  exact Rf ⟨N0+3,(by omega),rfl,rfl⟩
 ·clear H hse1
  rintro⟨s1,s2⟩ fl a σ H ⟨M1,fM1_0,rfl,rfl⟩ K2 O2 hK2 hO2
  unfold s_l1Power_L1 at H;dsimp only at H
  refine AWP_sq [0,3,4] fun K3 hK3=>?_
  refine S0 tok [] [0,3,4,7] ?_
  refine Cd (fun C1=>?_) fun C1=>?_
  ·replace H:=ifT C1 H
   refine AWP_skip (Jn hK3 ?_)
   refine AWP_sq [0,3,4] fun K4 hK4=>?_
   refine AWP_block (AWP_thenB ?_)
   refine Rt0 tok [] [0,3,4] fun a ha=>?_
   refine hK4 _ _ ?_;rw[ha]
   refine Rc.mk ?_
   refine Rt0 tok [] [0,3,4] fun a ha=>?_
   obtain rfl:=oi H
   refine hK2 _ _ _ rfl ?_;rw[ha]
   exact Rf ⟨M1+9,(by omega),rfl,rfl⟩
  ·obtain rfl:=oi (ifF C1 H)
   refine AWP_exit (hO2 _ _ _ _ rfl ⟨rfl,?_⟩)
   refine Rc.rw (l:=[3]) (X:=[(3,.int .i64 s1)]) rfl ?_
   exact Rf ⟨M1+3,(by omega),rfl,rfl⟩
 ·intro x a σ hx
  obtain⟨y3,rfl⟩:∃x,x=e1:=⟨_,rfl⟩
  obtain⟨rfl,b,τ,hr,M2,fM2_0,rfl,rfl⟩:=hx
  (try dsimp only at H)
  show K1 _ _
  refine hK1 _ _ (Rc_ref hr ?_)
  refine Rc.mk ?_
  refine S0 tok [] [2] ?_
  obtain rfl:=oi H;exact AWP_ret ⟨_,rfl,4,by simp[encL_nil]⟩
theorem c148 {p0:Int} {p1:Int} {p2:Int} {r:Int} (H:s_Bits p0 p1 p2=some r):APure Tryz.prog G 148 [.int .i64 p0,.int .i64 p1,.int .i64 p2] (.int .i64 r):=by
 refine APure_fn (fun N0=>?_) (by simp)
 refine fnK tok Tryz.func148 Tryz.ntmps148 Tryz.results148 ?_
 simp only[argsA,Nat.reduceAdd,hp_next]
 unfold s_Bits at H
 refine S0 tok [] [0,1,2] ?_
 refine AWP_sq [0,1,2] fun K1 hK1=>?_
 obtain⟨r1,hr1,H⟩:=bindE H
 obtain⟨g3,hg3,H⟩:=bindE H
 obtain⟨g5,hg5,H⟩:=bindE H
 refine Sx tok [] [0,1,2,21] (X:=[(0,.int .i64 p0),(1,.int .i64 p1),(2,.int .i64 p2),(21,.bool g5)]) (Y:=hp E0 [] (N0+16)) (by
  intro K k
  simp -dsimp -implicitDefEqProofs
  refine(c21 hr1).app ?_;try simp -dsimp -implicitDefEqProofs
  cases hbg3:bnot r1
  ·replace hg3:=ifF hbg3 hg3
   obtain⟨r2,hr2,hg3⟩:=bindE hg3
   obtain rfl:=oi hg3
   try simp -dsimp -implicitDefEqProofs [hbg3]
   refine(c21 hr2).app ?_;try simp -dsimp -implicitDefEqProofs [hbg3]
   cases hbg5:(bnot r2)
   ·replace hg5:=ifF hbg5 hg5
    obtain⟨r4,hr4,hg5⟩:=bindE hg5
    obtain rfl:=oi hg5
    try simp -dsimp -implicitDefEqProofs [hbg3,hbg5]
    refine(c21 hr4).app ?_;try simp -dsimp -implicitDefEqProofs [hbg3,hbg5]
    exact k
   ·obtain rfl:=oi (ifT hbg5 hg5)
    try simp -dsimp -implicitDefEqProofs [hbg3,hbg5]
    exact k
  ·obtain rfl:=oi (ifT hbg3 hg3)
   obtain rfl:=oi (ifT rfl hg5)
   try simp -dsimp -implicitDefEqProofs [hbg3]
   exact k) ?_
 refine Cd (fun C1=>?_) fun C1=>?_
 ·replace H:=ifT C1 H
  refine S0 tok [] [6] ?_
  obtain rfl:=oi H;exact AWP_ret ⟨_,rfl,4,by simp[encL_nil]⟩
 ·replace H:=ifF C1 H
  refine AWP_skip (Jn hK1 ?_)
  obtain⟨r6,hr6,H⟩:=bindE H
  obtain⟨v7,hv7,H⟩:=bindE H
  obtain⟨r8,hr8,H⟩:=bindE H
  obtain⟨v9,hv9,H⟩:=bindE H
  refine Sd tok tokM [] [] [0,1,2,3,4,5,6,7] [6] (by
   intro K k
   simp only[pickL,nthO_succ,nthO_zero]
   repeat first|simp -dsimp -implicitDefEqProofs [hv7,hv9]|refine Pc.mk (c166 hr6) ?_|refine Pc.mk (c166 hr8) ?_
   exact k) ?_
  obtain rfl:=oi H;exact AWP_ret ⟨_,rfl,4,by simp[encL_nil]⟩
theorem c147 {p0:Int} {p1:Int} {r:Int} (H:s_SignExtend p0 p1=some r):APure Tryz.prog G 147 [.int .i64 p0,.int .i64 p1] (.int .i64 r):=by
 refine APure_fn (fun N0=>?_) (by simp)
 refine fnK tok Tryz.func147 Tryz.ntmps147 Tryz.results147 ?_
 simp only[argsA,Nat.reduceAdd,hp_next]
 unfold s_SignExtend at H
 refine S0 tok [] [0,1] ?_
 refine AWP_sq [0,1] fun K1 hK1=>?_
 obtain⟨r1,hr1,H⟩:=bindE H
 obtain⟨g4,hg4,H⟩:=bindE H
 refine Sx tok [] [0,1,15] (X:=[(0,.int .i64 p0),(1,.int .i64 p1),(15,.bool g4)]) (Y:=hp E0 [] (N0+12)) (by
  intro K k
  simp -dsimp -implicitDefEqProofs
  refine(c21 hr1).app ?_;try simp -dsimp -implicitDefEqProofs
  cases hbg4:bnot r1
  ·replace hg4:=ifF hbg4 hg4
   obtain⟨r2,hr2,hg4⟩:=bindE hg4
   obtain⟨r3,hr3,hg4⟩:=bindE hg4
   obtain rfl:=oi hg4
   try simp -dsimp -implicitDefEqProofs [hbg4]
   refine(c166 hr2).app ?_;try simp -dsimp -implicitDefEqProofs [hbg4]
   refine(c21 hr3).app ?_;try simp -dsimp -implicitDefEqProofs [hbg4]
   exact k
  ·obtain rfl:=oi (ifT hbg4 hg4)
   try simp -dsimp -implicitDefEqProofs [hbg4]
   exact k) ?_
 refine Cd (fun C1=>?_) fun C1=>?_
 ·replace H:=ifT C1 H
  refine S0 tok [] [4] ?_
  obtain rfl:=oi H;exact AWP_ret ⟨_,rfl,4,by simp[encL_nil]⟩
 ·replace H:=ifF C1 H
  refine AWP_skip (Jn hK1 ?_)
  refine AWP_sq [0] fun K2 hK2=>?_
  obtain⟨r5,hr5,H⟩:=bindE H
  refine Sx tok [] [0,1,20] (by intro K k;(repeat first|simp -dsimp -implicitDefEqProofs|refine(c166 hr5).app ?_);exact k) ?_
  refine Cd (fun C2=>?_) fun C2=>?_
  ·replace H:=ifT C2 H
   obtain⟨r6,hr6,H⟩:=bindE H
   refine Sx tok [] [4] (by intro K k;(repeat first|simp -dsimp -implicitDefEqProofs|refine(c166 hr6).app ?_);exact k) ?_
   obtain rfl:=oi H;exact AWP_ret ⟨_,rfl,4,by simp[encL_nil]⟩
  ·replace H:=ifF C2 H
   refine AWP_skip (Jn hK2 ?_)
   refine S0 tok [] [4] ?_
   obtain rfl:=oi H;exact AWP_ret ⟨_,rfl,4,by simp[encL_nil]⟩
theorem c119 {p0:(List gInstr)} {p1:Int} {p2:Int} {r:(List gInstr)} (H:s_l43Write p0 p1 p2=some r) {σ:AHeap} {w0:Nat} (q0:σ.objs w0=some ⟨103,5,encL rInstr p0⟩):ACalls Tryz.prog G 119 [.sl w0 0 p0.length,.int .i64 p1,.int .i64 p2] σ (fun v σ'=>∃M:Nat,σ.next≤M∧v=.fsl (encL rInstr r)∧σ'=hp σ.objs [(w0,none)] M):=by
 refine ACalls_fr (L:=[(w0,some ⟨103,5,encL rInstr p0⟩)]) (Q1:=fun v σ'=>∃M:Nat,σ.next≤M∧v=.fsl (encL rInstr r)∧σ'=hp E0 [(w0,none)] M) (by simp[q0]) (fun hlt=>?_) ?_ ⟨_,Tryz.func119,rfl,rfl⟩
 rotate_left
 ·rintro v σ1 ⟨M,h0,rfl,rfl⟩
  exact⟨_,M,rfl,by simp,by simp;try omega,M,h0,rfl,rfl⟩
 generalize σ.next=N0 at hlt ⊢
 have lw0:w0<N0:=hlt _ (.head _) rfl
 refine fnK tok Tryz.func119 Tryz.ntmps119 Tryz.results119 ?_
 simp only[argsA,Nat.reduceAdd,hp_next]
 unfold s_l43Write at H
 refine S0 tok [] [0,1,2] ?_
 refine AWP_sq [0,1,2] fun K1 hK1=>?_
 refine S0 tok [] [0,1,2,9] ?_
 refine Cd (fun C1=>?_) fun C1=>?_
 ·replace H:=ifT C1 H
  refine S0 tok [] [6] ?_
  obtain rfl:=oi H
  refine Kp [6] ?_
  refine gFrz AWP_ref 4 [w0] [] [(6,.fsl (encL rInstr p0))] (by simp) (cutD (by simp)) ?_
  refine AWP_ret ?_
  refine⟨[.fsl (encL rInstr p0)],by simp,N0+6,by omega,?_,?_⟩
  ·simp[encL_nil]
  ·symm;first|exact hp_tail (L:=[])|(simp only[List.set_set];exact hp_tail (L:=[]))
 ·replace H:=ifF C1 H
  refine AWP_skip (Jn hK1 ?_)
  obtain⟨l1,hl1,H⟩:=bindE H
  have q0:∀σ i,buildSliceA T 44 true i 1 [(0,.agg [.int .i64 16,.int .i64 0,.int .i64 2,.int .i64 7,.int .i64 (imul .i64 4 (isub .i64 p1 p2))])] σ=some (.fsl (encL rInstr ([(⟨16,0,2,7,imul .i64 4 (isub .i64 p1 p2)⟩:gInstr)]:List gInstr)),σ):=fun _ _=>rfl
  refine Sx tok [6] [6] (by
   intro K k
   have e0:=nQ w0 (N0+11)
   simp -dsimp -implicitDefEqProofs [e0,q0,app44 hl1]
   exact k) ?_
  refine gFrz AWP_ref 4 [N0+11] [] [(6,.fsl (encL rInstr l1))] (by simp) (cutD (by simp)) ?_
  obtain rfl:=oi H
  refine Kp [6] ?_
  refine AWP_ret ?_
  refine⟨[.fsl (encL rInstr l1)],by simp,N0+13,by omega,?_,?_⟩
  ·simp[encL_nil]
  ·symm;first|exact hp_tail (L:=[])|(simp only[List.set_set];exact hp_tail (L:=[]))
theorem c120_o {p0:Int} {p1:Int} {r:(List gInstr)} (H:s_l43Const_o p0 p1=some r) {σ:AHeap}:ACalls Tryz.prog G 120 [.int .i64 p0,.int .i64 p1] σ (fun v σ'=>∃M n0:Nat,σ.next≤M∧σ.next≤n0∧n0<M∧v=.sl n0 0 r.length∧σ'=hp σ.objs [(n0,some ⟨103,5,encL rInstr r⟩)] M):=by
 refine ACalls_fr (L:=[]) (Q1:=fun v σ'=>∃M n0:Nat,σ.next≤M∧σ.next≤n0∧n0<M∧v=.sl n0 0 r.length∧σ'=hp E0 [(n0,some ⟨103,5,encL rInstr r⟩)] M) (by simp[]) (fun hlt=>?_) ?_ ⟨_,Tryz.func120,rfl,rfl⟩
 rotate_left
 ·rintro v σ1 ⟨M,n0,h0,h1,h2,rfl,rfl⟩
  exact⟨_,M,rfl,by simp,by simp;try omega,M,n0,h0,h1,h2,rfl,rfl⟩
 generalize σ.next=N0 at hlt ⊢
 refine fnK tok Tryz.func120 Tryz.ntmps120 Tryz.results120 ?_
 simp only[argsA,Nat.reduceAdd,hp_next]
 unfold s_l43Const_o at H
 refine S0 tok [] [0,1] ?_
 refine AWP_sq [0,1] fun K1 hK1=>?_
 obtain⟨r1,hr1,H⟩:=bindE H
 refine Sx tok [] [0,1,9] (by intro K k;(repeat first|simp -dsimp -implicitDefEqProofs|refine(c21 hr1).app ?_);exact k) ?_
 refine Cd (fun C1=>?_) fun C1=>?_
 ·replace H:=ifT C1 H
  obtain⟨l2,hl2,H⟩:=bindE H
  have q0:∀σ i,buildSliceA T 44 false i 1 [(0,.agg [.int .i64 12,.int .i64 p0,.int .i64 0,.int .i64 0,.int .i64 p1])] σ=some (.sl i 0 (List.length l2),σ.put i ⟨103,5,encL rInstr l2⟩):=by rw[← Option.some.inj hl2];exact fun _ _=>rfl
  refine Sx tok [] [4] (by intro K k;simp -dsimp -implicitDefEqProofs [q0];exact k) ?_
  obtain rfl:=oi H
  refine Kp [4] ?_
  refine AWP_ret ?_
  refine⟨[.sl (N0+6) 0 l2.length],by simp,N0+8,N0+6,by omega,by omega,by omega,?_,?_⟩
  ·simp[encL_nil]
  ·first|rfl|simp[List.set_set]
 ·replace H:=ifF C1 H
  refine AWP_skip (Jn hK1 ?_)
  obtain⟨r3,hr3,H⟩:=bindE H
  obtain⟨r4,hr4,H⟩:=bindE H
  obtain⟨r5,hr5,H⟩:=bindE H
  refine Sx tok [] [0,1,5] (by intro K k;(repeat first|simp -dsimp -implicitDefEqProofs|refine(c104 hr3).app ?_|refine(c148 hr4).app ?_|refine(c147 hr5).app ?_);exact k) ?_
  obtain⟨r6,hr6,H⟩:=bindE H
  obtain⟨r7,hr7,H⟩:=bindE H
  obtain⟨r8,hr8,H⟩:=bindE H
  refine Sx tok [] [0,5,6] (by intro K k;(repeat first|simp -dsimp -implicitDefEqProofs|refine(c136 hr6).app ?_|refine(c104 hr7).app ?_|refine(c148 hr8).app ?_);exact k) ?_
  obtain⟨l9,hl9,H⟩:=bindE H
  have q1:∀σ i,buildSliceA T 44 false i 1 [(0,.agg [.int .i64 19,.int .i64 p0,.int .i64 0,.int .i64 0,.int .i64 r8])] σ=some (.sl i 0 (List.length l9),σ.put i ⟨103,5,encL rInstr l9⟩):=by rw[← Option.some.inj hl9];exact fun _ _=>rfl
  refine Sx tok [] [0,5,7] (by intro K k;simp -dsimp -implicitDefEqProofs [q1];exact k) ?_
  obtain⟨l10,hl10,H⟩:=bindE H
  have q2:∀σ i,buildSliceA T 44 true i 1 [(0,.agg [.int .i64 12,.int .i64 p0,.int .i64 p0,.int .i64 0,.int .i64 r5])] σ=some (.fsl (encL rInstr ([(⟨12,p0,p0,0,r5⟩:gInstr)]:List gInstr)),σ):=fun _ _=>rfl
  refine Sx tok [5] [4] (by intro K k;simp -dsimp -implicitDefEqProofs [q2,app44 hl10];exact k) ?_
  obtain rfl:=oi H
  refine Kp [4] ?_
  refine AWP_ret ?_
  refine⟨[.sl (N0+26) 0 l10.length],by simp,N0+28,N0+26,by omega,by omega,by omega,?_,?_⟩
  ·simp[encL_nil]
  ·first|rfl|simp[List.set_set]
theorem c121 {p0:Int} {p1:Int} {p2:Int} {r:(List gInstr)} (H:s_l43Read p0 p1 p2=some r):APure Tryz.prog G 121 [.int .i64 p0,.int .i64 p1,.int .i64 p2] (.fsl (encL rInstr r)):=by
 refine APure_fn (fun N0=>?_) (by simp)
 refine fnK tok Tryz.func121 Tryz.ntmps121 Tryz.results121 ?_
 simp only[argsA,Nat.reduceAdd,hp_next]
 unfold s_l43Read at H
 refine S0 tok [] [0,1,2] ?_
 refine AWP_sq [0,1,2] fun K1 hK1=>?_
 refine S0 tok [] [0,1,2,9] ?_
 refine Cd (fun C1=>?_) fun C1=>?_
 ·replace H:=ifT C1 H
  have q0:∀σ i,buildSliceA T 44 true i 0 [] σ=some (.esl,σ):=fun _ _=>rfl
  refine Sx tok [0] [6] (by intro K k;simp -dsimp -implicitDefEqProofs [q0];exact k) ?_
  obtain rfl:=oi H;exact AWP_ret ⟨_,rfl,4,by simp[encL_nil]⟩
 ·replace H:=ifF C1 H
  refine AWP_skip (Jn hK1 ?_)
  have q1:∀σ i,buildSliceA T 44 true i 1 [(0,.agg [.int .i64 14,.int .i64 p2,.int .i64 2,.int .i64 0,.int .i64 (imul .i64 4 (isub .i64 p0 p1))])] σ=some (.fsl (encL rInstr ([(⟨14,p2,2,0,imul .i64 4 (isub .i64 p0 p1)⟩:gInstr)]:List gInstr)),σ):=fun _ _=>rfl
  refine Sx tok [6] [6] (by intro K k;simp -dsimp -implicitDefEqProofs [q1];exact k) ?_
  obtain rfl:=oi H;exact AWP_ret ⟨_,rfl,4,by simp[encL_nil]⟩
theorem c122 {p0:Int} {p1:Int} {r:gInstr} (H:s_l43Move p0 p1=some r):APure Tryz.prog G 122 [.int .i64 p0,.int .i64 p1] (.agg [.int .i64 r.Op,.int .i64 r.Rd,.int .i64 r.Rs,.int .i64 r.Rt,.int .i64 r.Imm]):=by
 refine APure_fn (fun N0=>?_) (by simp)
 refine fnK tok Tryz.func122 Tryz.ntmps122 Tryz.results122 ?_
 simp only[argsA,Nat.reduceAdd,hp_next]
 unfold s_l43Move at H
 refine S0 tok [] [0,1,4] ?_
 refine S0 tok [] [4] ?_
 obtain rfl:=oi H
 refine Kp [4] ?_
 refine AWP_ret ?_
 exact⟨[.agg [.int .i64 12,.int .i64 p0,.int .i64 p1,.int .i64 0,.int .i64 0]],by simp,4,by simp[encL_nil]⟩
theorem c121_o {p0:Int} {p1:Int} {p2:Int} {r:(List gInstr)} (H:s_l43Read_o p0 p1 p2=some r) {σ:AHeap}:ACalls Tryz.prog G 121 [.int .i64 p0,.int .i64 p1,.int .i64 p2] σ (fun v σ'=>∃M n0:Nat,σ.next≤M∧σ.next≤n0∧n0<M∧v=.sl n0 0 r.length∧σ'=hp σ.objs [(n0,some ⟨103,5,encL rInstr r⟩)] M):=by
 refine ACalls_fr (L:=[]) (Q1:=fun v σ'=>∃M n0:Nat,σ.next≤M∧σ.next≤n0∧n0<M∧v=.sl n0 0 r.length∧σ'=hp E0 [(n0,some ⟨103,5,encL rInstr r⟩)] M) (by simp[]) (fun hlt=>?_) ?_ ⟨_,Tryz.func121,rfl,rfl⟩
 rotate_left
 ·rintro v σ1 ⟨M,n0,h0,h1,h2,rfl,rfl⟩
  exact⟨_,M,rfl,by simp,by simp;try omega,M,n0,h0,h1,h2,rfl,rfl⟩
 generalize σ.next=N0 at hlt ⊢
 refine fnK tok Tryz.func121 Tryz.ntmps121 Tryz.results121 ?_
 simp only[argsA,Nat.reduceAdd,hp_next]
 unfold s_l43Read_o at H
 refine S0 tok [] [0,1,2] ?_
 refine AWP_sq [0,1,2] fun K1 hK1=>?_
 refine S0 tok [] [0,1,2,9] ?_
 refine Cd (fun C1=>?_) fun C1=>?_
 ·replace H:=ifT C1 H
  have q0:∀σ i,buildSliceA T 44 true i 0 [] σ=some (.esl,σ):=fun _ _=>rfl
  refine Sx tok [0] [6] (by intro K k;simp -dsimp -implicitDefEqProofs [q0];exact k) ?_
  obtain rfl:=oi H
  refine Kp [6] ?_
  refine gNilS AWP_ref 6 103 5 [(N0+6,some ⟨103,5,encL rInstr ([]:List gInstr)⟩)] [(6,.sl (N0+6) 0 ([]:List gInstr).length)] (by simp(disch:=omega)) (by simp(disch:=omega) [encL_nil]) [6] rfl ?_
  refine AWP_ret ?_
  refine⟨[.sl (N0+6) 0 ([]:List gInstr).length],by simp,N0+7,N0+6,by omega,by omega,by omega,?_,?_⟩
  ·simp[encL_nil]
  ·first|rfl|simp[List.set_set]
 ·replace H:=ifF C1 H
  refine AWP_skip (Jn hK1 ?_)
  obtain⟨l1,hl1,H⟩:=bindE H
  have q1:∀σ i,buildSliceA T 44 false i 1 [(0,.agg [.int .i64 14,.int .i64 p2,.int .i64 2,.int .i64 0,.int .i64 (imul .i64 4 (isub .i64 p0 p1))])] σ=some (.sl i 0 (List.length l1),σ.put i ⟨103,5,encL rInstr l1⟩):=by rw[← Option.some.inj hl1];exact fun _ _=>rfl
  refine Sx tok [] [6] (by intro K k;simp -dsimp -implicitDefEqProofs [q1];exact k) ?_
  obtain rfl:=oi H
  refine Kp [6] ?_
  refine AWP_ret ?_
  refine⟨[.sl (N0+10) 0 l1.length],by simp,N0+12,N0+10,by omega,by omega,by omega,?_,?_⟩
  ·simp[encL_nil]
  ·first|rfl|simp[List.set_set]
theorem c149 {p0:Int} {r:Int} (H:s_l43Op p0=some r):APure Tryz.prog G 149 [.int .i64 p0] (.int .i64 r):=by
 refine APure_fn (fun N0=>?_) (by simp)
 refine fnK tok Tryz.func149 Tryz.ntmps149 Tryz.results149 ?_
 simp only[argsA,Nat.reduceAdd,hp_next]
 unfold s_l43Op at H
 refine S0 tok [] [0] ?_
 have q0:∀σ i,buildSliceA T 24 true i 12 [(0,.int .i64 7),(1,.int .i64 8),(2,.int .i64 6),(3,.int .i64 8),(4,.int .i64 11),(5,.int .i64 9),(6,.int .i64 10),(7,.int .i64 1),(8,.int .i64 2),(9,.int .i64 3),(10,.int .i64 4),(11,.int .i64 5)] σ=some (.fsl (encL rI ([7,8,6,8,11,9,10,1,2,3,4,5]:List Int)),σ):=fun _ _=>rfl
 refine Sx tok [0] [0,3] (by intro K k;simp -dsimp -implicitDefEqProofs [q0];exact k) ?_
 obtain⟨v1,hv1,H⟩:=bindE H
 refine Sx tok [] [2] (by intro K k;simp -dsimp -implicitDefEqProofs [ix24 hv1];exact k) ?_
 obtain rfl:=oi H;exact AWP_ret ⟨_,rfl,4,by simp[encL_nil]⟩
theorem c123 {p0:gQuad} {p1:Int} {r:(List gInstr)} (H:s_l43Bin p0 p1=some r):APure Tryz.prog G 123 [.agg [.int .i64 p0.Op,.int .i64 p0.Dst,.int .i64 p0.A,.int .i64 p0.B,.int .i64 p0.N],.int .i64 p1] (.fsl (encL rInstr r)):=by
 refine APure_fn (fun N0=>?_) (by simp)
 refine fnK tok Tryz.func123 Tryz.ntmps123 Tryz.results123 ?_
 simp only[argsA,Nat.reduceAdd,hp_next]
 unfold s_l43Bin at H
 refine S0 tok [0] [1,2] ?_
 obtain⟨r1,hr1,H⟩:=bindE H
 obtain⟨r2,hr2,H⟩:=bindE H
 obtain⟨l3,hl3,H⟩:=bindE H
 refine AWP_sd tok tokM [] [3,8] [0,1,2,4,5,6,3,7,8,9] [1,2,5] (fun a σ=>∃M1 o1:Nat,N0+12≤M1∧N0+12≤o1∧o1<M1∧a=[(1,.int .i64 p1),(2,.fptr [.int .i64 p0.Op,.int .i64 p0.Dst,.int .i64 p0.A,.int .i64 p0.B,.int .i64 p0.N] 0),(5,.sl (N0+10) 0 l3.length)]∧σ=hp E0 [(N0+10,some ⟨103,5,encL rInstr l3⟩)] M1) (by decide) (fun K hK=>?_) ?_
 ·simp only[pickL,nthO_succ,nthO_zero]
  simp -dsimp -implicitDefEqProofs [app44 hl3]
  refine(c121_o (H:=hr1)).mono ?_;rintro _ _ ⟨M1,o1,fM1_0,fM1_1,fM1_2,rfl,rfl⟩;simp only[hp_next] at fM1_0 fM1_1 fM1_2
  have eM1_0:=nQ o1 (N0+10)
  try simp -dsimp -implicitDefEqProofs [app44 hl3,eM1_0,hp_over_some,hp_over_none]
  refine Pc.mk (c121 hr2) ?_;try simp -dsimp -implicitDefEqProofs [app44 hl3,eM1_0,hp_over_some,hp_over_none]
  exact hK _ _ ⟨M1,o1,(by omega),(by omega),(by omega),rfl,rfl⟩
 rintro a σ ⟨M1,o1,fM1_0,fM1_1,fM1_2,rfl,rfl⟩
 obtain⟨r4,hr4,H⟩:=bindE H
 refine Sx tok [] [1,2,5,6] (by intro K k;(repeat first|simp -dsimp -implicitDefEqProofs|refine(c118 hr4).app ?_);exact k) ?_
 obtain⟨r5,hr5,H⟩:=bindE H
 obtain⟨r6,hr6,H⟩:=bindE H
 obtain⟨r7,hr7,H⟩:=bindE H
 obtain⟨l8,hl8,H⟩:=bindE H
 have q0:∀σ i,buildSliceA T 44 true i 1 [(0,.agg [.int .i64 r5,.int .i64 r4,.int .i64 r6,.int .i64 r7,.int .i64 0])] σ=some (.fsl (encL rInstr ([(⟨r5,r4,r6,r7,0⟩:gInstr)]:List gInstr)),σ):=fun _ _=>rfl
 refine Sd tok tokM [14] [15] [0,1,2,3,4,5,6,7,8,9,10,11,12,13,14,15,16] [1,2,5,6] (by
  intro K k
  have e0:=nQ (N0+10) (M1+20)
  have e1:=nQ N0 (M1+10)
  simp only[pickL,nthO_succ,nthO_zero]
  repeat first|simp -dsimp -implicitDefEqProofs [e0,e1,q0,app44 hl8]|refine Pc.mk (c149 hr5) ?_|refine Pc.mk (c118 hr6) ?_|refine Pc.mk (c118 hr7) ?_
  exact k) ?_
 obtain⟨j1,hj1,H⟩:=bindE H
 refine AWP_seq (AWP_named fun K1 hK1=>?_)
 have hJ1:∀a σ,Rc G 50 N0 (fun a σ=>∃M2 o2:Nat,N0≤M2∧N0≤o2∧o2<M2∧a=[(1,.int .i64 p1),(2,.fptr [.int .i64 p0.Op,.int .i64 p0.Dst,.int .i64 p0.A,.int .i64 p0.B,.int .i64 p0.N] 0),(5,.sl o2 0 j1.length)]∧σ=hp E0 [(o2,some ⟨103,5,encL rInstr j1⟩)] M2) (a.keep [1,2,5]) σ→K1 a σ:=by
  rintro a σ ⟨b,τ,hr,M2,o2,fM2_0,fM2_1,fM2_2,rfl,rfl⟩
  refine hK1 _ _ (AWP_keep [1,2,5] (AWP_ref hr ?_))
  obtain⟨r10,hr10,H⟩:=bindE H
  refine AWP_sr tok [] [4] (fun a σ=>∃M3:Nat,M2+6≤M3∧a=[(4,.fsl (encL rInstr r10))]∧σ=hp E0 [] M3) (fun K hK=>?_) ?_
  ·skip
   simp -dsimp -implicitDefEqProofs
   refine(c119 (H:=hr10) (by simp[])).mono ?_;rintro _ _ ⟨M3,fM3_0,rfl,rfl⟩;simp only[hp_next] at fM3_0
   try simp -dsimp -implicitDefEqProofs [hp_over_some,hp_over_none]
   exact hK _ _ ⟨M3,(by omega),rfl,rfl⟩
  rintro a σ ⟨M3,fM3_0,rfl,rfl⟩
  obtain rfl:=oi H;exact AWP_ret ⟨_,rfl,4,by simp[encL_nil]⟩
 replace H:=hj1
 refine S0 tok [] [1,2,5,6,38] ?_
 refine Cd (fun C1=>?_) fun C1=>?_
 ·replace H:=ifT C1 H
  obtain⟨l11,hl11,H⟩:=bindE H
  have q1:∀σ i,buildSliceA T 44 true i 1 [(0,.agg [.int .i64 13,.int .i64 r4,.int .i64 r4,.int .i64 0,.int .i64 1])] σ=some (.fsl (encL rInstr ([(⟨13,r4,r4,0,1⟩:gInstr)]:List gInstr)),σ):=fun _ _=>rfl
  refine Rt tok [4] [1,2,5] (by intro K k;simp -dsimp -implicitDefEqProofs [q1,app44 hl11];exact k) fun a ha=>?_
  obtain rfl:=oi H
  refine hJ1 _ _ ?_;rw[ha]
  exact Rf ⟨M1+32,(M1+30),(by omega),(by omega),(by omega),rfl,rfl⟩
 ·replace H:=ifF C1 H
  refine AWP_skip ?_
  show K1 _ _
  refine kE [1,2,5] fun a' ha=>?_
  obtain rfl:=oi H
  refine hJ1 _ _ ?_;rw[ha]
  exact Rf ⟨M1+25,(M1+20),(by omega),(by omega),(by omega),rfl,rfl⟩
theorem c124 {p0:gQuad} {p1:Int} {p2:Int} {r:(List gInstr)} (H:s_l43Zero p0 p1 p2=some r):APure Tryz.prog G 124 [.agg [.int .i64 p0.Op,.int .i64 p0.Dst,.int .i64 p0.A,.int .i64 p0.B,.int .i64 p0.N],.int .i64 p1,.int .i64 p2] (.fsl (encL rInstr r)):=by
 refine APure_fn (fun N0=>?_) (by simp)
 refine fnK tok Tryz.func124 Tryz.ntmps124 Tryz.results124 ?_
 simp only[argsA,Nat.reduceAdd,hp_next]
 unfold s_l43Zero at H
 refine S0 tok [0] [1,2,3] ?_
 obtain⟨r1,hr1,H⟩:=bindE H
 obtain⟨r2,hr2,H⟩:=bindE H
 obtain⟨l3,hl3,H⟩:=bindE H
 have q0:∀σ i,buildSliceA T 44 true i 1 [(0,.agg [.int .i64 18,.int .i64 0,.int .i64 r2,.int .i64 0,.int .i64 8])] σ=some (.fsl (encL rInstr ([(⟨18,0,r2,0,8⟩:gInstr)]:List gInstr)),σ):=fun _ _=>rfl
 refine AWP_sd tok tokM [9] [3,10] [0,1,2,4,5,6,3,7,8,9,10,11] [2,7] (fun a σ=>∃M1 o1:Nat,N0+14≤M1∧N0+14≤o1∧o1<M1∧a=[(2,.int .i64 p2),(7,.sl (N0+12) 0 l3.length)]∧σ=hp E0 [(N0+12,some ⟨103,5,encL rInstr l3⟩)] M1) (by decide) (fun K hK=>?_) ?_
 ·simp only[pickL,nthO_succ,nthO_zero]
  simp -dsimp -implicitDefEqProofs [q0,app44 hl3]
  refine(c121_o (H:=hr1)).mono ?_;rintro _ _ ⟨M1,o1,fM1_0,fM1_1,fM1_2,rfl,rfl⟩;simp only[hp_next] at fM1_0 fM1_1 fM1_2
  have eM1_0:=nQ o1 (N0+12)
  try simp -dsimp -implicitDefEqProofs [q0,app44 hl3,eM1_0,hp_over_some,hp_over_none]
  refine Pc.mk (c118 hr2) ?_;try simp -dsimp -implicitDefEqProofs [q0,app44 hl3,eM1_0,hp_over_some,hp_over_none]
  exact hK _ _ ⟨M1,o1,(by omega),(by omega),(by omega),rfl,rfl⟩
 rintro a σ ⟨M1,o1,fM1_0,fM1_1,fM1_2,rfl,rfl⟩
 obtain⟨l4,hl4,H⟩:=bindE H
 have q1:∀σ i,buildSliceA T 44 true i 1 [(0,.agg [.int .i64 20,.int .i64 0,.int .i64 0,.int .i64 0,.int .i64 (isub .i64 p2 (imul .i64 4 (ilen l3)))])] σ=some (.fsl (encL rInstr ([(⟨20,0,0,0,isub .i64 p2 (imul .i64 4 (ilen l3))⟩:gInstr)]:List gInstr)),σ):=fun _ _=>rfl
 refine Sx tok [7] [6] (by
  intro K k
  have e0:=nQ (N0+12) (M1+8)
  have e1:=nQ (N0+4) M1
  simp -dsimp -implicitDefEqProofs [e0,e1,q1,app44 hl4]
  exact k) ?_
 refine gFrz AWP_ref 4 [M1+8] [] [(6,.fsl (encL rInstr l4))] (by simp) (cutD (by simp)) ?_
 obtain rfl:=oi H;exact AWP_ret ⟨_,rfl,4,by simp[encL_nil]⟩
theorem c127 {p0:Int} {r:gInstr} (H:s_l43Box p0=some r):APure Tryz.prog G 127 [.int .i64 p0] (.agg [.int .i64 r.Op,.int .i64 r.Rd,.int .i64 r.Rs,.int .i64 r.Rt,.int .i64 r.Imm]):=by
 refine APure_fn (fun N0=>?_) (by simp)
 refine fnK tok Tryz.func127 Tryz.ntmps127 Tryz.results127 ?_
 simp only[argsA,Nat.reduceAdd,hp_next]
 unfold s_l43Box at H
 refine S0 tok [] [0,2] ?_
 refine S0 tok [] [2] ?_
 obtain rfl:=oi H
 refine Kp [2] ?_
 refine AWP_ret ?_
 exact⟨[.agg [.int .i64 12,.int .i64 11,.int .i64 0,.int .i64 0,.int .i64 p0]],by simp,4,by simp[encL_nil]⟩
theorem c126_o {p0:Int} {p1:Int} {r:(List gInstr)} (H:s_l43Give_o p0 p1=some r) {σ:AHeap}:ACalls Tryz.prog G 126 [.int .i64 p0,.int .i64 p1] σ (fun v σ'=>∃M n0:Nat,σ.next≤M∧σ.next≤n0∧n0<M∧v=.sl n0 0 r.length∧σ'=hp σ.objs [(n0,some ⟨103,5,encL rInstr r⟩)] M):=by
 refine ACalls_fr (L:=[]) (Q1:=fun v σ'=>∃M n0:Nat,σ.next≤M∧σ.next≤n0∧n0<M∧v=.sl n0 0 r.length∧σ'=hp E0 [(n0,some ⟨103,5,encL rInstr r⟩)] M) (by simp[]) (fun hlt=>?_) ?_ ⟨_,Tryz.func126,rfl,rfl⟩
 rotate_left
 ·rintro v σ1 ⟨M,n0,h0,h1,h2,rfl,rfl⟩
  exact⟨_,M,rfl,by simp,by simp;try omega,M,n0,h0,h1,h2,rfl,rfl⟩
 generalize σ.next=N0 at hlt ⊢
 refine fnK tok Tryz.func126 Tryz.ntmps126 Tryz.results126 ?_
 simp only[argsA,Nat.reduceAdd,hp_next]
 unfold s_l43Give_o at H
 refine S0 tok [] [0,1] ?_
 obtain⟨r1,hr1,H⟩:=bindE H
 obtain⟨r2,hr2,H⟩:=bindE H
 obtain⟨r3,hr3,H⟩:=bindE H
 obtain⟨l4,hl4,H⟩:=bindE H
 have q0:∀σ i,buildSliceA T 44 true i 1 [(0,.agg [.int .i64 r3.Op,.int .i64 r3.Rd,.int .i64 r3.Rs,.int .i64 r3.Rt,.int .i64 r3.Imm])] σ=some (.fsl (encL rInstr ([r3]:List gInstr)),σ):=fun _ _=>rfl
 refine AWP_sr tok [7] [4] (fun a σ=>∃M1 o1:Nat,N0+11≤M1∧N0+11≤o1∧o1<M1∧a=[(4,.sl (N0+9) 0 l4.length)]∧σ=hp E0 [(N0+9,some ⟨103,5,encL rInstr l4⟩)] M1) (fun K hK=>?_) ?_
 ·skip
  simp -dsimp -implicitDefEqProofs [q0,app44 hl4]
  refine(c121_o (H:=hr1)).mono ?_;rintro _ _ ⟨M1,o1,fM1_0,fM1_1,fM1_2,rfl,rfl⟩;simp only[hp_next] at fM1_0 fM1_1 fM1_2
  have eM1_0:=nQ o1 (N0+9)
  try simp -dsimp -implicitDefEqProofs [q0,app44 hl4,eM1_0,hp_over_some,hp_over_none]
  refine(c118 hr2).app ?_;try simp -dsimp -implicitDefEqProofs [q0,app44 hl4,eM1_0,hp_over_some,hp_over_none]
  refine(c122 hr3).app ?_;try simp -dsimp -implicitDefEqProofs [q0,app44 hl4,eM1_0,hp_over_some,hp_over_none]
  exact hK _ _ ⟨M1,o1,(by omega),(by omega),(by omega),rfl,rfl⟩
 rintro a σ ⟨M1,o1,fM1_0,fM1_1,fM1_2,rfl,rfl⟩
 obtain rfl:=oi H
 refine Kp [4] ?_
 refine AWP_ret ?_
 refine⟨[.sl (N0+9) 0 l4.length],by simp,M1,N0+9,by omega,by omega,by omega,?_,?_⟩
 ·simp[encL_nil]
 ·first|rfl|simp[List.set_set]
theorem c125 {p0:(List gInstr)} {p1:Int} {r:(List gInstr)} (H:s_l43Call p0 p1=some r) {σ:AHeap} {w0:Nat} (q0:σ.objs w0=some ⟨103,5,encL rInstr p0⟩):ACalls Tryz.prog G 125 [.sl w0 0 p0.length,.int .i64 p1] σ (fun v σ'=>∃M:Nat,σ.next≤M∧v=.fsl (encL rInstr r)∧σ'=hp σ.objs [(w0,none)] M):=by
 refine ACalls_fr (L:=[(w0,some ⟨103,5,encL rInstr p0⟩)]) (Q1:=fun v σ'=>∃M:Nat,σ.next≤M∧v=.fsl (encL rInstr r)∧σ'=hp E0 [(w0,none)] M) (by simp[q0]) (fun hlt=>?_) ?_ ⟨_,Tryz.func125,rfl,rfl⟩
 rotate_left
 ·rintro v σ1 ⟨M,h0,rfl,rfl⟩
  exact⟨_,M,rfl,by simp,by simp;try omega,M,h0,rfl,rfl⟩
 generalize σ.next=N0 at hlt ⊢
 have lw0:w0<N0:=hlt _ (.head _) rfl
 refine fnK tok Tryz.func125 Tryz.ntmps125 Tryz.results125 ?_
 simp only[argsA,Nat.reduceAdd,hp_next]
 unfold s_l43Call at H
 refine S0 tok [] [0,1] ?_
 obtain⟨l1,hl1,H⟩:=bindE H
 have q0:∀σ i,buildSliceA T 44 true i 1 [(0,.agg [.int .i64 12,.int .i64 17,.int .i64 0,.int .i64 0,.int .i64 p1])] σ=some (.fsl (encL rInstr ([(⟨12,17,0,0,p1⟩:gInstr)]:List gInstr)),σ):=fun _ _=>rfl
 refine Sx tok [3] [0] (by
  intro K k
  have e0:=nQ w0 (N0+5)
  simp -dsimp -implicitDefEqProofs [e0,q0,app44 hl1]
  exact k) ?_
 obtain⟨l2,hl2,H⟩:=bindE H
 have q1:∀σ i,buildSliceA T 44 true i 1 [(0,.agg [.int .i64 15,.int .i64 1,.int .i64 0,.int .i64 0,.int .i64 0])] σ=some (.fsl (encL rInstr ([(⟨15,1,0,0,0⟩:gInstr)]:List gInstr)),σ):=fun _ _=>rfl
 refine Sx tok [2] [4] (by intro K k;simp -dsimp -implicitDefEqProofs [q1,app44 hl2];exact k) ?_
 refine gFrz AWP_ref 4 [N0+10] [] [(4,.fsl (encL rInstr l2))] (by simp) (cutD (by simp)) ?_
 obtain rfl:=oi H
 refine Kp [4] ?_
 refine AWP_ret ?_
 refine⟨[.fsl (encL rInstr l2)],by simp,N0+12,by omega,?_,?_⟩
 ·simp[encL_nil]
 ·symm;first|exact hp_tail (L:=[])|(simp only[List.set_set];exact hp_tail (L:=[]))
theorem c125_o {p0:(List gInstr)} {p1:Int} {r:(List gInstr)} (H:s_l43Call_o p0 p1=some r) {σ:AHeap} {w0:Nat} (q0:σ.objs w0=some ⟨103,5,encL rInstr p0⟩):ACalls Tryz.prog G 125 [.sl w0 0 p0.length,.int .i64 p1] σ (fun v σ'=>∃M n0:Nat,σ.next≤M∧σ.next≤n0∧n0<M∧v=.sl n0 0 r.length∧σ'=hp σ.objs [(n0,some ⟨103,5,encL rInstr r⟩),(w0,none)] M):=by
 refine ACalls_fr (L:=[(w0,some ⟨103,5,encL rInstr p0⟩)]) (Q1:=fun v σ'=>∃M n0:Nat,σ.next≤M∧σ.next≤n0∧n0<M∧v=.sl n0 0 r.length∧σ'=hp E0 [(n0,some ⟨103,5,encL rInstr r⟩),(w0,none)] M) (by simp[q0]) (fun hlt=>?_) ?_ ⟨_,Tryz.func125,rfl,rfl⟩
 rotate_left
 ·rintro v σ1 ⟨M,n0,h0,h1,h2,rfl,rfl⟩
  exact⟨_,M,rfl,by simp,by simp;try omega,M,n0,h0,h1,h2,rfl,rfl⟩
 generalize σ.next=N0 at hlt ⊢
 have lw0:w0<N0:=hlt _ (.head _) rfl
 refine fnK tok Tryz.func125 Tryz.ntmps125 Tryz.results125 ?_
 simp only[argsA,Nat.reduceAdd,hp_next]
 unfold s_l43Call_o at H
 refine S0 tok [] [0,1] ?_
 obtain⟨l1,hl1,H⟩:=bindE H
 have q0:∀σ i,buildSliceA T 44 true i 1 [(0,.agg [.int .i64 12,.int .i64 17,.int .i64 0,.int .i64 0,.int .i64 p1])] σ=some (.fsl (encL rInstr ([(⟨12,17,0,0,p1⟩:gInstr)]:List gInstr)),σ):=fun _ _=>rfl
 refine Sx tok [3] [0] (by
  intro K k
  have e0:=nQ w0 (N0+5)
  simp -dsimp -implicitDefEqProofs [e0,q0,app44 hl1]
  exact k) ?_
 obtain⟨l2,hl2,H⟩:=bindE H
 have q1:∀σ i,buildSliceA T 44 true i 1 [(0,.agg [.int .i64 15,.int .i64 1,.int .i64 0,.int .i64 0,.int .i64 0])] σ=some (.fsl (encL rInstr ([(⟨15,1,0,0,0⟩:gInstr)]:List gInstr)),σ):=fun _ _=>rfl
 refine Sx tok [2] [4] (by intro K k;simp -dsimp -implicitDefEqProofs [q1,app44 hl2];exact k) ?_
 obtain rfl:=oi H
 refine Kp [4] ?_
 refine AWP_ret ?_
 refine⟨[.sl (N0+10) 0 l2.length],by simp,N0+12,N0+10,by omega,by omega,by omega,?_,?_⟩
 ·simp[encL_nil]
 ·symm;first|exact hp_tail (L:=[(N0+10,some ⟨103,5,encL rInstr l2⟩)])|(simp only[List.set_set];exact hp_tail (L:=[(N0+10,some ⟨103,5,encL rInstr l2⟩)]))
theorem c95 {p0:gQuad} {p1:Int} {p2:Int} {r:(List gInstr)} (H:s_l43Quad p0 p1 p2=some r):APure Tryz.prog G 95 [.agg [.int .i64 p0.Op,.int .i64 p0.Dst,.int .i64 p0.A,.int .i64 p0.B,.int .i64 p0.N],.int .i64 p1,.int .i64 p2] (.fsl (encL rInstr r)):=by
 refine APure_fn (fun N0=>?_) (by simp)
 refine fnK tok Tryz.func95 Tryz.ntmps95 Tryz.results95 ?_
 simp only[argsA,Nat.reduceAdd,hp_next]
 unfold s_l43Quad at H
 refine S0 tok [0] [1,2,3] ?_
 obtain⟨r1,hr1,H⟩:=bindE H
 refine Sx tok [] [1,2,3,7] (by intro K k;(repeat first|simp -dsimp -implicitDefEqProofs|refine(c118 hr1).app ?_);exact k) ?_
 refine AWP_sq [] fun K1 hK1=>?_
 refine S0 tok [] [1,2,3,7,14] ?_
 refine AWP_block (AWP_thenB ?_)
 refine S0 tok [] [1,2,3,7,14,15] ?_
 refine Cd (fun C1=>?_) fun C1=>?_
 ·replace H:=ifT C1 H
  obtain⟨r2,hr2,H⟩:=bindE H
  obtain⟨r3,hr3,H⟩:=bindE H
  refine AWP_sd tok tokM [] [3,7] [0,1,2,4,5,6,3,7,8] [6] (fun a σ=>∃M1 o1:Nat,∃M2:Nat,N0+20≤M1∧N0+20≤o1∧o1<M1∧M1≤M2∧a=[(6,.fsl (encL rInstr r3))]∧σ=hp E0 [] M2) (by decide) (fun K hK=>?_) ?_
  ·simp only[pickL,nthO_succ,nthO_zero]
   simp -dsimp -implicitDefEqProofs
   refine(c120_o (H:=hr2)).mono ?_;rintro _ _ ⟨M1,o1,fM1_0,fM1_1,fM1_2,rfl,rfl⟩;simp only[hp_next] at fM1_0 fM1_1 fM1_2
   try simp -dsimp -implicitDefEqProofs [hp_over_some,hp_over_none]
   refine(c119 (H:=hr3) (by simp[hp_over_some,hp_over_none])).mono ?_;rintro _ _ ⟨M2,fM2_0,rfl,rfl⟩;simp only[hp_next] at fM2_0
   try simp -dsimp -implicitDefEqProofs [hp_over_some,hp_over_none,hp_over_some,hp_over_none]
   exact hK _ _ ⟨M1,o1,M2,(by omega),(by omega),(by omega),(by omega),rfl,rfl⟩
  rintro a σ ⟨M1,o1,M2,fM1_0,fM1_1,fM1_2,fM2_0,rfl,rfl⟩
  obtain rfl:=oi H;exact AWP_ret ⟨_,rfl,4,by simp[encL_nil]⟩
 ·replace H:=ifF C1 H
  refine S0 tok [] [1,2,3,7,14,25] ?_
  refine Cd (fun C2=>?_) fun C2=>?_
  ·replace H:=ifT C2 H
   obtain⟨r4,hr4,H⟩:=bindE H
   obtain⟨r5,hr5,H⟩:=bindE H
   obtain⟨r6,hr6,H⟩:=bindE H
   obtain⟨l7,hl7,H⟩:=bindE H
   obtain⟨r8,hr8,H⟩:=bindE H
   have q0:∀σ i,buildSliceA T 44 true i 1 [(0,.agg [.int .i64 r6.Op,.int .i64 r6.Rd,.int .i64 r6.Rs,.int .i64 r6.Rt,.int .i64 r6.Imm])] σ=some (.fsl (encL rInstr ([r6]:List gInstr)),σ):=fun _ _=>rfl
   refine AWP_sd tok tokM [10] [3,11,15] [0,1,2,4,5,6,7,12,13,14,3,8,9,10,11,15,16] [6] (fun a σ=>∃M3 o2:Nat,∃M4:Nat,N0+30≤M3∧N0+30≤o2∧o2<M3∧M3≤M4∧a=[(6,.fsl (encL rInstr r8))]∧σ=hp E0 [] M4) (by decide) (fun K hK=>?_) ?_
   ·simp only[pickL,nthO_succ,nthO_zero]
    simp -dsimp -implicitDefEqProofs [q0,app44 hl7]
    refine(c121_o (H:=hr4)).mono ?_;rintro _ _ ⟨M3,o2,fM3_0,fM3_1,fM3_2,rfl,rfl⟩;simp only[hp_next] at fM3_0 fM3_1 fM3_2
    have eM3_0:=nQ o2 (N0+24)
    try simp -dsimp -implicitDefEqProofs [q0,app44 hl7,eM3_0,hp_over_some,hp_over_none]
    refine Pc.mk (c118 hr5) ?_;try simp -dsimp -implicitDefEqProofs [q0,app44 hl7,eM3_0,hp_over_some,hp_over_none]
    refine Pc.mk (c122 hr6) ?_;try simp -dsimp -implicitDefEqProofs [q0,app44 hl7,eM3_0,hp_over_some,hp_over_none]
    refine(c119 (H:=hr8) (by simp[q0,app44 hl7,eM3_0,hp_over_some,hp_over_none])).mono ?_;rintro _ _ ⟨M4,fM4_0,rfl,rfl⟩;simp only[hp_next] at fM4_0
    try simp -dsimp -implicitDefEqProofs [q0,app44 hl7,eM3_0,hp_over_some,hp_over_none,hp_over_some,hp_over_none]
    exact hK _ _ ⟨M3,o2,M4,(by omega),(by omega),(by omega),(by omega),rfl,rfl⟩
   rintro a σ ⟨M3,o2,M4,fM3_0,fM3_1,fM3_2,fM4_0,rfl,rfl⟩
   refine gFrz AWP_ref 4 [] [] [(6,.fsl (encL rInstr r8))] (by simp) (cutD (by simp)) ?_
   obtain rfl:=oi H;exact AWP_ret ⟨_,rfl,4,by simp[encL_nil]⟩
  ·replace H:=ifF C2 H
   refine S0 tok [] [1,2,3,7,14,43] ?_
   refine Cd (fun C3=>?_) fun C3=>?_
   ·replace H:=ifT C3 H
    obtain⟨r9,hr9,H⟩:=bindE H
    refine Sx tok [] [6] (by intro K k;(repeat first|simp -dsimp -implicitDefEqProofs|refine(c123 hr9).app ?_);exact k) ?_
    obtain rfl:=oi H;exact AWP_ret ⟨_,rfl,4,by simp[encL_nil]⟩
   ·replace H:=ifF C3 H
    refine S0 tok [] [1,2,3,7,14,48] ?_
    refine Cd (fun C4=>?_) fun C4=>?_
    ·replace H:=ifT C4 H
     have q1:∀σ i,buildSliceA T 44 true i 1 [(0,.agg [.int .i64 20,.int .i64 0,.int .i64 0,.int .i64 0,.int .i64 p2])] σ=some (.fsl (encL rInstr ([(⟨20,0,0,0,p2⟩:gInstr)]:List gInstr)),σ):=fun _ _=>rfl
     refine Sx tok [2] [6] (by intro K k;simp -dsimp -implicitDefEqProofs [q1];exact k) ?_
     obtain rfl:=oi H;exact AWP_ret ⟨_,rfl,4,by simp[encL_nil]⟩
    ·replace H:=ifF C4 H
     refine S0 tok [] [1,2,3,7,14,53] ?_
     refine Cd (fun C5=>?_) fun C5=>?_
     ·replace H:=ifT C5 H
      obtain⟨r10,hr10,H⟩:=bindE H
      refine Sx tok [] [6] (by intro K k;(repeat first|simp -dsimp -implicitDefEqProofs|refine(c124 hr10).app ?_);exact k) ?_
      obtain rfl:=oi H;exact AWP_ret ⟨_,rfl,4,by simp[encL_nil]⟩
     ·replace H:=ifF C5 H
      refine S0 tok [] [1,3,7,14,59] ?_
      refine Cd (fun C6=>?_) fun C6=>?_
      ·replace H:=ifT C6 H
       obtain⟨r11,hr11,H⟩:=bindE H
       obtain⟨r12,hr12,H⟩:=bindE H
       obtain⟨l13,hl13,H⟩:=bindE H
       obtain⟨r14,hr14,H⟩:=bindE H
       have q2:∀σ i,buildSliceA T 44 true i 1 [(0,.agg [.int .i64 r12.Op,.int .i64 r12.Rd,.int .i64 r12.Rs,.int .i64 r12.Rt,.int .i64 r12.Imm])] σ=some (.fsl (encL rInstr ([r12]:List gInstr)),σ):=fun _ _=>rfl
       refine AWP_sd tok tokM [7] [3,8,9] [0,1,2,4,5,3,6,7,8,9,10] [6] (fun a σ=>∃M5 o3:Nat,∃M6:Nat,N0+32≤M5∧N0+32≤o3∧o3<M5∧M5≤M6∧a=[(6,.fsl (encL rInstr r14))]∧σ=hp E0 [] M6) (by decide) (fun K hK=>?_) ?_
       ·simp only[pickL,nthO_succ,nthO_zero]
        simp -dsimp -implicitDefEqProofs [q2,app44 hl13]
        refine(c126_o (H:=hr11)).mono ?_;rintro _ _ ⟨M5,o3,fM5_0,fM5_1,fM5_2,rfl,rfl⟩;simp only[hp_next] at fM5_0 fM5_1 fM5_2
        have eM5_0:=nQ o3 (N0+29)
        try simp -dsimp -implicitDefEqProofs [q2,app44 hl13,eM5_0,hp_over_some,hp_over_none]
        refine Pc.mk (c127 hr12) ?_;try simp -dsimp -implicitDefEqProofs [q2,app44 hl13,eM5_0,hp_over_some,hp_over_none]
        refine(c125 (H:=hr14) (by simp[q2,app44 hl13,eM5_0,hp_over_some,hp_over_none])).mono ?_;rintro _ _ ⟨M6,fM6_0,rfl,rfl⟩;simp only[hp_next] at fM6_0
        try simp -dsimp -implicitDefEqProofs [q2,app44 hl13,eM5_0,hp_over_some,hp_over_none,hp_over_some,hp_over_none]
        exact hK _ _ ⟨M5,o3,M6,(by omega),(by omega),(by omega),(by omega),rfl,rfl⟩
       rintro a σ ⟨M5,o3,M6,fM5_0,fM5_1,fM5_2,fM6_0,rfl,rfl⟩
       refine gFrz AWP_ref 4 [] [] [(6,.fsl (encL rInstr r14))] (by simp) (cutD (by simp)) ?_
       obtain rfl:=oi H;exact AWP_ret ⟨_,rfl,4,by simp[encL_nil]⟩
      ·replace H:=ifF C6 H
       refine S0 tok [] [1,3,7,14,71] ?_
       refine Cd (fun C7=>?_) fun C7=>?_
       ·replace H:=ifT C7 H
        obtain⟨r15,hr15,H⟩:=bindE H
        obtain⟨l16,hl16,H⟩:=bindE H
        obtain⟨r17,hr17,H⟩:=bindE H
        have q3:∀σ i,buildSliceA T 44 false i 1 [(0,.agg [.int .i64 r15.Op,.int .i64 r15.Rd,.int .i64 r15.Rs,.int .i64 r15.Rt,.int .i64 r15.Imm])] σ=some (.sl i 0 (List.length l16),σ.put i ⟨103,5,encL rInstr l16⟩):=by rw[← Option.some.inj hl16];exact fun _ _=>rfl
        refine AWP_sr tok [] [1,3,7,8] (fun a σ=>∃M7 o4:Nat,N0+29≤M7∧N0+29≤o4∧o4<M7∧a=[(1,.int .i64 p1),(3,.fptr [.int .i64 p0.Op,.int .i64 p0.Dst,.int .i64 p0.A,.int .i64 p0.B,.int .i64 p0.N] 0),(7,.int .i64 r1),(8,.sl o4 0 r17.length)]∧σ=hp E0 [(o4,some ⟨103,5,encL rInstr r17⟩)] M7) (fun K hK=>?_) ?_
        ·skip
         simp -dsimp -implicitDefEqProofs [q3]
         refine(c127 hr15).app ?_;try simp -dsimp -implicitDefEqProofs [q3]
         refine(c125_o (H:=hr17) (by simp[q3])).mono ?_;rintro _ _ ⟨M7,o4,fM7_0,fM7_1,fM7_2,rfl,rfl⟩;simp only[hp_next] at fM7_0 fM7_1 fM7_2
         have eM7_0:=nQ o4 (N0+26)
         try simp -dsimp -implicitDefEqProofs [q3,eM7_0,hp_over_some,hp_over_none]
         exact hK _ _ ⟨M7,o4,(by omega),(by omega),(by omega),rfl,rfl⟩
        rintro a σ ⟨M7,o4,fM7_0,fM7_1,fM7_2,rfl,rfl⟩
        obtain⟨r18,hr18,H⟩:=bindE H
        obtain⟨l19,hl19,H⟩:=bindE H
        obtain⟨r20,hr20,H⟩:=bindE H
        have q4:∀σ i,buildSliceA T 44 true i 1 [(0,.agg [.int .i64 r18.Op,.int .i64 r18.Rd,.int .i64 r18.Rs,.int .i64 r18.Rt,.int .i64 r18.Imm])] σ=some (.fsl (encL rInstr ([r18]:List gInstr)),σ):=fun _ _=>rfl
        refine AWP_sd tok tokM [3] [4,8] [0,1,2,3,5,6,7,4,8,9] [6] (fun a σ=>∃M8:Nat,M7+10≤M8∧a=[(6,.fsl (encL rInstr r20))]∧σ=hp E0 [] M8) (by decide) (fun K hK=>?_) ?_
        ·simp only[pickL,nthO_succ,nthO_zero]
         have e0:=nQ o4 (M7+4)
         simp -dsimp -implicitDefEqProofs [e0,q4,app44 hl19]
         refine Pc.mk (c122 hr18) ?_;try simp -dsimp -implicitDefEqProofs [e0,q4,app44 hl19]
         refine(c119 (H:=hr20) (by simp[e0,q4,app44 hl19])).mono ?_;rintro _ _ ⟨M8,fM8_0,rfl,rfl⟩;simp only[hp_next] at fM8_0
         try simp -dsimp -implicitDefEqProofs [e0,q4,app44 hl19,hp_over_some,hp_over_none]
         exact hK _ _ ⟨M8,(by omega),rfl,rfl⟩
        rintro a σ ⟨M8,fM8_0,rfl,rfl⟩
        refine gFrz AWP_ref 4 [] [] [(6,.fsl (encL rInstr r20))] (by simp) (cutD (by simp)) ?_
        obtain rfl:=oi H;exact AWP_ret ⟨_,rfl,4,by simp[encL_nil]⟩
       ·replace H:=ifF C7 H
        refine S0 tok [] [1,3,14,87] ?_
        refine Cd (fun C8=>?_) fun C8=>?_
        ·replace H:=ifT C8 H
         obtain⟨l21,hl21,H⟩:=bindE H
         obtain⟨r22,hr22,H⟩:=bindE H
         have q5:∀σ i,buildSliceA T 44 false i 0 [] σ=some (.sl i 0 (List.length l21),σ.put i ⟨103,5,encL rInstr l21⟩):=by rw[← Option.some.inj hl21];exact fun _ _=>rfl
         refine AWP_sr tok [] [6] (fun a σ=>∃M9:Nat,N0+28≤M9∧a=[(6,.fsl (encL rInstr r22))]∧σ=hp E0 [] M9) (fun K hK=>?_) ?_
         ·skip
          simp -dsimp -implicitDefEqProofs [q5]
          refine(c125 (H:=hr22) (by simp[q5])).mono ?_;rintro _ _ ⟨M9,fM9_0,rfl,rfl⟩;simp only[hp_next] at fM9_0
          try simp -dsimp -implicitDefEqProofs [q5,hp_over_some,hp_over_none]
          exact hK _ _ ⟨M9,(by omega),rfl,rfl⟩
         rintro a σ ⟨M9,fM9_0,rfl,rfl⟩
         obtain rfl:=oi H;exact AWP_ret ⟨_,rfl,4,by simp[encL_nil]⟩
        ·replace H:=ifF C8 H
         refine S0 tok [] [1,3,91] ?_
         refine Cd (fun C9=>?_) fun C9=>?_
         ·replace H:=ifT C9 H
          obtain⟨r23,hr23,H⟩:=bindE H
          obtain⟨r24,hr24,H⟩:=bindE H
          refine AWP_sr tok [] [6] (fun a σ=>∃M10 o5:Nat,∃M11:Nat,N0+33≤M10∧N0+33≤o5∧o5<M10∧M10≤M11∧a=[(6,.fsl (encL rInstr r24))]∧σ=hp E0 [] M11) (fun K hK=>?_) ?_
          ·skip
           simp -dsimp -implicitDefEqProofs
           refine(c126_o (H:=hr23)).mono ?_;rintro _ _ ⟨M10,o5,fM10_0,fM10_1,fM10_2,rfl,rfl⟩;simp only[hp_next] at fM10_0 fM10_1 fM10_2
           try simp -dsimp -implicitDefEqProofs [hp_over_some,hp_over_none]
           refine(c125 (H:=hr24) (by simp[hp_over_some,hp_over_none])).mono ?_;rintro _ _ ⟨M11,fM11_0,rfl,rfl⟩;simp only[hp_next] at fM11_0
           try simp -dsimp -implicitDefEqProofs [hp_over_some,hp_over_none,hp_over_some,hp_over_none]
           exact hK _ _ ⟨M10,o5,M11,(by omega),(by omega),(by omega),(by omega),rfl,rfl⟩
          rintro a σ ⟨M10,o5,M11,fM10_0,fM10_1,fM10_2,fM11_0,rfl,rfl⟩
          obtain rfl:=oi H;exact AWP_ret ⟨_,rfl,4,by simp[encL_nil]⟩
         ·replace H:=ifF C9 H
          refine AWP_skip (Jn hK1 ?_)
          obtain⟨l25,hl25,H⟩:=bindE H
          obtain⟨r26,hr26,H⟩:=bindE H
          have q6:∀σ i,buildSliceA T 44 false i 0 [] σ=some (.sl i 0 (List.length l25),σ.put i ⟨103,5,encL rInstr l25⟩):=by rw[← Option.some.inj hl25];exact fun _ _=>rfl
          refine AWP_sr tok [] [6] (fun a σ=>∃M12:Nat,N0+30≤M12∧a=[(6,.fsl (encL rInstr r26))]∧σ=hp E0 [] M12) (fun K hK=>?_) ?_
          ·skip
           simp -dsimp -implicitDefEqProofs [q6]
           refine(c125 (H:=hr26) (by simp[q6])).mono ?_;rintro _ _ ⟨M12,fM12_0,rfl,rfl⟩;simp only[hp_next] at fM12_0
           try simp -dsimp -implicitDefEqProofs [q6,hp_over_some,hp_over_none]
           exact hK _ _ ⟨M12,(by omega),rfl,rfl⟩
          rintro a σ ⟨M12,fM12_0,rfl,rfl⟩
          obtain rfl:=oi H;exact AWP_ret ⟨_,rfl,4,by simp[encL_nil]⟩
theorem c48 {p0:(List gQuad)} {p1:Int} {r:(List Int)} (H:s_l43Places p0 p1=some r):APure Tryz.prog G 48 [.fsl (encL rQuad p0),.int .i64 p1] (.fsl (encL rI r)):=by
 refine APure_fn (fun N0=>?_) (by simp)
 refine fnK tok Tryz.func48 Tryz.ntmps48 Tryz.results48 ?_
 simp only[argsA,Nat.reduceAdd,hp_next]
 unfold s_l43Places at H
 refine S0 tok [] [0,1] ?_
 have q0:∀σ i,buildSliceA T 24 true i 0 [] σ=some (.esl,σ):=fun _ _=>rfl
 refine Sx tok [0] [0,1,5] (by intro K k;simp -dsimp -implicitDefEqProofs [q0];exact k) ?_
 refine S0 tok [] [0,1,5,6] ?_
 refine AWP_sq [5] fun K1 hK1=>?_
 refine S0 tok [] [0,1,5,6,7] ?_
 refine AWP_block (AWP_thenB ?_)
 obtain⟨e1,hse1,H⟩:=bindE H
 refine AWP_lp [0,1,5,6,7] (fun s a σ=>∃M1 o1:Nat,N0≤M1∧N0≤o1∧o1<M1∧a=[(0,.fsl (encL rQuad p0)),(1,.int .i64 p1),(5,.sl o1 0 s.2.2.length),(6,.int .i64 s.1),(7,.int .i64 s.2.1)]∧σ=hp E0 [(o1,some ⟨3,1,encL rI s.2.2⟩)] M1) (fun s x a σ=>x=.exit 0∧Rc G 29 N0 (fun a σ=>∃M2 o2:Nat,N0≤M2∧N0≤o2∧o2<M2∧a=[(5,.sl o2 0 s.length)]∧σ=hp E0 [(o2,some ⟨3,1,encL rI s⟩)] M2) (AAct.keep a [5]) σ) hse1 ?_ ?_ ?_
 ·refine Rc.kp [0,1,5,6,7] [(0,.fsl (encL rQuad p0)),(1,.int .i64 p1),(5,.esl),(6,.int .i64 0),(7,.int .i64 0)] rfl ?_
  refine gNilS Rc_ref 5 3 1 [(N0+5,some ⟨3,1,encL rI ([]:List Int)⟩)] [(0,.fsl (encL rQuad p0)),(1,.int .i64 p1),(5,.sl (N0+5) 0 ([]:List Int).length),(6,.int .i64 0),(7,.int .i64 0)] (by simp(disch:=omega)) (by simp(disch:=omega) [encL_nil]) [0,1,5,6,7] rfl ?_
  exact Rf ⟨N0+6,(N0+5),(by omega),(by omega),(by omega),rfl,rfl⟩
 ·clear H hse1
  rintro⟨s1,s2,s3⟩ fl a σ H ⟨M1,o1,fM1_0,fM1_1,fM1_2,rfl,rfl⟩ K2 O2 hK2 hO2
  unfold s_l43Places_L1 at H;dsimp only at H
  refine AWP_sq [0,1,5,6,7] fun K3 hK3=>?_
  refine S0 tok [] [0,1,5,6,7,12] ?_
  refine Cd (fun C1=>?_) fun C1=>?_
  ·replace H:=ifT C1 H
   refine AWP_skip (Jn hK3 ?_)
   refine AWP_sq [0,1,5,6,7] fun K4 hK4=>?_
   refine AWP_block (AWP_thenB ?_)
   obtain⟨l5,hl5,H⟩:=bindE H
   have q1:∀σ i,buildSliceA T 24 true i 1 [(0,.int .i64 s1)] σ=some (.fsl (encL rI ([s1]:List Int)),σ):=fun _ _=>rfl
   refine Sx tok [2] [0,1,5,6,7] (by
    intro K k
    have e0:=nQ o1 (M1+7)
    simp -dsimp -implicitDefEqProofs [e0,q1,app24 hl5]
    exact k) ?_
   obtain⟨v6,hv6,H⟩:=bindE H
   obtain⟨r7,hr7,H⟩:=bindE H
   refine Rt tok [] [0,1,5,6,7] (by intro K k;(repeat first|simp -dsimp -implicitDefEqProofs [ix39 hv6]|refine(c95 hr7).app ?_);exact k) fun a ha=>?_
   refine hK4 _ _ ?_;rw[ha]
   refine Rc.mk ?_
   refine Rt0 tok [] [0,1,5,6,7] fun a ha=>?_
   obtain rfl:=oi H
   refine hK2 _ _ _ rfl ?_;rw[ha]
   exact Rf ⟨M1+22,(M1+7),(by omega),(by omega),(by omega),rfl,rfl⟩
  ·obtain rfl:=oi (ifF C1 H)
   refine AWP_exit (hO2 _ _ _ _ rfl ⟨rfl,?_⟩)
   refine Rc.rw (l:=[5]) (X:=[(5,.sl o1 0 s3.length)]) rfl ?_
   exact Rf ⟨M1+4,o1,(by omega),(by omega),(by omega),rfl,rfl⟩
 ·intro x a σ hx
  obtain⟨y4,rfl⟩:∃x,x=e1:=⟨_,rfl⟩
  obtain⟨rfl,b,τ,hr,M2,o2,fM2_0,fM2_1,fM2_2,rfl,rfl⟩:=hx
  (try dsimp only at H)
  show K1 _ _
  refine hK1 _ _ (Rc_ref hr ?_)
  refine Rc.mk ?_
  refine S0 tok [] [4] ?_
  obtain rfl:=oi H;exact AWP_ret ⟨_,rfl,4,by simp[encL_nil]⟩
theorem c14 {p0:(List gQuad)} {p1:Int} {r:(List Int)} (H:s_TaskPlaces p0 p1=some r):APure Tryz.prog G 14 [.fsl (encL rQuad p0),.int .i64 p1] (.fsl (encL rI r)):=by
 refine APure_fn (fun N0=>?_) (by simp)
 refine fnK tok Tryz.func14 Tryz.ntmps14 Tryz.results14 ?_
 simp only[argsA,Nat.reduceAdd,hp_next]
 unfold s_TaskPlaces at H
 refine S0 tok [] [0,1] ?_
 refine AWP_sq [0,1] fun K1 hK1=>?_
 obtain⟨r1,hr1,H⟩:=bindE H
 obtain⟨g3,hg3,H⟩:=bindE H
 refine Sx tok [] [0,1,12] (X:=[(0,.fsl (encL rQuad p0)),(1,.int .i64 p1),(12,.bool g3)]) (Y:=hp E0 [] (N0+9)) (by
  intro K k
  simp -dsimp -implicitDefEqProofs
  refine(c47 hr1).app ?_;try simp -dsimp -implicitDefEqProofs
  cases hbg3:bnot r1
  ·replace hg3:=ifF hbg3 hg3
   obtain⟨r2,hr2,hg3⟩:=bindE hg3
   obtain rfl:=oi hg3
   try simp -dsimp -implicitDefEqProofs [hbg3]
   refine(c21 hr2).app ?_;try simp -dsimp -implicitDefEqProofs [hbg3]
   exact k
  ·obtain rfl:=oi (ifT hbg3 hg3)
   try simp -dsimp -implicitDefEqProofs [hbg3]
   exact k) ?_
 refine Cd (fun C1=>?_) fun C1=>?_
 ·replace H:=ifT C1 H
  have q0:∀σ i,buildSliceA T 24 true i 0 [] σ=some (.esl,σ):=fun _ _=>rfl
  refine Sx tok [0] [4] (by intro K k;simp -dsimp -implicitDefEqProofs [q0];exact k) ?_
  obtain rfl:=oi H;exact AWP_ret ⟨_,rfl,4,by simp[encL_nil]⟩
 ·replace H:=ifF C1 H
  refine AWP_skip (Jn hK1 ?_)
  obtain⟨r4,hr4,H⟩:=bindE H
  refine Sx tok [] [4] (by intro K k;(repeat first|simp -dsimp -implicitDefEqProofs|refine(c48 hr4).app ?_);exact k) ?_
  obtain rfl:=oi H;exact AWP_ret ⟨_,rfl,4,by simp[encL_nil]⟩
theorem c15 {p0:(List Int)} {p1:(List Int)} {r:Bool} (H:l_sameInts p0 p1=some r):APure Tryz.prog G 15 [.fsl (encL rI p0),.fsl (encL rI p1)] (.bool r):=by
 refine APure_fn (fun N0=>?_) (by simp)
 refine fnK tok Tryz.func15 Tryz.ntmps15 Tryz.results15 ?_
 simp only[argsA,Nat.reduceAdd,hp_next]
 unfold l_sameInts at H
 refine S0 tok [] [0,1] ?_
 refine AWP_sq [0,1] fun K1 hK1=>?_
 refine S0 tok [] [0,1,10] ?_
 refine Cd (fun C1=>?_) fun C1=>?_
 ·replace H:=ifT C1 H
  refine S0 tok [] [4] ?_
  obtain rfl:=oi H;exact AWP_ret ⟨_,rfl,4,by simp[encL_nil]⟩
 ·replace H:=ifF C1 H
  refine AWP_skip (Jn hK1 ?_)
  refine AWP_sq [] fun K2 hK2=>?_
  refine S0 tok [] [0,1,5] ?_
  refine AWP_block (AWP_thenB ?_)
  obtain⟨e1,hse1,H⟩:=bindE H
  refine AWP_lp [0,1,5] (fun s a σ=>∃M1:Nat,N0≤M1∧a=[(0,.fsl (encL rI p0)),(1,.fsl (encL rI p1)),(5,.int .i64 s)]∧σ=hp E0 [] M1) (fun e x a σ=>match e with|.inl s=>x=.exit 0∧Rc G 26 N0 (fun a σ=>∃M2:Nat,N0≤M2∧a=[]∧σ=hp E0 [] M2) (AAct.keep a []) σ|.inr s=>x=.ret∧∃vs,resA T σ a [.tmp 4]=some vs∧∃d,thawA (fun _=>true) σ d (tupA vs)=.bool s) hse1 ?_ ?_ ?_
  ·refine Rc.kp [0,1,5] [(0,.fsl (encL rI p0)),(1,.fsl (encL rI p1)),(5,.int .i64 0)] rfl ?_
   exact Rf ⟨N0+7,(by omega),rfl,rfl⟩
  ·clear H hse1
   rintro s1 fl a σ H ⟨M1,fM1_0,rfl,rfl⟩ K3 O3 hK3 hO3
   unfold l_sameInts_L1 at H;dsimp only at H
   refine AWP_sq [0,1,5] fun K4 hK4=>?_
   refine S0 tok [] [0,1,5,14] ?_
   refine Cd (fun C2=>?_) fun C2=>?_
   ·replace H:=ifT C2 H
    refine AWP_skip (Jn hK4 ?_)
    refine AWP_sq [0,1,5] fun K5 hK5=>?_
    refine AWP_block (AWP_thenB ?_)
    obtain⟨v2,hv2,H⟩:=bindE H
    obtain⟨v3,hv3,H⟩:=bindE H
    refine Sd tok tokM [] [] [0,1,2,3,4,5,6,7,8] [0,1,5,25] (by
     intro K k
     simp only[pickL,nthO_succ,nthO_zero]
     simp -dsimp -implicitDefEqProofs [ix24 hv2,ix24 hv3]
     exact k) ?_
    refine Cd (fun C3=>?_) fun C3=>?_
    ·replace H:=ifT C3 H
     refine S0 tok [] [4] ?_
     obtain rfl:=oi H
     refine Kp [4] ?_
     refine AWP_ret (hO3 _ _ _ _ rfl ⟨rfl,?_⟩)
     exact⟨[.bool false],by simp,4,by simp[encL_nil]⟩
    ·replace H:=ifF C3 H
     refine AWP_skip (Jn hK5 ?_)
     refine Rt0 tok [] [0,1,5] fun a ha=>?_
     obtain rfl:=oi H
     refine hK3 _ _ _ rfl ?_;rw[ha]
     exact Rf ⟨M1+16,(by omega),rfl,rfl⟩
   ·obtain rfl:=oi (ifF C2 H)
    refine AWP_exit (hO3 _ _ _ _ rfl ⟨rfl,?_⟩)
    refine Rc.rw (l:=[]) (X:=[]) rfl ?_
    exact Rf ⟨M1+4,(by omega),rfl,rfl⟩
  ·intro x a σ hx
   rcases e1 with⟨⟩|r0
   ·obtain⟨rfl,b,τ,hr,M2,fM2_0,rfl,rfl⟩:=hx
    (try dsimp only at H)
    show K2 _ _
    refine hK2 _ _ (Rc_ref hr ?_)
    refine Rc.mk ?_
    refine S0 tok [] [4] ?_
    obtain rfl:=oi H;exact AWP_ret ⟨_,rfl,4,by simp[encL_nil]⟩
   ·obtain⟨rfl,hx2⟩:=hx
    (try dsimp only at H)
    obtain rfl:=oi H;first|exact hx2|(simp only[List.set_set] at hx2 ⊢;exact hx2)
theorem c16 {p0:gQuad} {p1:Int} {p2:Int} {r:(List gInstr)×Bool} (H:i_QuadInstrs p0 p1 p2=some r):APure Tryz.prog G 16 [.agg [.int .i64 p0.Op,.int .i64 p0.Dst,.int .i64 p0.A,.int .i64 p0.B,.int .i64 p0.N],.int .i64 p1,.int .i64 p2] (.tup [.fsl (encL rInstr r.1),.bool r.2]):=by
 refine APure_fn (fun N0=>?_) (by simp)
 refine fnK tok Tryz.func16 Tryz.ntmps16 Tryz.results16 ?_
 simp only[argsA,Nat.reduceAdd,hp_next]
 unfold i_QuadInstrs at H
 refine S0 tok [0] [1,2,3] ?_
 refine AWP_sq [1,2,3] fun K1 hK1=>?_
 obtain⟨r1,hr1,H⟩:=bindE H
 obtain⟨g2,hg2,H⟩:=bindE H
 obtain⟨g3,hg3,H⟩:=bindE H
 obtain⟨g5,hg5,H⟩:=bindE H
 obtain⟨g6,hg6,H⟩:=bindE H
 obtain⟨g7,hg7,H⟩:=bindE H
 refine Sx tok [] [1,2,3,31] (X:=[(1,.int .i64 p1),(2,.int .i64 p2),(3,.fptr [.int .i64 p0.Op,.int .i64 p0.Dst,.int .i64 p0.A,.int .i64 p0.B,.int .i64 p0.N] 0),(31,.bool g7)]) (Y:=hp E0 [] (N0+27)) (by
  intro K k
  simp -dsimp -implicitDefEqProofs
  refine(c49 hr1).app ?_;try simp -dsimp -implicitDefEqProofs
  cases hbg2:bnot r1
  ·obtain rfl:=oi (ifF hbg2 hg2)
   try simp -dsimp -implicitDefEqProofs [hbg2]
   cases hbg3:(ilt p1 1)
   ·obtain rfl:=oi (ifF hbg3 hg3)
    try simp -dsimp -implicitDefEqProofs [hbg2,hbg3]
    cases hbg5:(igt p1 8)
    ·replace hg5:=ifF hbg5 hg5
     obtain⟨v4,hv4,hg5⟩:=bindE hg5
     obtain rfl:=oi hg5
     try simp -dsimp -implicitDefEqProofs [hbg2,hbg3,hbg5,hv4]
     cases hbg6:(ine v4 0)
     ·obtain rfl:=oi (ifF hbg6 hg6)
      try simp -dsimp -implicitDefEqProofs [hbg2,hbg3,hbg5,hv4,hbg6]
      cases hbg7:(ilt p2 (-100000))
      ·obtain rfl:=oi (ifF hbg7 hg7)
       try simp -dsimp -implicitDefEqProofs [hbg2,hbg3,hbg5,hv4,hbg6,hbg7]
       exact k
      ·obtain rfl:=oi (ifT hbg7 hg7)
       try simp -dsimp -implicitDefEqProofs [hbg2,hbg3,hbg5,hv4,hbg6,hbg7]
       exact k
     ·obtain rfl:=oi (ifT hbg6 hg6)
      obtain rfl:=oi (ifT rfl hg7)
      try simp -dsimp -implicitDefEqProofs [hbg2,hbg3,hbg5,hv4,hbg6]
      exact k
    ·obtain rfl:=oi (ifT hbg5 hg5)
     obtain rfl:=oi (ifT rfl hg6)
     obtain rfl:=oi (ifT rfl hg7)
     try simp -dsimp -implicitDefEqProofs [hbg2,hbg3,hbg5]
     exact k
   ·obtain rfl:=oi (ifT hbg3 hg3)
    obtain rfl:=oi (ifT rfl hg5)
    obtain rfl:=oi (ifT rfl hg6)
    obtain rfl:=oi (ifT rfl hg7)
    try simp -dsimp -implicitDefEqProofs [hbg2,hbg3]
    exact k
  ·obtain rfl:=oi (ifT hbg2 hg2)
   obtain rfl:=oi (ifT rfl hg3)
   obtain rfl:=oi (ifT rfl hg5)
   obtain rfl:=oi (ifT rfl hg6)
   obtain rfl:=oi (ifT rfl hg7)
   try simp -dsimp -implicitDefEqProofs [hbg2]
   exact k) ?_
 refine Cd (fun C1=>?_) fun C1=>?_
 ·replace H:=ifT C1 H
  refine S0 tok [] [6,7] ?_
  obtain rfl:=oi H;exact AWP_ret ⟨_,rfl,4,by simp[encL_nil]⟩
 ·replace H:=ifF C1 H
  refine AWP_skip (Jn hK1 ?_)
  obtain⟨r8,hr8,H⟩:=bindE H
  refine Sx tok [] [6,7] (by intro K k;(repeat first|simp -dsimp -implicitDefEqProofs|refine(c46 hr8).app ?_);exact k) ?_
  obtain rfl:=oi H;exact AWP_ret ⟨_,rfl,4,by simp[encL_nil]⟩
theorem c4 {p0:(List Int)} {r:Bool} (H:l_FnTaskPlaces p0=some r):APure Tryz.prog G 4 [.fsl (encL rI_u8 p0)] (.bool r):=by
 refine APure_fn (fun N0=>?_) (by simp)
 refine fnK tok Tryz.func4 Tryz.ntmps4 Tryz.results4 ?_
 simp only[argsA,Nat.reduceAdd,hp_next]
 unfold l_FnTaskPlaces at H
 refine S0 tok [] [0] ?_
 refine AWP_sq [0] fun K1 hK1=>?_
 refine S0 tok [] [0,12] ?_
 refine Cd (fun C1=>?_) fun C1=>?_
 ·replace H:=ifT C1 H
  refine S0 tok [] [2] ?_
  obtain rfl:=oi H;exact AWP_ret ⟨_,rfl,4,by simp[encL_nil]⟩
 ·replace H:=ifF C1 H
  refine AWP_skip (Jn hK1 ?_)
  obtain⟨r1,hr1,H⟩:=bindE H
  refine Sx tok [] [3,4] (by intro K k;(repeat first|simp -dsimp -implicitDefEqProofs|refine(c12 hr1).app ?_);exact k) ?_
  obtain⟨r2,hr2,H⟩:=bindE H
  refine Sx tok [] [3,4,5] (by intro K k;(repeat first|simp -dsimp -implicitDefEqProofs|refine(c13 hr2).app ?_);exact k) ?_
  obtain⟨r3,hr3,H⟩:=bindE H
  refine Sx tok [] [3,4,5,6] (by intro K k;(repeat first|simp -dsimp -implicitDefEqProofs|refine(c14 hr3).app ?_);exact k) ?_
  refine AWP_sq [3,4,5] fun K2 hK2=>?_
  obtain⟨r4,hr4,H⟩:=bindE H
  obtain⟨g5,hg5,H⟩:=bindE H
  refine Sx tok [] [3,4,5,6,32] (X:=[(3,.fsl (encL rQuad r1.1)),(4,.int .i64 r1.2),(5,.fsl (encL rI r2)),(6,.fsl (encL rI r3)),(32,.bool g5)]) (Y:=hp E0 [] (N0+28)) (by
   intro K k
   simp -dsimp -implicitDefEqProofs
   refine(c15 hr4).app ?_;try simp -dsimp -implicitDefEqProofs
   cases hbg5:bnot r4
   ·obtain rfl:=oi (ifF hbg5 hg5)
    try simp -dsimp -implicitDefEqProofs [hbg5]
    exact k
   ·obtain rfl:=oi (ifT hbg5 hg5)
    try simp -dsimp -implicitDefEqProofs [hbg5]
    exact k) ?_
  refine Cd (fun C2=>?_) fun C2=>?_
  ·replace H:=ifT C2 H
   refine Sx tok [] [2] (by intro K k;(repeat first|simp -dsimp -implicitDefEqProofs|refine(c15 hr4).app ?_);exact k) ?_
   obtain rfl:=oi H;exact AWP_ret ⟨_,rfl,4,by simp[encL_nil]⟩
  ·replace H:=ifF C2 H
   refine AWP_skip (Jn hK2 ?_)
   refine AWP_sq [3,5] fun K3 hK3=>?_
   refine S0 tok [] [3,4,5,7] ?_
   refine AWP_block (AWP_thenB ?_)
   obtain⟨e1,hse1,H⟩:=bindE H
   refine AWP_lp [3,4,5,7] (fun s a σ=>∃M1:Nat,N0≤M1∧a=[(3,.fsl (encL rQuad r1.1)),(4,.int .i64 r1.2),(5,.fsl (encL rI r2)),(7,.int .i64 s)]∧σ=hp E0 [] M1) (fun e x a σ=>match e with|.inl s=>x=.exit 0∧Rc G 80 N0 (fun a σ=>∃M2:Nat,N0≤M2∧a=[(3,.fsl (encL rQuad r1.1)),(5,.fsl (encL rI r2))]∧σ=hp E0 [] M2) (AAct.keep a [3,5]) σ|.inr s=>x=.ret∧∃vs,resA T σ a [.tmp 2]=some vs∧∃d,thawA (fun _=>true) σ d (tupA vs)=.bool s) hse1 ?_ ?_ ?_
   ·refine Rc.kp [3,4,5,7] [(3,.fsl (encL rQuad r1.1)),(4,.int .i64 r1.2),(5,.fsl (encL rI r2)),(7,.int .i64 0)] rfl ?_
    exact Rf ⟨N0+29,(by omega),rfl,rfl⟩
   ·clear H hse1
    rintro s6 fl a σ H ⟨M1,fM1_0,rfl,rfl⟩ K4 O4 hK4 hO4
    unfold l_FnTaskPlaces_L1 at H;dsimp only at H
    refine AWP_sq [3,4,5,7] fun K5 hK5=>?_
    refine S0 tok [] [3,4,5,7,40] ?_
    refine Cd (fun C3=>?_) fun C3=>?_
    ·replace H:=ifT C3 H
     refine AWP_skip (Jn hK5 ?_)
     refine AWP_sq [3,4,5,7] fun K6 hK6=>?_
     refine AWP_block (AWP_thenB ?_)
     obtain⟨v7,hv7,H⟩:=bindE H
     obtain⟨r8,hr8,H⟩:=bindE H
     refine Sx tok [] [3,4,5,7,8,9] (by intro K k;(repeat first|simp -dsimp -implicitDefEqProofs [ix39 hv7]|refine(c16 hr8).app ?_);exact k) ?_
     obtain⟨g11,hg11,H⟩:=bindE H
     refine AWP_sd tok tokM [] [] [0,1,2,3,4,5,6,7,8,9,10,11,12,13,14,15,16] [3,4,5,7,68] (fun a σ=>a=[(3,.fsl (encL rQuad r1.1)),(4,.int .i64 r1.2),(5,.fsl (encL rI r2)),(7,.int .i64 s6),(68,.bool g11)]∧σ=hp E0 [] (M1+33)) (by decide) (fun K hK=>?_) ?_
     ·simp only[pickL,nthO_succ,nthO_zero]
      simp -dsimp -implicitDefEqProofs
      cases hbg11:bnot r8.2
      ·replace hg11:=ifF hbg11 hg11
       obtain⟨v9,hv9,hg11⟩:=bindE hg11
       obtain⟨v10,hv10,hg11⟩:=bindE hg11
       obtain rfl:=oi hg11
       try simp -dsimp -implicitDefEqProofs [hbg11,ix24 hv9,ix24 hv10]
       exact hK _ _ ⟨rfl,rfl⟩
      ·obtain rfl:=oi (ifT hbg11 hg11)
       try simp -dsimp -implicitDefEqProofs [hbg11]
       exact hK _ _ ⟨rfl,rfl⟩
     rintro a σ ⟨rfl,rfl⟩
     refine Cd (fun C4=>?_) fun C4=>?_
     ·replace H:=ifT C4 H
      refine S0 tok [] [2] ?_
      obtain rfl:=oi H
      refine Kp [2] ?_
      refine AWP_ret (hO4 _ _ _ _ rfl ⟨rfl,?_⟩)
      exact⟨[.bool false],by simp,4,by simp[encL_nil]⟩
     ·replace H:=ifF C4 H
      refine AWP_skip (Jn hK6 ?_)
      refine Rt0 tok [] [3,4,5,7] fun a ha=>?_
      obtain rfl:=oi H
      refine hK4 _ _ _ rfl ?_;rw[ha]
      exact Rf ⟨M1+36,(by omega),rfl,rfl⟩
    ·obtain rfl:=oi (ifF C3 H)
     refine AWP_exit (hO4 _ _ _ _ rfl ⟨rfl,?_⟩)
     refine Rc.rw (l:=[3,5]) (X:=[(3,.fsl (encL rQuad r1.1)),(5,.fsl (encL rI r2))]) rfl ?_
     exact Rf ⟨M1+5,(by omega),rfl,rfl⟩
   ·intro x a σ hx
    rcases e1 with⟨⟩|r0
    ·obtain⟨rfl,b,τ,hr,M2,fM2_0,rfl,rfl⟩:=hx
     (try dsimp only at H)
     show K3 _ _
     refine hK3 _ _ (Rc_ref hr ?_)
     refine Rc.mk ?_
     obtain⟨v12,hv12,H⟩:=bindE H
     obtain⟨g13,hg13,H⟩:=bindE H
     refine Sx tok [] [2] (X:=[(2,.bool g13)]) (Y:=hp E0 [] (M2+12)) (by
      intro K k
      simp -dsimp -implicitDefEqProofs [ix24 hv12]
      cases hbg13:ieq v12 0
      ·obtain rfl:=oi (ifF hbg13 hg13)
       try simp -dsimp -implicitDefEqProofs [ix24 hv12,hbg13]
       exact k
      ·obtain rfl:=oi (ifT hbg13 hg13)
       try simp -dsimp -implicitDefEqProofs [ix24 hv12,hbg13]
       exact k) ?_
     obtain rfl:=oi H;exact AWP_ret ⟨_,rfl,4,by simp[encL_nil]⟩
    ·obtain⟨rfl,hx2⟩:=hx
     (try dsimp only at H)
     obtain rfl:=oi H;first|exact hx2|(simp only[List.set_set] at hx2 ⊢;exact hx2)
end Go.Proofs.YtlcilhmkbmgkeaaGreatDoor
