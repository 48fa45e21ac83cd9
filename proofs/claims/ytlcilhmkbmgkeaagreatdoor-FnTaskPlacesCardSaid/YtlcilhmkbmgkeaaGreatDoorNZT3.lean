/- The contracts of functions of the program, part 3: each computes what its mirror computes. No conditions. -/
import Derived.Test.YtlcilhmkbmgkeaaGreatDoorNZT2
set_option linter.unusedSimpArgs false
set_option linter.unusedVariables false
set_option maxRecDepth 20000
set_option maxHeartbeats 4000000
namespace Go.Proofs.YtlcilhmkbmgkeaaGreatDoor
open Go Go.Abs Go.RowKit

theorem c215 {p0:(List gQuad)} {p1:(List Bool)} {r:Bool×(List Bool)} (H:s_l31Spread p0 p1=some r) {σ:AHeap} {w1:Nat} (q1:σ.objs w1=some ⟨4,1,encL rB p1⟩):ACalls Tryz.prog G 215 [.fsl (encL rQuad p0),.sl w1 0 p1.length] σ (fun v σ'=>∃M:Nat,σ.next≤M∧r.2.length=p1.length∧v=.bool r.1∧σ'=hp σ.objs [(w1,some ⟨4,1,encL rB r.2⟩)] M):=by
 refine ACalls_fr (L:=[(w1,some ⟨4,1,encL rB p1⟩)]) (Q1:=fun v σ'=>∃M:Nat,σ.next≤M∧r.2.length=p1.length∧v=.bool r.1∧σ'=hp E0 [(w1,some ⟨4,1,encL rB r.2⟩)] M) (by simp[q1]) (fun hlt=>?_) ?_ ⟨_,Tryz.func215,rfl,rfl⟩
 rotate_left
 ·rintro v σ1 ⟨M,h0,h1,rfl,rfl⟩
  exact⟨_,M,rfl,by simp,by simp;try omega,M,h0,h1,rfl,rfl⟩
 generalize σ.next=N0 at hlt ⊢
 have lw1:w1<N0:=hlt _ (.head _) rfl
 refine fnK tok Tryz.func215 Tryz.ntmps215 Tryz.results215 ?_
 simp only[argsA,Nat.reduceAdd,hp_next]
 unfold s_l31Spread at H
 refine S0 tok [] [0,1] ?_
 refine S0 tok [] [0,1,5] ?_
 refine AWP_sq [5] fun K1 hK1=>?_
 refine S0 tok [] [0,1,5,6] ?_
 refine AWP_block (AWP_thenB ?_)
 obtain⟨e2,hse2,H⟩:=bindE H
 refine AWP_lp [0,1,5,6] (fun s a σ=>∃M1:Nat,N0≤M1∧s.2.2.length=p1.length∧a=[(0,.fsl (encL rQuad p0)),(1,.sl w1 0 s.2.2.length),(5,.bool s.1),(6,.int .i64 s.2.1)]∧σ=hp E0 [(w1,some ⟨4,1,encL rB s.2.2⟩)] M1) (fun s x a σ=>x=.exit 0∧Rc G 44 N0 (fun a σ=>∃M2:Nat,N0≤M2∧s.2.length=p1.length∧a=[(5,.bool s.1)]∧σ=hp E0 [(w1,some ⟨4,1,encL rB s.2⟩)] M2) (AAct.keep a [5]) σ) hse2 ?_ ?_ ?_
 ·refine Rc.kp [0,1,5,6] [(0,.fsl (encL rQuad p0)),(1,.sl w1 0 p1.length),(5,.bool false),(6,.int .i64 0)] rfl ?_
  exact Rf ⟨N0+3,(by omega),(by first|rfl|exact rfl|omega),rfl,rfl⟩
 ·clear H hse2
  rintro⟨s1,s2,s3⟩ fl a σ H ⟨M1,fM1_0,fM1_1,rfl,rfl⟩ K2 O2 hK2 hO2
  unfold s_l31Spread_L1 at H;dsimp only at H
  refine AWP_sq [0,1,5,6] fun K3 hK3=>?_
  refine S0 tok [] [0,1,5,6,12] ?_
  refine Cd (fun C1=>?_) fun C1=>?_
  ·replace H:=ifT C1 H
   refine AWP_skip (Jn hK3 ?_)
   refine AWP_sq [0,1,5,6] fun K4 hK4=>?_
   refine AWP_block (AWP_thenB ?_)
   refine AWP_sq [0,1,5,6] fun K5 hK5=>?_
   obtain⟨v6,hv6,H⟩:=bindE H
   refine Sx tok [] [0,1,5,6,19] (by intro K k;simp -dsimp -implicitDefEqProofs [ixo201 hv6,(idx_lt3 hv6).2.2];exact k) ?_
   refine Cd (fun C2=>?_) fun C2=>?_
   ·replace H:=ifT C2 H
    refine AWP_exit ?_
    show K4 _ _
    refine kE [0,1,5,6] fun a' ha=>?_
    refine hK4 _ _ ?_;rw[ha]
    refine Rc.mk ?_
    refine Rt0 tok [] [0,1,5,6] fun a ha=>?_
    obtain rfl:=oi H
    refine hK2 _ _ _ rfl ?_;rw[ha]
    exact Rf ⟨M1+12,(by omega),(by first|rfl|exact fM1_1|omega),rfl,rfl⟩
   ·replace H:=ifF C2 H
    refine AWP_skip (Jn hK5 ?_)
    obtain⟨r7,hr7,H⟩:=bindE H
    refine Sx tok [] [0,1,5,6,7] (by intro K k;(repeat first|simp -dsimp -implicitDefEqProofs|refine(c214 hr7).app ?_);exact k) ?_
    refine S0 tok [] [0,1,5,6,7,8] ?_
    refine AWP_block (AWP_thenB ?_)
    obtain⟨e1,hse1,H⟩:=bindE H
    refine AWP_lp [0,1,5,6,7,8] (fun s a σ=>∃M3:Nat,N0≤M3∧s.2.2.length=p1.length∧a=[(0,.fsl (encL rQuad p0)),(1,.sl w1 0 s.2.2.length),(5,.bool s.1),(6,.int .i64 s2),(7,.fsl (encL rI r7)),(8,.int .i64 s.2.1)]∧σ=hp E0 [(w1,some ⟨4,1,encL rB s.2.2⟩)] M3) (fun s x a σ=>x=.exit 2∧Rc G 44 N0 (fun a σ=>∃M4:Nat,N0≤M4∧s.2.length=p1.length∧a=[(0,.fsl (encL rQuad p0)),(1,.sl w1 0 s.2.length),(5,.bool s.1),(6,.int .i64 s2)]∧σ=hp E0 [(w1,some ⟨4,1,encL rB s.2⟩)] M4) (AAct.keep a [0,1,5,6]) σ) hse1 ?_ ?_ ?_
    ·refine Rc.kp [0,1,5,6,7,8] [(0,.fsl (encL rQuad p0)),(1,.sl w1 0 s3.length),(5,.bool s1),(6,.int .i64 s2),(7,.fsl (encL rI r7)),(8,.int .i64 0)] rfl ?_
     exact Rf ⟨M1+14,(by omega),(by first|rfl|exact fM1_1|omega),rfl,rfl⟩
    ·clear H hse1
     rintro⟨s8,s9,s10⟩ fl a σ H ⟨M3,fM3_0,fM3_1,rfl,rfl⟩ K6 O6 hK6 hO6
     unfold s_l31Spread_L2 at H;dsimp only at H
     refine AWP_sq [0,1,5,6,7,8] fun K7 hK7=>?_
     refine S0 tok [] [0,1,5,6,7,8,26] ?_
     refine Cd (fun C3=>?_) fun C3=>?_
     ·replace H:=ifT C3 H
      refine AWP_skip (Jn hK7 ?_)
      refine AWP_sq [0,1,5,6,7,8] fun K8 hK8=>?_
      refine AWP_block (AWP_thenB ?_)
      obtain⟨v13,hv13,H⟩:=bindE H
      obtain⟨v14,hv14,H⟩:=bindE H
      refine Sx tok [] [0,1,5,6,7,8,36] (by intro K k;simp -dsimp -implicitDefEqProofs [ix24 hv13,ixo201 hv14,(idx_lt3 hv14).2.2];exact k) ?_
      refine Cd (fun C4=>?_) fun C4=>?_
      ·replace H:=ifT C4 H
       obtain⟨l15,hl15,H⟩:=bindE H
       refine Sx tok [] [0,1,6,7,8] (by intro K k;simp -dsimp -implicitDefEqProofs [ix24 hv13,ixo201 hv14,(idx_lt3 hv14).2.2,(setx_iff.1 hl15).2.symm];exact k) ?_
       try rw[← setx_len hl15]
       refine Rt0 tok [] [0,1,5,6,7,8] fun a ha=>?_
       refine hK8 _ _ ?_;rw[ha]
       refine Rc.mk ?_
       refine Rt0 tok [] [0,1,5,6,7,8] fun a ha=>?_
       obtain rfl:=oi H
       refine hK6 _ _ _ rfl ?_;rw[ha]
       exact Rf ⟨M3+23,(by omega),(by first|rfl|exact((setx_len hl15).trans fM3_1)|omega),rfl,rfl⟩
      ·replace H:=ifF C4 H
       refine AWP_skip (Jn hK8 ?_)
       refine Rt0 tok [] [0,1,5,6,7,8] fun a ha=>?_
       obtain rfl:=oi H
       refine hK6 _ _ _ rfl ?_;rw[ha]
       exact Rf ⟨M3+15,(by omega),(by first|rfl|exact fM3_1|omega),rfl,rfl⟩
     ·obtain rfl:=oi (ifF C3 H)
      refine AWP_exit (hO6 _ _ _ _ rfl ⟨rfl,?_⟩)
      refine Rc.rw (l:=[0,1,5,6]) (X:=[(0,.fsl (encL rQuad p0)),(1,.sl w1 0 s10.length),(5,.bool s8),(6,.int .i64 s2)]) rfl ?_
      exact Rf ⟨M3+4,(by omega),(by first|rfl|exact fM3_1|omega),rfl,rfl⟩
    ·intro x a σ hx
     obtain⟨y11,y12⟩:=e1
     obtain⟨rfl,b,τ,hr,M4,fM4_0,fM4_1,rfl,rfl⟩:=hx
     (try dsimp only at H)
     show K4 _ _
     refine hK4 _ _ (Rc_ref hr ?_)
     refine Rc.mk ?_
     refine Rt0 tok [] [0,1,5,6] fun a ha=>?_
     obtain rfl:=oi H
     refine hK2 _ _ _ rfl ?_;rw[ha]
     exact Rf ⟨M4+3,(by omega),(by first|rfl|exact fM4_1|omega),rfl,rfl⟩
  ·obtain rfl:=oi (ifF C1 H)
   refine AWP_exit (hO2 _ _ _ _ rfl ⟨rfl,?_⟩)
   refine Rc.rw (l:=[5]) (X:=[(5,.bool s1)]) rfl ?_
   exact Rf ⟨M1+4,(by omega),(by first|rfl|exact fM1_1|omega),rfl,rfl⟩
 ·intro x a σ hx
  obtain⟨y4,y5⟩:=e2
  obtain⟨rfl,b,τ,hr,M2,fM2_0,fM2_1,rfl,rfl⟩:=hx
  (try dsimp only at H)
  show K1 _ _
  refine hK1 _ _ (Rc_ref hr ?_)
  refine Rc.mk ?_
  refine S0 tok [] [4] ?_
  obtain rfl:=oi H
  refine Kp [4] ?_
  refine AWP_ret ?_
  refine⟨[.bool y4],by simp,M2+2,by omega,by first|rfl|exact fM2_1|omega,?_,?_⟩
  ·simp[encL_nil]
  ·first|rfl|simp[List.set_set]
theorem c199 {p0:gQuad} {p1:Int} {r:Bool} (H:s_l36Idle p0 p1=some r):APure Tryz.prog G 199 [.agg [.int .i64 p0.Op,.int .i64 p0.Dst,.int .i64 p0.A,.int .i64 p0.B,.int .i64 p0.N],.int .i64 p1] (.bool r):=by
 refine APure_fn (fun N0=>?_) (by simp)
 refine fnK tok Tryz.func199 Tryz.ntmps199 Tryz.results199 ?_
 simp only[argsA,Nat.reduceAdd,hp_next]
 unfold s_l36Idle at H
 refine S0 tok [0] [1,2] ?_
 refine AWP_sq [] fun K1 hK1=>?_
 refine S0 tok [] [1,2,6] ?_
 refine AWP_block (AWP_thenB ?_)
 obtain⟨j1,hj1,H⟩:=bindE H
 refine AWP_seq (AWP_named fun K2 hK2=>?_)
 have hJ1:∀a σ,Rc G 22 N0 (fun a σ=>∃M1:Nat,N0≤M1∧a=[(1,.int .i64 p1),(2,.fptr [.int .i64 p0.Op,.int .i64 p0.Dst,.int .i64 p0.A,.int .i64 p0.B,.int .i64 p0.N] 0),(6,.int .i64 p0.Op),(7,.bool j1)]∧σ=hp E0 [] M1) (a.keep [1,2,6,7]) σ→K2 a σ:=by
  rintro a σ ⟨b,τ,hr,M1,fM1_0,rfl,rfl⟩
  refine hK2 _ _ (AWP_keep [1,2,6,7] (AWP_ref hr ?_))
  refine Cd (fun C1=>?_) fun C1=>?_
  ·replace H:=ifT C1 H
   refine S0 tok [] [4] ?_
   obtain rfl:=oi H;exact AWP_ret ⟨_,rfl,4,by simp[encL_nil]⟩
  ·replace H:=ifF C1 H
   refine S0 tok [] [2,15] ?_
   refine Cd (fun C2=>?_) fun C2=>?_
   ·replace H:=ifT C2 H
    refine S0 tok [] [4] ?_
    obtain rfl:=oi H;exact AWP_ret ⟨_,rfl,4,by simp[encL_nil]⟩
   ·replace H:=ifF C2 H
    refine AWP_skip (Jn hK1 ?_)
    refine S0 tok [] [4] ?_
    obtain rfl:=oi H;exact AWP_ret ⟨_,rfl,4,by simp[encL_nil]⟩
 replace H:=hj1
 refine S0 tok [] [1,2,6,7] ?_
 refine Cd (fun C3=>?_) fun C3=>?_
 ·replace H:=ifT C3 H
  refine AWP_skip ?_
  show K2 _ _
  refine kE [1,2,6,7] fun a' ha=>?_
  obtain rfl:=oi H
  refine hJ1 _ _ ?_;rw[ha]
  exact Rf ⟨N0+6,(by omega),rfl,rfl⟩
 ·replace H:=ifF C3 H
  refine Rt0 tok [] [1,2,6,7] fun a ha=>?_
  obtain rfl:=oi H
  refine hJ1 _ _ ?_;rw[ha]
  exact Rf ⟨N0+8,(by omega),rfl,rfl⟩
theorem c198_o {p0:(List gQuad)} {r:(List Bool)} (H:s_CodeReach_o p0=some r) {σ:AHeap}:ACalls Tryz.prog G 198 [.fsl (encL rQuad p0)] σ (fun v σ'=>∃M n0:Nat,σ.next≤M∧σ.next≤n0∧n0<M∧v=.sl n0 0 r.length∧σ'=hp σ.objs [(n0,some ⟨4,1,encL rB r⟩)] M):=by
 refine ACalls_fr (L:=[]) (Q1:=fun v σ'=>∃M n0:Nat,σ.next≤M∧σ.next≤n0∧n0<M∧v=.sl n0 0 r.length∧σ'=hp E0 [(n0,some ⟨4,1,encL rB r⟩)] M) (by simp[]) (fun hlt=>?_) ?_ ⟨_,Tryz.func198,rfl,rfl⟩
 rotate_left
 ·rintro v σ1 ⟨M,n0,h0,h1,h2,rfl,rfl⟩
  exact⟨_,M,rfl,by simp,by simp;try omega,M,n0,h0,h1,h2,rfl,rfl⟩
 generalize σ.next=N0 at hlt ⊢
 refine fnK tok Tryz.func198 Tryz.ntmps198 Tryz.results198 ?_
 simp only[argsA,Nat.reduceAdd,hp_next]
 unfold s_CodeReach_o at H
 refine S0 tok [] [0] ?_
 refine AWP_sq [0] fun K1 hK1=>?_
 obtain⟨r1,hr1,H⟩:=bindE H
 refine Sx tok [] [0,6] (by intro K k;(repeat first|simp -dsimp -implicitDefEqProofs|refine(c47 hr1).app ?_);exact k) ?_
 refine Cd (fun C1=>?_) fun C1=>?_
 ·replace H:=ifT C1 H
  have q0:∀σ i,buildSliceA T 201 true i 0 [] σ=some (.esl,σ):=fun _ _=>rfl
  refine Sx tok [0] [2] (by intro K k;simp -dsimp -implicitDefEqProofs [q0];exact k) ?_
  obtain rfl:=oi H
  refine Kp [2] ?_
  refine gNilS AWP_ref 2 4 1 [(N0+6,some ⟨4,1,encL rB ([]:List Bool)⟩)] [(2,.sl (N0+6) 0 ([]:List Bool).length)] (by simp(disch:=omega)) (by simp(disch:=omega) [encL_nil]) [2] rfl ?_
  refine AWP_ret ?_
  refine⟨[.sl (N0+6) 0 ([]:List Bool).length],by simp,N0+7,N0+6,by omega,by omega,by omega,?_,?_⟩
  ·simp[encL_nil]
  ·first|rfl|simp[List.set_set]
 ·replace H:=ifF C1 H
  refine AWP_skip (Jn hK1 ?_)
  obtain⟨l2,hl2,H⟩:=bindE H
  refine Sx tok [] [0,3] (by intro K k;simp -dsimp -implicitDefEqProofs [mak201 hl2];exact k) ?_
  obtain⟨v3,hv3,H⟩:=bindE H
  obtain⟨l4,hl4,H⟩:=bindE H
  refine Sx tok [] [0,3] (by intro K k;simp -dsimp -implicitDefEqProofs [ixo201 hv3,(show _[0]? =some v3 from(idx_lt3 hv3).2.2),(show List.set _ 0 _=l4 from(setx_iff.1 hl4).2.symm)];exact k) ?_
  try rw[← setx_len hl4]
  refine AWP_sq [3] fun K2 hK2=>?_
  refine AWP_block (AWP_thenB ?_)
  obtain⟨e1,hse1,H⟩:=bindE H
  refine AWP_lp [0,3] (fun s a σ=>∃M1 o1:Nat,N0≤M1∧N0≤o1∧o1<M1∧a=[(0,.fsl (encL rQuad p0)),(3,.sl o1 0 s.length)]∧σ=hp E0 [(o1,some ⟨4,1,encL rB s⟩)] M1) (fun s x a σ=>x=.exit 0∧Rc G 17 N0 (fun a σ=>∃M2 o2:Nat,N0≤M2∧N0≤o2∧o2<M2∧a=[(3,.sl o2 0 s.length)]∧σ=hp E0 [(o2,some ⟨4,1,encL rB s⟩)] M2) (AAct.keep a [3]) σ) hse1 ?_ ?_ ?_
  ·refine Rc.kp [0,3] [(0,.fsl (encL rQuad p0)),(3,.sl (N0+6) 0 l4.length)] rfl ?_
   exact Rf ⟨N0+11,(N0+6),(by omega),(by omega),(by omega),rfl,rfl⟩
  ·clear H hse1
   rintro s5 fl a σ H ⟨M1,o1,fM1_0,fM1_1,fM1_2,rfl,rfl⟩ K3 O3 hK3 hO3
   unfold s_CodeReach_o_L1 at H;dsimp only at H
   refine AWP_sq [0,3] fun K4 hK4=>?_
   obtain⟨r7,hr7,H⟩:=bindE H
   refine AWP_sr tok [] [0,3,15] (fun a σ=>∃M3:Nat,M1+3≤M3∧r7.2.length=s5.length∧a=[(0,.fsl (encL rQuad p0)),(3,.sl o1 0 s5.length),(15,.bool r7.1)]∧σ=hp E0 [(o1,some ⟨4,1,encL rB r7.2⟩)] M3) (fun K hK=>?_) ?_
   ·skip
    simp -dsimp -implicitDefEqProofs
    refine(c215 (H:=hr7) (by simp[])).mono ?_;rintro _ _ ⟨M3,fM3_0,fM3_1,rfl,rfl⟩;simp only[hp_next] at fM3_0
    try simp -dsimp -implicitDefEqProofs [hp_over_some,hp_over_none]
    exact hK _ _ ⟨M3,(by omega),fM3_1,rfl,rfl⟩
   rintro a σ ⟨M3,fM3_0,fM3_1,rfl,rfl⟩
   try rw[← fM3_1]
   refine Cd (fun C2=>?_) fun C2=>?_
   ·replace H:=ifT C2 H
    refine AWP_skip (Jn hK4 ?_)
    refine AWP_block (AWP_thenB ?_)
    refine AWP_skip ?_
    show K3 _ _
    refine kE [0,3] fun a' ha=>?_
    obtain rfl:=oi H
    refine hK3 _ _ _ rfl ?_;rw[ha]
    exact Rf ⟨M3,o1,(by omega),(by omega),(by omega),rfl,rfl⟩
   ·obtain rfl:=oi (ifF C2 H)
    refine AWP_exit (hO3 _ _ _ _ rfl ⟨rfl,?_⟩)
    refine Rc.rw (l:=[3]) (X:=[(3,.sl o1 0 r7.2.length)]) rfl ?_
    exact Rf ⟨M3,o1,(by omega),(by omega),(by omega),rfl,rfl⟩
  ·intro x a σ hx
   obtain⟨y6,rfl⟩:∃x,x=e1:=⟨_,rfl⟩
   obtain⟨rfl,b,τ,hr,M2,o2,fM2_0,fM2_1,fM2_2,rfl,rfl⟩:=hx
   (try dsimp only at H)
   show K2 _ _
   refine hK2 _ _ (Rc_ref hr ?_)
   refine Rc.mk ?_
   refine S0 tok [] [2] ?_
   obtain rfl:=oi H
   refine Kp [2] ?_
   refine AWP_ret ?_
   refine⟨[.sl o2 0 y6.length],by simp,M2+2,o2,by omega,by omega,by omega,?_,?_⟩
   ·simp[encL_nil]
   ·first|rfl|simp[List.set_set]
theorem c200 {p0:(List Bool)} {p1:Int} {r:Int} (H:s_l36Place p0 p1=some r):APure Tryz.prog G 200 [.fsl (encL rB p0),.int .i64 p1] (.int .i64 r):=by
 refine APure_fn (fun N0=>?_) (by simp)
 refine fnK tok Tryz.func200 Tryz.ntmps200 Tryz.results200 ?_
 simp only[argsA,Nat.reduceAdd,hp_next]
 unfold s_l36Place at H
 refine S0 tok [] [0,1] ?_
 refine S0 tok [] [0,1,5] ?_
 refine AWP_sq [5] fun K1 hK1=>?_
 refine S0 tok [] [0,1,5,6] ?_
 refine AWP_block (AWP_thenB ?_)
 obtain⟨e1,hse1,H⟩:=bindE H
 refine AWP_lp [0,1,5,6] (fun s a σ=>∃M1:Nat,N0≤M1∧a=[(0,.fsl (encL rB p0)),(1,.int .i64 p1),(5,.int .i64 s.1),(6,.int .i64 s.2)]∧σ=hp E0 [] M1) (fun s x a σ=>x=.exit 0∧Rc G 19 N0 (fun a σ=>∃M2:Nat,N0≤M2∧a=[(5,.int .i64 s)]∧σ=hp E0 [] M2) (AAct.keep a [5]) σ) hse1 ?_ ?_ ?_
 ·refine Rc.kp [0,1,5,6] [(0,.fsl (encL rB p0)),(1,.int .i64 p1),(5,.int .i64 0),(6,.int .i64 0)] rfl ?_
  exact Rf ⟨N0+3,(by omega),rfl,rfl⟩
 ·clear H hse1
  rintro⟨s1,s2⟩ fl a σ H ⟨M1,fM1_0,rfl,rfl⟩ K2 O2 hK2 hO2
  unfold s_l36Place_L1 at H;dsimp only at H
  refine AWP_sq [0,1,5,6] fun K3 hK3=>?_
  refine S0 tok [] [0,1,5,6,9] ?_
  refine Cd (fun C1=>?_) fun C1=>?_
  ·replace H:=ifT C1 H
   refine AWP_skip (Jn hK3 ?_)
   refine AWP_sq [0,1,5,6] fun K4 hK4=>?_
   refine AWP_block (AWP_thenB ?_)
   obtain⟨v4,hv4,H⟩:=bindE H
   refine Sx tok [] [0,1,5,6,15] (by intro K k;simp -dsimp -implicitDefEqProofs [ix201 hv4];exact k) ?_
   refine Cd (fun C2=>?_) fun C2=>?_
   ·replace H:=ifT C2 H
    refine Rt0 tok [] [0,1,5,6] fun a ha=>?_
    refine hK4 _ _ ?_;rw[ha]
    refine Rc.mk ?_
    refine Rt0 tok [] [0,1,5,6] fun a ha=>?_
    obtain rfl:=oi H
    refine hK2 _ _ _ rfl ?_;rw[ha]
    exact Rf ⟨M1+13,(by omega),rfl,rfl⟩
   ·replace H:=ifF C2 H
    refine AWP_skip (Jn hK4 ?_)
    refine Rt0 tok [] [0,1,5,6] fun a ha=>?_
    obtain rfl:=oi H
    refine hK2 _ _ _ rfl ?_;rw[ha]
    exact Rf ⟨M1+10,(by omega),rfl,rfl⟩
  ·obtain rfl:=oi (ifF C1 H)
   refine AWP_exit (hO2 _ _ _ _ rfl ⟨rfl,?_⟩)
   refine Rc.rw (l:=[5]) (X:=[(5,.int .i64 s1)]) rfl ?_
   exact Rf ⟨M1+3,(by omega),rfl,rfl⟩
 ·intro x a σ hx
  obtain⟨y3,rfl⟩:∃x,x=e1:=⟨_,rfl⟩
  obtain⟨rfl,b,τ,hr,M2,fM2_0,rfl,rfl⟩:=hx
  (try dsimp only at H)
  show K1 _ _
  refine hK1 _ _ (Rc_ref hr ?_)
  refine Rc.mk ?_
  refine S0 tok [] [4] ?_
  obtain rfl:=oi H;exact AWP_ret ⟨_,rfl,4,by simp[encL_nil]⟩
theorem c142_o {p0:gL6Rd} {r:(List gQuad)×gL6Rd} (H:s_l93Random_o p0=some r) {σ:AHeap} {w0:Nat} {W0:List (List AV)} {r0_:Nat} (q0:σ.objs w0=some ⟨140,2,W0⟩) (g0:W0[r0_]? =some [.fsl (encL rI_u8 p0.b),.int .i64 p0.p]):ACalls Tryz.prog G 142 [.ptr w0 r0_ 0] σ (fun v σ'=>∃M n0:Nat,σ.next≤M∧σ.next≤n0∧n0<M∧v=.sl n0 0 r.1.length∧σ'=hp σ.objs [(w0,some ⟨140,2,W0.set r0_ [.fsl (encL rI_u8 r.2.b),.int .i64 r.2.p]⟩),(n0,some ⟨48,5,encL rQuad r.1⟩)] M):=by
 refine ACalls_fr (L:=[(w0,some ⟨140,2,W0⟩)]) (Q1:=fun v σ'=>∃M n0:Nat,σ.next≤M∧σ.next≤n0∧n0<M∧v=.sl n0 0 r.1.length∧σ'=hp E0 [(w0,some ⟨140,2,W0.set r0_ [.fsl (encL rI_u8 r.2.b),.int .i64 r.2.p]⟩),(n0,some ⟨48,5,encL rQuad r.1⟩)] M) (by simp[q0]) (fun hlt=>?_) ?_ ⟨_,Tryz.func142,rfl,rfl⟩
 rotate_left
 ·rintro v σ1 ⟨M,n0,h0,h1,h2,rfl,rfl⟩
  exact⟨_,M,rfl,by simp,by simp;try omega,M,n0,h0,h1,h2,rfl,rfl⟩
 generalize σ.next=N0 at hlt ⊢
 have lw0:w0<N0:=hlt _ (.head _) rfl
 have gs_W0:∀x,(W0.set r0_ x)[r0_]? =some x:=gsetW g0
 rw[← set_same g0]
 refine fnK tok Tryz.func142 Tryz.ntmps142 Tryz.results142 ?_
 simp only[argsA,Nat.reduceAdd,hp_next]
 unfold s_l93Random_o at H
 refine Sx tok [] [0] (by intro K k;simp -dsimp -implicitDefEqProofs [gs_W0,List.set_set];exact k) ?_
 obtain⟨r1,hr1,H⟩:=bindE H
 refine AWP_sr tok [] [0,3] (fun a σ=>∃M1:Nat,N0+5≤M1∧a=[(0,.ptr w0 r0_ 0),(3,.int .i64 (iadd .i64 1 r1.1))]∧σ=hp E0 [(w0,some ⟨140,2,W0.set r0_ [.fsl (encL rI_u8 r1.2.b),.int .i64 r1.2.p]⟩)] M1) (fun K hK=>?_) ?_
 ·skip
  simp -dsimp -implicitDefEqProofs [gs_W0,List.set_set]
  refine(c82 (W0:=W0.set r0_ [.fsl (encL rI_u8 p0.b),.int .i64 p0.p]) (r0_:=r0_) (H:=hr1) (by simp[gs_W0,List.set_set]) (by simp[gs_W0,List.set_set])).mono ?_;rintro _ _ ⟨M1,fM1_0,rfl,rfl⟩;simp only[hp_next] at fM1_0
  try simp -dsimp -implicitDefEqProofs [gs_W0,List.set_set,hp_over_some,hp_over_none]
  exact hK _ _ ⟨M1,(by omega),rfl,rfl⟩
 rintro a σ ⟨M1,fM1_0,rfl,rfl⟩
 have q0:∀σ i,buildSliceA T 39 true i 0 [] σ=some (.esl,σ):=fun _ _=>rfl
 refine Sx tok [0] [0,3,4] (by intro K k;simp -dsimp -implicitDefEqProofs [gs_W0,List.set_set,q0];exact k) ?_
 refine AWP_sq [0,3,4] fun K1 hK1=>?_
 refine Sx tok [] [0,3,4,5] (by intro K k;simp -dsimp -implicitDefEqProofs [gs_W0,List.set_set];exact k) ?_
 refine AWP_block (AWP_thenB ?_)
 obtain⟨e1,hse1,H⟩:=bindE H
 refine AWP_lp [0,3,4,5] (fun s a σ=>∃M2 o1:Nat,N0≤M2∧N0≤o1∧o1<M2∧a=[(0,.ptr w0 r0_ 0),(3,.int .i64 (iadd .i64 1 r1.1)),(4,.sl o1 0 s.2.2.length),(5,.int .i64 s.1)]∧σ=hp E0 [(w0,some ⟨140,2,W0.set r0_ [.fsl (encL rI_u8 s.2.1.b),.int .i64 s.2.1.p]⟩),(o1,some ⟨48,5,encL rQuad s.2.2⟩)] M2) (fun s x a σ=>x=.exit 0∧Rc G 36 N0 (fun a σ=>∃M3 o2:Nat,N0≤M3∧N0≤o2∧o2<M3∧a=[(0,.ptr w0 r0_ 0),(3,.int .i64 (iadd .i64 1 r1.1)),(4,.sl o2 0 s.2.length)]∧σ=hp E0 [(w0,some ⟨140,2,W0.set r0_ [.fsl (encL rI_u8 s.1.b),.int .i64 s.1.p]⟩),(o2,some ⟨48,5,encL rQuad s.2⟩)] M3) (AAct.keep a [0,3,4]) σ) hse1 ?_ ?_ ?_
 ·refine Rc.kp [0,3,4,5] [(0,.ptr w0 r0_ 0),(3,.int .i64 (iadd .i64 1 r1.1)),(4,.esl),(5,.int .i64 0)] rfl ?_
  refine gNilS Rc_ref 4 48 5 [(w0,some ⟨140,2,W0.set r0_ [.fsl (encL rI_u8 r1.2.b),.int .i64 r1.2.p]⟩),(M1+3,some ⟨48,5,encL rQuad ([]:List gQuad)⟩)] [(0,.ptr w0 r0_ 0),(3,.int .i64 (iadd .i64 1 r1.1)),(4,.sl (M1+3) 0 ([]:List gQuad).length),(5,.int .i64 0)] (by simp(disch:=omega)) (by simp(disch:=omega) [encL_nil]) [0,3,4,5] rfl ?_
  exact Rf ⟨M1+4,(M1+3),(by omega),(by omega),(by omega),rfl,rfl⟩
 ·clear H hse1
  rintro⟨s2,s3,s4⟩ fl a σ H ⟨M2,o1,fM2_0,fM2_1,fM2_2,rfl,rfl⟩ K2 O2 hK2 hO2
  unfold s_l93Random_o_L1 at H;dsimp only at H
  refine AWP_sq [0,3,4,5] fun K3 hK3=>?_
  refine Sx tok [] [0,3,4,5,13] (by
   intro K k
   have e0:=nQ w0 o1
   simp -dsimp -implicitDefEqProofs [e0,gs_W0,List.set_set]
   exact k) ?_
  refine Cd (fun C1=>?_) fun C1=>?_
  ·replace H:=ifT C1 H
   refine AWP_skip (Jn hK3 ?_)
   refine AWP_sq [0,3,4,5] fun K4 hK4=>?_
   refine AWP_block (AWP_thenB ?_)
   obtain⟨r7,hr7,H⟩:=bindE H
   obtain⟨l8,hl8,H⟩:=bindE H
   have q1:∀σ i,buildSliceA T 39 true i 1 [(0,.agg [.int .i64 r7.1.Op,.int .i64 r7.1.Dst,.int .i64 r7.1.A,.int .i64 r7.1.B,.int .i64 r7.1.N])] σ=some (.fsl (encL rQuad ([r7.1]:List gQuad)),σ):=fun _ _=>rfl
   refine AWP_rt tok [4] [0,3,4,5] (fun a σ=>∃M4:Nat,M2+11≤M4∧a=[(0,.ptr w0 r0_ 0),(3,.int .i64 (iadd .i64 1 r1.1)),(4,.sl (M2+9) 0 l8.length),(5,.int .i64 s2)]∧σ=hp E0 [(w0,some ⟨140,2,W0.set r0_ [.fsl (encL rI_u8 r7.2.b),.int .i64 r7.2.p]⟩),(M2+9,some ⟨48,5,encL rQuad l8⟩)] M4) (fun K hK=>?_) ?_
   ·skip
    have e0:=nQ w0 o1
    have e1:=nQ w0 (M2+9)
    have e2:=nQ o1 (M2+9)
    simp -dsimp -implicitDefEqProofs [e0,e1,e2,gs_W0,List.set_set,q1,app39 hl8]
    refine(c160 (W0:=W0.set r0_ [.fsl (encL rI_u8 s3.b),.int .i64 s3.p]) (r0_:=r0_) (H:=hr7) (by simp[e0,e1,e2,gs_W0,List.set_set,q1,app39 hl8]) (by simp[e0,e1,e2,gs_W0,List.set_set,q1,app39 hl8])).mono ?_;rintro _ _ ⟨M4,fM4_0,rfl,rfl⟩;simp only[hp_next] at fM4_0
    try simp -dsimp -implicitDefEqProofs [e0,e1,e2,gs_W0,List.set_set,q1,app39 hl8,hp_over_some,hp_over_none]
    exact hK _ _ ⟨M4,(by omega),rfl,rfl⟩
   rintro a σ ⟨M4,fM4_0,ha,rfl⟩
   refine hK4 _ _ ?_;rw[ha]
   refine Rc.mk ?_
   refine Rt tok [] [0,3,4,5] (by
    intro K k
    have e0:=nQ w0 (M2+9)
    simp -dsimp -implicitDefEqProofs [e0,gs_W0,List.set_set]
    exact k) fun a ha=>?_
   obtain rfl:=oi H
   refine hK2 _ _ _ rfl ?_;rw[ha]
   exact Rf ⟨M4+3,(M2+9),(by omega),(by omega),(by omega),rfl,rfl⟩
  ·obtain rfl:=oi (ifF C1 H)
   refine AWP_exit (hO2 _ _ _ _ rfl ⟨rfl,?_⟩)
   refine Rc.rw (l:=[0,3,4]) (X:=[(0,.ptr w0 r0_ 0),(3,.int .i64 (iadd .i64 1 r1.1)),(4,.sl o1 0 s4.length)]) rfl ?_
   exact Rf ⟨M2+4,o1,(by omega),(by omega),(by omega),rfl,rfl⟩
 ·intro x a σ hx
  obtain⟨y5,y6⟩:=e1
  obtain⟨rfl,b,τ,hr,M3,o2,fM3_0,fM3_1,fM3_2,rfl,rfl⟩:=hx
  (try dsimp only at H)
  show K1 _ _
  refine hK1 _ _ (Rc_ref hr ?_)
  refine Rc.mk ?_
  refine AWP_sq [4] fun K5 hK5=>?_
  obtain⟨r9,hr9,H⟩:=bindE H
  refine AWP_sr tok [] [0,3,4,24] (fun a σ=>∃M5:Nat,M3+3≤M5∧a=[(0,.ptr w0 r0_ 0),(3,.int .i64 (iadd .i64 1 r1.1)),(4,.sl o2 0 y6.length),(24,.bool (ieq r9.1 0))]∧σ=hp E0 [(w0,some ⟨140,2,W0.set r0_ [.fsl (encL rI_u8 r9.2.b),.int .i64 r9.2.p]⟩),(o2,some ⟨48,5,encL rQuad y6⟩)] M5) (fun K hK=>?_) ?_
  ·skip
   have e0:=nQ w0 o2
   simp -dsimp -implicitDefEqProofs [e0,gs_W0,List.set_set]
   refine(c82 (W0:=W0.set r0_ [.fsl (encL rI_u8 y5.b),.int .i64 y5.p]) (r0_:=r0_) (H:=hr9) (by simp[e0,gs_W0,List.set_set]) (by simp[e0,gs_W0,List.set_set])).mono ?_;rintro _ _ ⟨M5,fM5_0,rfl,rfl⟩;simp only[hp_next] at fM5_0
   try simp -dsimp -implicitDefEqProofs [e0,gs_W0,List.set_set,hp_over_some,hp_over_none]
   exact hK _ _ ⟨M5,(by omega),rfl,rfl⟩
  rintro a σ ⟨M5,fM5_0,rfl,rfl⟩
  refine Cd (fun C2=>?_) fun C2=>?_
  ·replace H:=ifT C2 H
   obtain⟨r10,hr10,H⟩:=bindE H
   obtain⟨l11,hl11,H⟩:=bindE H
   have q2:∀σ i,buildSliceA T 39 true i 1 [(0,.agg [.int .i64 4,.int .i64 0,.int .i64 0,.int .i64 0,.int .i64 r10.1])] σ=some (.fsl (encL rQuad ([(⟨4,0,0,0,r10.1⟩:gQuad)]:List gQuad)),σ):=fun _ _=>rfl
   refine AWP_sr tok [5] [2] (fun a σ=>∃M6:Nat,M5+8≤M6∧a=[(2,.sl (M5+6) 0 l11.length)]∧σ=hp E0 [(w0,some ⟨140,2,W0.set r0_ [.fsl (encL rI_u8 r10.2.b),.int .i64 r10.2.p]⟩),(M5+6,some ⟨48,5,encL rQuad l11⟩)] M6) (fun K hK=>?_) ?_
   ·skip
    have e0:=nQ w0 o2
    have e1:=nQ w0 (M5+6)
    have e2:=nQ o2 (M5+6)
    simp -dsimp -implicitDefEqProofs [e0,e1,e2,gs_W0,List.set_set,q2,app39 hl11]
    refine(c82 (W0:=W0.set r0_ [.fsl (encL rI_u8 r9.2.b),.int .i64 r9.2.p]) (r0_:=r0_) (H:=hr10) (by simp[e0,e1,e2,gs_W0,List.set_set,q2,app39 hl11]) (by simp[e0,e1,e2,gs_W0,List.set_set,q2,app39 hl11])).mono ?_;rintro _ _ ⟨M6,fM6_0,rfl,rfl⟩;simp only[hp_next] at fM6_0
    try simp -dsimp -implicitDefEqProofs [e0,e1,e2,gs_W0,List.set_set,q2,app39 hl11,hp_over_some,hp_over_none]
    exact hK _ _ ⟨M6,(by omega),rfl,rfl⟩
   rintro a σ ⟨M6,fM6_0,rfl,rfl⟩
   obtain rfl:=oi H
   refine Kp [2] ?_
   have z0:=nQ w0 (M5+6)
   refine AWP_ret ?_
   refine⟨[.sl (M5+6) 0 l11.length],by simp[z0,gs_W0],M6,M5+6,by omega,by omega,by omega,?_,?_⟩
   ·simp[encL_nil]
   ·first|rfl|simp[List.set_set]
  ·replace H:=ifF C2 H
   refine AWP_skip (Jn hK5 ?_)
   obtain⟨l12,hl12,H⟩:=bindE H
   have q3:∀σ i,buildSliceA T 39 true i 1 [(0,.agg [.int .i64 10,.int .i64 0,.int .i64 0,.int .i64 0,.int .i64 0])] σ=some (.fsl (encL rQuad ([(⟨10,0,0,0,0⟩:gQuad)]:List gQuad)),σ):=fun _ _=>rfl
   refine Sx tok [2] [2] (by
    intro K k
    have e0:=nQ w0 o2
    have e1:=nQ w0 (M5+3)
    have e2:=nQ o2 (M5+3)
    simp -dsimp -implicitDefEqProofs [e0,e1,e2,gs_W0,List.set_set,q3,app39 hl12]
    exact k) ?_
   obtain rfl:=oi H
   refine Kp [2] ?_
   have z1:=nQ w0 (M5+3)
   refine AWP_ret ?_
   refine⟨[.sl (M5+3) 0 l12.length],by simp[z1,gs_W0],M5+5,M5+3,by omega,by omega,by omega,?_,?_⟩
   ·simp[encL_nil]
   ·first|rfl|simp[List.set_set]
theorem c180_o {p0:(List gQuad)} {r:(List gQuad)×Bool} (H:s_SqueezeCode_o p0=some r) {σ:AHeap}:ACalls Tryz.prog G 180 [.fsl (encL rQuad p0)] σ (fun v σ'=>∃M n0:Nat,σ.next≤M∧σ.next≤n0∧n0<M∧v=.tup [.sl n0 0 r.1.length,.bool r.2]∧σ'=hp σ.objs [(n0,some ⟨48,5,encL rQuad r.1⟩)] M):=by
 refine ACalls_fr (L:=[]) (Q1:=fun v σ'=>∃M n0:Nat,σ.next≤M∧σ.next≤n0∧n0<M∧v=.tup [.sl n0 0 r.1.length,.bool r.2]∧σ'=hp E0 [(n0,some ⟨48,5,encL rQuad r.1⟩)] M) (by simp[]) (fun hlt=>?_) ?_ ⟨_,Tryz.func180,rfl,rfl⟩
 rotate_left
 ·rintro v σ1 ⟨M,n0,h0,h1,h2,rfl,rfl⟩
  exact⟨_,M,rfl,by simp,by simp;try omega,M,n0,h0,h1,h2,rfl,rfl⟩
 generalize σ.next=N0 at hlt ⊢
 refine fnK tok Tryz.func180 Tryz.ntmps180 Tryz.results180 ?_
 simp only[argsA,Nat.reduceAdd,hp_next]
 unfold s_SqueezeCode_o at H
 refine S0 tok [] [0] ?_
 have q0:∀σ i,buildSliceA T 39 true i 0 [] σ=some (.esl,σ):=fun _ _=>rfl
 refine Sx tok [0] [0,4] (by intro K k;simp -dsimp -implicitDefEqProofs [q0];exact k) ?_
 refine AWP_sq [0,4] fun K1 hK1=>?_
 obtain⟨r1,hr1,H⟩:=bindE H
 refine Sx tok [] [0,4,12] (by intro K k;(repeat first|simp -dsimp -implicitDefEqProofs|refine(c47 hr1).app ?_);exact k) ?_
 refine Cd (fun C1=>?_) fun C1=>?_
 ·replace H:=ifT C1 H
  refine S0 tok [] [2,3] ?_
  obtain rfl:=oi H
  refine Kp [2,3] ?_
  refine gNilS AWP_ref 2 48 5 [(N0+10,some ⟨48,5,encL rQuad ([]:List gQuad)⟩)] [(2,.sl (N0+10) 0 ([]:List gQuad).length),(3,.bool false)] (by simp(disch:=omega)) (by simp(disch:=omega) [encL_nil]) [2,3] rfl ?_
  refine AWP_ret ?_
  refine⟨[.sl (N0+10) 0 ([]:List gQuad).length,.bool false],by simp,N0+11,N0+10,by omega,by omega,by omega,?_,?_⟩
  ·simp[encL_nil]
  ·first|rfl|simp[List.set_set]
 ·replace H:=ifF C1 H
  refine AWP_skip (Jn hK1 ?_)
  obtain⟨r2,hr2,H⟩:=bindE H
  refine AWP_sr tok [] [0,4,5] (fun a σ=>∃M1 o1:Nat,N0+10≤M1∧N0+10≤o1∧o1<M1∧a=[(0,.fsl (encL rQuad p0)),(4,.esl),(5,.sl o1 0 r2.length)]∧σ=hp E0 [(o1,some ⟨4,1,encL rB r2⟩)] M1) (fun K hK=>?_) ?_
  ·skip
   simp -dsimp -implicitDefEqProofs
   refine(c198_o (H:=hr2)).mono ?_;rintro _ _ ⟨M1,o1,fM1_0,fM1_1,fM1_2,rfl,rfl⟩;simp only[hp_next] at fM1_0 fM1_1 fM1_2
   try simp -dsimp -implicitDefEqProofs [hp_over_some,hp_over_none]
   exact hK _ _ ⟨M1,o1,(by omega),(by omega),(by omega),rfl,rfl⟩
  rintro a σ ⟨M1,o1,fM1_0,fM1_1,fM1_2,rfl,rfl⟩
  refine AWP_sq [0,4,5] fun K2 hK2=>?_
  refine S0 tok [] [0,4,5,6] ?_
  refine AWP_block (AWP_thenB ?_)
  obtain⟨e1,hse1,H⟩:=bindE H
  refine AWP_lp [0,4,5,6] (fun s a σ=>∃M2 o2:Nat,N0≤M2∧N0≤o2∧o2<M2∧a=[(0,.fsl (encL rQuad p0)),(4,.esl),(5,.sl o2 0 s.2.length),(6,.int .i64 s.1)]∧σ=hp E0 [(o2,some ⟨4,1,encL rB s.2⟩)] M2) (fun s x a σ=>x=.exit 0∧Rc G 71 N0 (fun a σ=>∃M3 o3:Nat,N0≤M3∧N0≤o3∧o3<M3∧a=[(0,.fsl (encL rQuad p0)),(4,.esl),(5,.sl o3 0 s.length)]∧σ=hp E0 [(o3,some ⟨4,1,encL rB s⟩)] M3) (AAct.keep a [0,4,5]) σ) hse1 ?_ ?_ ?_
  ·refine Rc.kp [0,4,5,6] [(0,.fsl (encL rQuad p0)),(4,.esl),(5,.sl o1 0 r2.length),(6,.int .i64 0)] rfl ?_
   exact Rf ⟨M1+1,o1,(by omega),(by omega),(by omega),rfl,rfl⟩
  ·clear H hse1
   rintro⟨s3,s4⟩ fl a σ H ⟨M2,o2,fM2_0,fM2_1,fM2_2,rfl,rfl⟩ K3 O3 hK3 hO3
   unfold s_SqueezeCode_o_L1 at H;dsimp only at H
   refine AWP_sq [0,4,5,6] fun K4 hK4=>?_
   refine S0 tok [] [0,4,5,6,19] ?_
   refine Cd (fun C2=>?_) fun C2=>?_
   ·replace H:=ifT C2 H
    refine AWP_skip (Jn hK4 ?_)
    refine AWP_sq [0,4,5,6] fun K5 hK5=>?_
    refine AWP_block (AWP_thenB ?_)
    obtain⟨v6,hv6,H⟩:=bindE H
    obtain⟨g9,hg9,H⟩:=bindE H
    obtain⟨l10,hl10,H⟩:=bindE H
    refine AWP_rt tok [] [0,4,5,6] (fun a σ=>a=[(0,.fsl (encL rQuad p0)),(4,.esl),(5,.sl o2 0 s4.length),(6,.int .i64 s3)]∧σ=hp E0 [(o2,some ⟨4,1,encL rB l10⟩)] (M2+21)) (fun K hK=>?_) ?_
    ·skip
     simp -dsimp -implicitDefEqProofs [ixo201 hv6,(idx_lt3 hv6).2.2,ixo201 hv6,(idx_lt3 hv6).2.2,(setx_iff.1 hl10).2.symm]
     cases hbg9:v6
     ·obtain rfl:=oi (ifF hbg9 hg9)
      try simp -dsimp -implicitDefEqProofs [ixo201 hv6,(idx_lt3 hv6).2.2,ixo201 hv6,(idx_lt3 hv6).2.2,(setx_iff.1 hl10).2.symm,hbg9]
      exact hK _ _ ⟨rfl,rfl⟩
     ·replace hg9:=ifT hbg9 hg9
      obtain⟨v7,hv7,hg9⟩:=bindE hg9
      obtain⟨r8,hr8,hg9⟩:=bindE hg9
      obtain rfl:=oi hg9
      try simp -dsimp -implicitDefEqProofs [ixo201 hv6,(idx_lt3 hv6).2.2,ixo201 hv6,(idx_lt3 hv6).2.2,(setx_iff.1 hl10).2.symm,hbg9,ix39 hv7]
      refine(c199 hr8).app ?_;try simp -dsimp -implicitDefEqProofs [ixo201 hv6,(idx_lt3 hv6).2.2,ixo201 hv6,(idx_lt3 hv6).2.2,(setx_iff.1 hl10).2.symm,hbg9,ix39 hv7]
      exact hK _ _ ⟨rfl,rfl⟩
    rintro a σ ⟨ha,rfl⟩
    (try rw[← setx_len hl10] at ha);(try rw[← setx_len hl10])
    refine hK5 _ _ ?_;rw[ha]
    refine Rc.mk ?_
    refine Rt0 tok [] [0,4,5,6] fun a ha=>?_
    obtain rfl:=oi H
    refine hK3 _ _ _ rfl ?_;rw[ha]
    exact Rf ⟨M2+24,o2,(by omega),(by omega),(by omega),rfl,rfl⟩
   ·obtain rfl:=oi (ifF C2 H)
    refine AWP_exit (hO3 _ _ _ _ rfl ⟨rfl,?_⟩)
    refine Rc.rw (l:=[0,4,5]) (X:=[(0,.fsl (encL rQuad p0)),(4,.esl),(5,.sl o2 0 s4.length)]) rfl ?_
    exact Rf ⟨M2+4,o2,(by omega),(by omega),(by omega),rfl,rfl⟩
  ·intro x a σ hx
   obtain⟨y5,rfl⟩:∃x,x=e1:=⟨_,rfl⟩
   obtain⟨rfl,b,τ,hr,M3,o3,fM3_0,fM3_1,fM3_2,rfl,rfl⟩:=hx
   (try dsimp only at H)
   show K2 _ _
   refine hK2 _ _ (Rc_ref hr ?_)
   refine Rc.mk ?_
   refine AWP_sq [4] fun K6 hK6=>?_
   refine S0 tok [] [0,4,5,7] ?_
   refine AWP_block (AWP_thenB ?_)
   obtain⟨e3,hse3,H⟩:=bindE H
   refine AWP_lp [0,4,5,7] (fun s a σ=>∃M4 o4 o5:Nat,N0≤M4∧N0≤o4∧o4<M4∧N0≤o5∧o5<M4∧¬o4=o5∧a=[(0,.fsl (encL rQuad p0)),(4,.sl o5 0 s.2.2.length),(5,.sl o4 0 s.2.1.length),(7,.int .i64 s.1)]∧σ=hp E0 [(o4,some ⟨4,1,encL rB s.2.1⟩),(o5,some ⟨48,5,encL rQuad s.2.2⟩)] M4) (fun s x a σ=>x=.exit 2∧Rc G 71 N0 (fun a σ=>∃M5 o6:Nat,N0≤M5∧N0≤o6∧o6<M5∧a=[(4,.sl o6 0 s.length)]∧σ=hp E0 [(o6,some ⟨48,5,encL rQuad s⟩)] M5) (AAct.keep a [4]) σ) hse3 ?_ ?_ ?_
   ·refine Rc.kp [0,4,5,7] [(0,.fsl (encL rQuad p0)),(4,.esl),(5,.sl o3 0 y5.length),(7,.int .i64 0)] rfl ?_
    refine gNilS Rc_ref 4 48 5 [(o3,some ⟨4,1,encL rB y5⟩),(M3+1,some ⟨48,5,encL rQuad ([]:List gQuad)⟩)] [(0,.fsl (encL rQuad p0)),(4,.sl (M3+1) 0 ([]:List gQuad).length),(5,.sl o3 0 y5.length),(7,.int .i64 0)] (by simp(disch:=omega)) (by simp(disch:=omega) [encL_nil]) [0,4,5,7] rfl ?_
    exact Rf ⟨M3+2,o3,(M3+1),(by omega),(by omega),(by omega),(by omega),(by omega),(by omega),rfl,rfl⟩
   ·clear H hse3
    rintro⟨s11,s12,s13⟩ fl a σ H ⟨M4,o4,o5,fM4_0,fM4_1,fM4_2,fM4_3,fM4_4,fM4_5,rfl,rfl⟩ K7 O7 hK7 hO7
    unfold s_SqueezeCode_o_L2 at H;dsimp only at H
    refine AWP_sq [0,4,5,7] fun K8 hK8=>?_
    refine Sx tok [] [0,4,5,7,41] (by
     intro K k
     have e0:=nQ o4 o5
     simp -dsimp -implicitDefEqProofs [e0]
     exact k) ?_
    refine Cd (fun C3=>?_) fun C3=>?_
    ·replace H:=ifT C3 H
     refine AWP_skip (Jn hK8 ?_)
     refine AWP_sq [0,4,5,7] fun K9 hK9=>?_
     refine AWP_block (AWP_thenB ?_)
     obtain⟨v15,hv15,H⟩:=bindE H
     refine Sx tok [] [0,4,5,7,8] (by
      intro K k
      have e0:=nQ o4 o5
      have e1:=nQ o4 (M4+8)
      have e2:=nQ o5 (M4+8)
      simp -dsimp -implicitDefEqProofs [e0,e1,e2,ix39 hv15]
      exact k) ?_
     refine AWP_sq [0,4,5,7,8] fun K10 hK10=>?_
     obtain⟨v16,hv16,H⟩:=bindE H
     refine Sx tok [] [0,4,5,7,8,52] (by
      intro K k
      have e0:=nQ o4 o5
      have e1:=nQ o4 (M4+8)
      have e2:=nQ o5 (M4+8)
      simp -dsimp -implicitDefEqProofs [e0,e1,e2,ixo201 hv16,(idx_lt3 hv16).2.2]
      exact k) ?_
     refine Cd (fun C4=>?_) fun C4=>?_
     ·replace H:=ifT C4 H
      refine AWP_exit ?_
      show K9 _ _
      refine kE [0,4,5,7] fun a' ha=>?_
      refine hK9 _ _ ?_;rw[ha]
      refine Rc.mk ?_
      refine Rt tok [] [0,4,5,7] (by
       intro K k
       have e0:=nQ o4 o5
       have e1:=nQ o4 (M4+8)
       have e2:=nQ o5 (M4+8)
       simp -dsimp -implicitDefEqProofs [e0,e1,e2]
       exact k) fun a ha=>?_
      obtain rfl:=oi H
      refine hK7 _ _ _ rfl ?_;rw[ha]
      exact Rc.fin (hp_skip (hp_skip (AHeap.Sub.trans (AHeap.Sub.refl _) (hp_drop rfl (by simp;try omega))))) ⟨M4+18,o4,o5,(by omega),(by omega),(by omega),(by omega),(by omega),(by omega),rfl,rfl⟩
     ·replace H:=ifF C4 H
      refine AWP_skip (Jn hK10 ?_)
      obtain⟨j2,hj2,H⟩:=bindE H
      refine AWP_seq (AWP_named fun K11 hK11=>?_)
      have hJ1:∀a σ,Rc G 71 N0 (fun a σ=>∃M6:Nat,N0≤M6∧o4<M6∧o5<M6∧M4+8<M6∧a=[(0,.fsl (encL rQuad p0)),(4,.sl o5 0 s13.length),(5,.sl o4 0 s12.length),(7,.int .i64 s11),(8,.ptr (M4+8) 0 0)]∧σ=hp E0 [(o4,some ⟨4,1,encL rB s12⟩),(o5,some ⟨48,5,encL rQuad s13⟩),(M4+8,some ⟨48,5,[[.int .i64 j2.Op,.int .i64 j2.Dst,.int .i64 j2.A,.int .i64 j2.B,.int .i64 j2.N]]⟩)] M6) (a.keep [0,4,5,7,8]) σ→K11 a σ:=by
       rintro a σ ⟨b,τ,hr,M6,fM6_0,fM6_1,fM6_2,fM6_3,rfl,rfl⟩
       refine hK11 _ _ (AWP_keep [0,4,5,7,8] (AWP_ref hr ?_))
       obtain⟨l18,hl18,H⟩:=bindE H
       have q1:∀σ i,buildSliceA T 39 true i 1 [(0,.agg [.int .i64 j2.Op,.int .i64 j2.Dst,.int .i64 j2.A,.int .i64 j2.B,.int .i64 j2.N])] σ=some (.fsl (encL rQuad ([j2]:List gQuad)),σ):=fun _ _=>rfl
       refine Rt tok [2] [0,4,5,7] (by
        intro K k
        have e0:=nQ o4 o5
        have e1:=nQ o4 (M4+8)
        have e2:=nQ o4 (M6+3)
        have e3:=nQ o5 (M4+8)
        have e4:=nQ o5 (M6+3)
        have e5:=nQ (M4+8) (M6+3)
        have e6:=nQ (M4+5) M6
        simp -dsimp -implicitDefEqProofs [e0,e1,e2,e3,e4,e5,e6,q1,app39 hl18]
        exact k) fun a ha=>?_
       refine hK9 _ _ ?_;rw[ha]
       refine Rc.mk ?_
       refine Rt tok [] [0,4,5,7] (by
        intro K k
        have e0:=nQ o4 (M4+8)
        have e1:=nQ o4 (M6+3)
        have e2:=nQ (M4+8) (M6+3)
        have e3:=nQ (M4+5) M6
        simp -dsimp -implicitDefEqProofs [e0,e1,e2,e3]
        exact k) fun a ha=>?_
       obtain rfl:=oi H
       refine hK7 _ _ _ rfl ?_;rw[ha]
       exact Rc.fin (hp_skip (AHeap.Sub.trans (hp_skip (AHeap.Sub.refl _)) (hp_drop rfl (by simp;try omega)))) ⟨M6+8,o4,(M6+3),(by omega),(by omega),(by omega),(by omega),(by omega),(by omega),rfl,rfl⟩
      replace H:=hj2
      obtain⟨g19,hg19,H⟩:=bindE H
      refine Sx tok [] [0,4,5,7,8,60] (X:=[(0,.fsl (encL rQuad p0)),(4,.sl o5 0 s13.length),(5,.sl o4 0 s12.length),(7,.int .i64 s11),(8,.ptr (M4+8) 0 0),(60,.bool g19)]) (Y:=hp E0 [(o4,some ⟨4,1,encL rB s12⟩),(o5,some ⟨48,5,encL rQuad s13⟩),(M4+8,some ⟨48,5,[[.int .i64 v15.Op,.int .i64 v15.Dst,.int .i64 v15.A,.int .i64 v15.B,.int .i64 v15.N]]⟩)] (M4+23)) (by
       intro K k
       have e0:=nQ o4 o5
       have e1:=nQ o4 (M4+8)
       have e2:=nQ o5 (M4+8)
       simp -dsimp -implicitDefEqProofs [e0,e1,e2]
       cases hbg19:ieq v15.Op 4
       ·obtain rfl:=oi (ifF hbg19 hg19)
        try simp -dsimp -implicitDefEqProofs [e0,e1,e2,hbg19]
        exact k
       ·obtain rfl:=oi (ifT hbg19 hg19)
        try simp -dsimp -implicitDefEqProofs [e0,e1,e2,hbg19]
        exact k) ?_
      refine Cd (fun C5=>?_) fun C5=>?_
      ·replace H:=ifT C5 H
       obtain⟨r20,hr20,H⟩:=bindE H
       refine AWP_rt tok [] [0,4,5,7,8] (fun a σ=>a=[(0,.fsl (encL rQuad p0)),(4,.sl o5 0 s13.length),(5,.sl o4 0 s12.length),(7,.int .i64 s11),(8,.ptr (M4+8) 0 0)]∧σ=hp E0 [(o4,some ⟨4,1,encL rB s12⟩),(o5,some ⟨48,5,encL rQuad s13⟩),(M4+8,some ⟨48,5,[[.int .i64 v15.Op,.int .i64 v15.Dst,.int .i64 v15.A,.int .i64 v15.B,.int .i64 r20]]⟩)] (M4+29)) (fun K hK=>?_) ?_
       ·skip
        have e0:=nQ o4 o5
        have e1:=nQ o4 (M4+8)
        have e2:=nQ o5 (M4+8)
        simp -dsimp -implicitDefEqProofs [e0,e1,e2]
        refine(borrow 8 (c200 hr20) (by simp[e0,e1,e2]) rfl).mono ?_;rintro _ _ ⟨rfl,rfl⟩;try simp -dsimp -implicitDefEqProofs [e0,e1,e2]
        exact hK _ _ ⟨rfl,rfl⟩
       rintro a σ ⟨ha,rfl⟩
       obtain rfl:=oi H
       refine hJ1 _ _ ?_;rw[ha]
       exact Rf ⟨M4+29,(by omega),(by omega),(by omega),(by omega),rfl,rfl⟩
      ·replace H:=ifF C5 H
       refine AWP_skip ?_
       show K11 _ _
       refine kE [0,4,5,7,8] fun a' ha=>?_
       obtain rfl:=oi H
       refine hJ1 _ _ ?_;rw[ha]
       exact Rf ⟨M4+23,(by omega),(by omega),(by omega),(by omega),rfl,rfl⟩
    ·obtain rfl:=oi (ifF C3 H)
     refine AWP_exit (hO7 _ _ _ _ rfl ⟨rfl,?_⟩)
     refine Rc.rw (l:=[4]) (X:=[(4,.sl o5 0 s13.length)]) rfl ?_
     exact Rc.fin (AHeap.Sub.trans (hp_skip (AHeap.Sub.refl _)) (hp_drop rfl (by simp;try omega))) ⟨M4+4,o5,(by omega),(by omega),(by omega),rfl,rfl⟩
   ·intro x a σ hx
    obtain⟨y14,rfl⟩:∃x,x=e3:=⟨_,rfl⟩
    obtain⟨rfl,b,τ,hr,M5,o6,fM5_0,fM5_1,fM5_2,rfl,rfl⟩:=hx
    (try dsimp only at H)
    show K6 _ _
    refine hK6 _ _ (Rc_ref hr ?_)
    refine Rc.mk ?_
    refine S0 tok [] [2,3] ?_
    obtain rfl:=oi H
    refine Kp [2,3] ?_
    refine AWP_ret ?_
    refine⟨[.sl o6 0 y14.length,.bool true],by simp,M5+3,o6,by omega,by omega,by omega,?_,?_⟩
    ·simp[encL_nil]
    ·first|rfl|simp[List.set_set]
theorem c165_o {p0:(List gQuad)} {r:(List gQuad)} (H:s_l37Once_o p0=some r) {σ:AHeap}:ACalls Tryz.prog G 165 [.fsl (encL rQuad p0)] σ (fun v σ'=>∃M n0:Nat,σ.next≤M∧σ.next≤n0∧n0<M∧v=.sl n0 0 r.length∧σ'=hp σ.objs [(n0,some ⟨48,5,encL rQuad r⟩)] M):=by
 refine ACalls_fr (L:=[]) (Q1:=fun v σ'=>∃M n0:Nat,σ.next≤M∧σ.next≤n0∧n0<M∧v=.sl n0 0 r.length∧σ'=hp E0 [(n0,some ⟨48,5,encL rQuad r⟩)] M) (by simp[]) (fun hlt=>?_) ?_ ⟨_,Tryz.func165,rfl,rfl⟩
 rotate_left
 ·rintro v σ1 ⟨M,n0,h0,h1,h2,rfl,rfl⟩
  exact⟨_,M,rfl,by simp,by simp;try omega,M,n0,h0,h1,h2,rfl,rfl⟩
 generalize σ.next=N0 at hlt ⊢
 refine fnK tok Tryz.func165 Tryz.ntmps165 Tryz.results165 ?_
 simp only[argsA,Nat.reduceAdd,hp_next]
 unfold s_l37Once_o at H
 refine S0 tok [] [0] ?_
 obtain⟨r1,hr1,H⟩:=bindE H
 refine Sx tok [] [3] (by intro K k;(repeat first|simp -dsimp -implicitDefEqProofs|refine(c176 hr1).app ?_);exact k) ?_
 obtain⟨r2,hr2,H⟩:=bindE H
 refine Sx tok [] [5] (by intro K k;(repeat first|simp -dsimp -implicitDefEqProofs|refine(c177 hr2).app ?_);exact k) ?_
 obtain⟨r3,hr3,H⟩:=bindE H
 refine Sx tok [] [7] (by intro K k;(repeat first|simp -dsimp -implicitDefEqProofs|refine(c178 hr3).app ?_);exact k) ?_
 obtain⟨r4,hr4,H⟩:=bindE H
 refine Sx tok [] [9] (by intro K k;(repeat first|simp -dsimp -implicitDefEqProofs|refine(c179 hr4).app ?_);exact k) ?_
 obtain⟨r5,hr5,H⟩:=bindE H
 refine AWP_sr tok [] [11] (fun a σ=>∃M1 o1:Nat,N0+36≤M1∧N0+36≤o1∧o1<M1∧a=[(11,.sl o1 0 r5.1.length)]∧σ=hp E0 [(o1,some ⟨48,5,encL rQuad r5.1⟩)] M1) (fun K hK=>?_) ?_
 ·skip
  simp -dsimp -implicitDefEqProofs
  refine(c180_o (H:=hr5)).mono ?_;rintro _ _ ⟨M1,o1,fM1_0,fM1_1,fM1_2,rfl,rfl⟩;simp only[hp_next] at fM1_0 fM1_1 fM1_2
  try simp -dsimp -implicitDefEqProofs [hp_over_some,hp_over_none]
  exact hK _ _ ⟨M1,o1,(by omega),(by omega),(by omega),rfl,rfl⟩
 rintro a σ ⟨M1,o1,fM1_0,fM1_1,fM1_2,rfl,rfl⟩
 refine S0 tok [] [2] ?_
 obtain rfl:=oi H
 refine Kp [2] ?_
 refine AWP_ret ?_
 refine⟨[.sl o1 0 r5.1.length],by simp,M1+2,o1,by omega,by omega,by omega,?_,?_⟩
 ·simp[encL_nil]
 ·first|rfl|simp[List.set_set]
theorem c165_o_b {p0:(List gQuad)} {r:(List gQuad)} (H:s_l37Once_o p0=some r) {σ:AHeap} {args:List AV} (hy:args.map (thawA (fun _=>true) σ 8)=[.fsl (encL rQuad p0)]):ACalls Tryz.prog G 165 args σ (fun v σ'=>∃M n0:Nat,σ.next≤M∧σ.next≤n0∧n0<M∧v=.sl n0 0 r.length∧σ'=hp σ.objs [(n0,some ⟨48,5,encL rQuad r⟩)] M):=by
 refine borrowQ 8 8 (c165_o (σ:=⟨E0,σ.next⟩) H) hy ?_
 rintro _ _ ⟨M,n0,h0,h1,h2,rfl,rfl⟩
 refine⟨_,M,rfl,by simp[AV.rnf,AV.simp1],fun p hp ob ho=>?_,by simp,M,n0,h0,h1,h2,rfl,rfl⟩
 simp only[List.mem_cons,List.not_mem_nil,or_false] at hp
 rcases hp with rfl<;>(cases ho;first|exact encL_nf (fun x=>nf_rQuad 7 x) _|simp[AV.nf,AV.simp1])
theorem c145_o {p0:(List gQuad)} {p1:Int} {r:(List gQuad)×Bool} (H:s_OptimizeCode_o p0 p1=some r) {σ:AHeap}:ACalls Tryz.prog G 145 [.fsl (encL rQuad p0),.int .i64 p1] σ (fun v σ'=>∃M n0:Nat,σ.next≤M∧σ.next≤n0∧n0<M∧v=.tup [.sl n0 0 r.1.length,.bool r.2]∧σ'=hp σ.objs [(n0,some ⟨48,5,encL rQuad r.1⟩)] M):=by
 refine ACalls_fr (L:=[]) (Q1:=fun v σ'=>∃M n0:Nat,σ.next≤M∧σ.next≤n0∧n0<M∧v=.tup [.sl n0 0 r.1.length,.bool r.2]∧σ'=hp E0 [(n0,some ⟨48,5,encL rQuad r.1⟩)] M) (by simp[]) (fun hlt=>?_) ?_ ⟨_,Tryz.func145,rfl,rfl⟩
 rotate_left
 ·rintro v σ1 ⟨M,n0,h0,h1,h2,rfl,rfl⟩
  exact⟨_,M,rfl,by simp,by simp;try omega,M,n0,h0,h1,h2,rfl,rfl⟩
 generalize σ.next=N0 at hlt ⊢
 refine fnK tok Tryz.func145 Tryz.ntmps145 Tryz.results145 ?_
 simp only[argsA,Nat.reduceAdd,hp_next]
 unfold s_OptimizeCode_o at H
 refine S0 tok [] [0,1] ?_
 refine AWP_sq [0,1] fun K1 hK1=>?_
 obtain⟨r1,hr1,H⟩:=bindE H
 obtain⟨g3,hg3,H⟩:=bindE H
 refine Sx tok [] [0,1,15] (X:=[(0,.fsl (encL rQuad p0)),(1,.int .i64 p1),(15,.bool g3)]) (Y:=hp E0 [] (N0+10)) (by
  intro K k
  simp -dsimp -implicitDefEqProofs
  refine(c47 hr1).app ?_;try simp -dsimp -implicitDefEqProofs
  cases hbg3:bnot r1
  ·replace hg3:=ifF hbg3 hg3
   obtain⟨r2,hr2,hg3⟩:=bindE hg3
   obtain rfl:=oi hg3
   try simp -dsimp -implicitDefEqProofs [hbg3]
   refine(c21 hr2).app ?_;try simp -dsimp -implicitDefEqProofs [hbg3]
   exact k
  ·obtain rfl:=oi (ifT hbg3 hg3)
   try simp -dsimp -implicitDefEqProofs [hbg3]
   exact k) ?_
 refine Cd (fun C1=>?_) fun C1=>?_
 ·replace H:=ifT C1 H
  have q0:∀σ i,buildSliceA T 39 true i 0 [] σ=some (.esl,σ):=fun _ _=>rfl
  refine Sx tok [0] [4,5] (by intro K k;simp -dsimp -implicitDefEqProofs [q0];exact k) ?_
  obtain rfl:=oi H
  refine Kp [4,5] ?_
  refine gNilS AWP_ref 4 48 5 [(N0+13,some ⟨48,5,encL rQuad ([]:List gQuad)⟩)] [(4,.sl (N0+13) 0 ([]:List gQuad).length),(5,.bool false)] (by simp(disch:=omega)) (by simp(disch:=omega) [encL_nil]) [4,5] rfl ?_
  refine AWP_ret ?_
  refine⟨[.sl (N0+13) 0 ([]:List gQuad).length,.bool false],by simp,N0+14,N0+13,by omega,by omega,by omega,?_,?_⟩
  ·simp[encL_nil]
  ·first|rfl|simp[List.set_set]
 ·replace H:=ifF C1 H
  refine AWP_skip (Jn hK1 ?_)
  obtain⟨l4,hl4,H⟩:=bindE H
  have q1:∀σ i,buildSliceA T 39 true i 0 [] σ=some (.esl,σ):=fun _ _=>rfl
  refine Sx tok [0] [1,6] (by intro K k;simp -dsimp -implicitDefEqProofs [q1,appe39 hl4];exact k) ?_
  refine AWP_sq [6] fun K2 hK2=>?_
  refine S0 tok [] [1,6,7] ?_
  refine AWP_block (AWP_thenB ?_)
  obtain⟨e1,hse1,H⟩:=bindE H
  refine AWP_lp [1,6,7] (fun s a σ=>∃M1 o1:Nat,N0≤M1∧N0≤o1∧o1<M1∧a=[(1,.int .i64 p1),(6,.sl o1 0 s.2.length),(7,.int .i64 s.1)]∧σ=hp E0 [(o1,some ⟨48,5,encL rQuad s.2⟩)] M1) (fun s x a σ=>x=.exit 0∧Rc G 28 N0 (fun a σ=>∃M2 o2:Nat,N0≤M2∧N0≤o2∧o2<M2∧a=[(6,.sl o2 0 s.length)]∧σ=hp E0 [(o2,some ⟨48,5,encL rQuad s⟩)] M2) (AAct.keep a [6]) σ) hse1 ?_ ?_ ?_
  ·refine Rc.kp [1,6,7] [(1,.int .i64 p1),(6,.sl (N0+12) 0 l4.length),(7,.int .i64 0)] rfl ?_
   exact Rf ⟨N0+15,(N0+12),(by omega),(by omega),(by omega),rfl,rfl⟩
  ·clear H hse1
   rintro⟨s5,s6⟩ fl a σ H ⟨M1,o1,fM1_0,fM1_1,fM1_2,rfl,rfl⟩ K3 O3 hK3 hO3
   unfold s_OptimizeCode_o_L1 at H;dsimp only at H
   refine AWP_sq [1,6,7] fun K4 hK4=>?_
   refine S0 tok [] [1,6,7,22] ?_
   refine Cd (fun C2=>?_) fun C2=>?_
   ·replace H:=ifT C2 H
    refine AWP_skip (Jn hK4 ?_)
    refine AWP_sq [1,6,7] fun K5 hK5=>?_
    refine AWP_block (AWP_thenB ?_)
    obtain⟨r8,hr8,H⟩:=bindE H
    refine AWP_rt tok [] [1,6,7] (fun a σ=>∃M3 o3:Nat,M1+6≤M3∧M1+6≤o3∧o3<M3∧a=[(1,.int .i64 p1),(6,.sl o3 0 r8.length),(7,.int .i64 s5)]∧σ=hp E0 [(o1,some ⟨48,5,encL rQuad s6⟩),(o3,some ⟨48,5,encL rQuad r8⟩)] M3) (fun K hK=>?_) ?_
    ·skip
     simp -dsimp -implicitDefEqProofs
     refine(c165_o_b (H:=hr8) (by simp[])).mono ?_;rintro _ _ ⟨M3,o3,fM3_0,fM3_1,fM3_2,rfl,rfl⟩;simp only[hp_next] at fM3_0 fM3_1 fM3_2
     have eM3_0:=nQ o3 o1
     try simp -dsimp -implicitDefEqProofs [eM3_0,hp_over_some,hp_over_none]
     exact hK _ _ ⟨M3,o3,(by omega),(by omega),(by omega),rfl,rfl⟩
    rintro a σ ⟨M3,o3,fM3_0,fM3_1,fM3_2,ha,rfl⟩
    refine hK5 _ _ ?_;rw[ha]
    refine Rc.mk ?_
    refine Rt tok [] [1,6,7] (by
     intro K k
     have e0:=nQ o1 o3
     simp -dsimp -implicitDefEqProofs [e0]
     exact k) fun a ha=>?_
    obtain rfl:=oi H
    refine hK3 _ _ _ rfl ?_;rw[ha]
    exact Rc.fin (AHeap.Sub.trans (hp_skip (AHeap.Sub.refl _)) (hp_drop rfl (by simp;try omega))) ⟨M3+3,o3,(by omega),(by omega),(by omega),rfl,rfl⟩
   ·obtain rfl:=oi (ifF C2 H)
    refine AWP_exit (hO3 _ _ _ _ rfl ⟨rfl,?_⟩)
    refine Rc.rw (l:=[6]) (X:=[(6,.sl o1 0 s6.length)]) rfl ?_
    exact Rf ⟨M1+3,o1,(by omega),(by omega),(by omega),rfl,rfl⟩
  ·intro x a σ hx
   obtain⟨y7,rfl⟩:∃x,x=e1:=⟨_,rfl⟩
   obtain⟨rfl,b,τ,hr,M2,o2,fM2_0,fM2_1,fM2_2,rfl,rfl⟩:=hx
   (try dsimp only at H)
   show K2 _ _
   refine hK2 _ _ (Rc_ref hr ?_)
   refine Rc.mk ?_
   refine S0 tok [] [4,5] ?_
   obtain rfl:=oi H
   refine Kp [4,5] ?_
   refine AWP_ret ?_
   refine⟨[.sl o2 0 y7.length,.bool true],by simp,M2+3,o2,by omega,by omega,by omega,?_,?_⟩
   ·simp[encL_nil]
   ·first|rfl|simp[List.set_set]
theorem c113_o {p0:gL6Rd} {r:(List gQuad)×gL6Rd} (H:s_l93Good_o p0=some r) {σ:AHeap} {w0:Nat} {W0:List (List AV)} {r0_:Nat} (q0:σ.objs w0=some ⟨140,2,W0⟩) (g0:W0[r0_]? =some [.fsl (encL rI_u8 p0.b),.int .i64 p0.p]):ACalls Tryz.prog G 113 [.ptr w0 r0_ 0] σ (fun v σ'=>∃M n0:Nat,σ.next≤M∧σ.next≤n0∧n0<M∧v=.sl n0 0 r.1.length∧σ'=hp σ.objs [(w0,some ⟨140,2,W0.set r0_ [.fsl (encL rI_u8 r.2.b),.int .i64 r.2.p]⟩),(n0,some ⟨48,5,encL rQuad r.1⟩)] M):=by
 refine ACalls_fr (L:=[(w0,some ⟨140,2,W0⟩)]) (Q1:=fun v σ'=>∃M n0:Nat,σ.next≤M∧σ.next≤n0∧n0<M∧v=.sl n0 0 r.1.length∧σ'=hp E0 [(w0,some ⟨140,2,W0.set r0_ [.fsl (encL rI_u8 r.2.b),.int .i64 r.2.p]⟩),(n0,some ⟨48,5,encL rQuad r.1⟩)] M) (by simp[q0]) (fun hlt=>?_) ?_ ⟨_,Tryz.func113,rfl,rfl⟩
 rotate_left
 ·rintro v σ1 ⟨M,n0,h0,h1,h2,rfl,rfl⟩
  exact⟨_,M,rfl,by simp,by simp;try omega,M,n0,h0,h1,h2,rfl,rfl⟩
 generalize σ.next=N0 at hlt ⊢
 have lw0:w0<N0:=hlt _ (.head _) rfl
 have gs_W0:∀x,(W0.set r0_ x)[r0_]? =some x:=gsetW g0
 rw[← set_same g0]
 refine fnK tok Tryz.func113 Tryz.ntmps113 Tryz.results113 ?_
 simp only[argsA,Nat.reduceAdd,hp_next]
 unfold s_l93Good_o at H
 refine Sx tok [] [0] (by intro K k;simp -dsimp -implicitDefEqProofs [gs_W0,List.set_set];exact k) ?_
 refine AWP_sq [0] fun K1 hK1=>?_
 obtain⟨r1,hr1,H⟩:=bindE H
 refine AWP_sr tok [] [0,9] (fun a σ=>∃M1:Nat,N0+4≤M1∧a=[(0,.ptr w0 r0_ 0),(9,.bool (ieq r1.1 0))]∧σ=hp E0 [(w0,some ⟨140,2,W0.set r0_ [.fsl (encL rI_u8 r1.2.b),.int .i64 r1.2.p]⟩)] M1) (fun K hK=>?_) ?_
 ·skip
  simp -dsimp -implicitDefEqProofs [gs_W0,List.set_set]
  refine(c82 (W0:=W0.set r0_ [.fsl (encL rI_u8 p0.b),.int .i64 p0.p]) (r0_:=r0_) (H:=hr1) (by simp[gs_W0,List.set_set]) (by simp[gs_W0,List.set_set])).mono ?_;rintro _ _ ⟨M1,fM1_0,rfl,rfl⟩;simp only[hp_next] at fM1_0
  try simp -dsimp -implicitDefEqProofs [gs_W0,List.set_set,hp_over_some,hp_over_none]
  exact hK _ _ ⟨M1,(by omega),rfl,rfl⟩
 rintro a σ ⟨M1,fM1_0,rfl,rfl⟩
 refine Cd (fun C1=>?_) fun C1=>?_
 ·replace H:=ifT C1 H
  obtain⟨r2,hr2,H⟩:=bindE H
  refine AWP_sr tok [] [2] (fun a σ=>∃M2 o1:Nat,M1+3≤M2∧M1+3≤o1∧o1<M2∧a=[(2,.sl o1 0 r2.1.length)]∧σ=hp E0 [(w0,some ⟨140,2,W0.set r0_ [.fsl (encL rI_u8 r2.2.b),.int .i64 r2.2.p]⟩),(o1,some ⟨48,5,encL rQuad r2.1⟩)] M2) (fun K hK=>?_) ?_
  ·skip
   simp -dsimp -implicitDefEqProofs [gs_W0,List.set_set]
   refine(c142_o (W0:=W0.set r0_ [.fsl (encL rI_u8 r1.2.b),.int .i64 r1.2.p]) (r0_:=r0_) (H:=hr2) (by simp[gs_W0,List.set_set]) (by simp[gs_W0,List.set_set])).mono ?_;rintro _ _ ⟨M2,o1,fM2_0,fM2_1,fM2_2,rfl,rfl⟩;simp only[hp_next] at fM2_0 fM2_1 fM2_2
   have eM2_0:=nQ o1 w0
   try simp -dsimp -implicitDefEqProofs [gs_W0,List.set_set,eM2_0,hp_over_some,hp_over_none]
   exact hK _ _ ⟨M2,o1,(by omega),(by omega),(by omega),rfl,rfl⟩
  rintro a σ ⟨M2,o1,fM2_0,fM2_1,fM2_2,rfl,rfl⟩
  obtain rfl:=oi H
  refine Kp [2] ?_
  have z0:=nQ w0 o1
  refine AWP_ret ?_
  refine⟨[.sl o1 0 r2.1.length],by simp[z0,gs_W0],M2,o1,by omega,by omega,by omega,?_,?_⟩
  ·simp[encL_nil]
  ·first|rfl|simp[List.set_set]
 ·replace H:=ifF C1 H
  refine AWP_skip (Jn hK1 ?_)
  obtain⟨r3,hr3,H⟩:=bindE H
  obtain⟨r4,hr4,H⟩:=bindE H
  refine AWP_sr tok [] [0,3] (fun a σ=>∃M3:Nat,M1+8≤M3∧a=[(0,.ptr w0 r0_ 0),(3,.fsl (encL rQuad r4.1))]∧σ=hp E0 [(w0,some ⟨140,2,W0.set r0_ [.fsl (encL rI_u8 r3.2.b),.int .i64 r3.2.p]⟩)] M3) (fun K hK=>?_) ?_
  ·skip
   simp -dsimp -implicitDefEqProofs [gs_W0,List.set_set]
   refine(c144 (W0:=W0.set r0_ [.fsl (encL rI_u8 r1.2.b),.int .i64 r1.2.p]) (r0_:=r0_) (H:=hr3) (by simp[gs_W0,List.set_set]) (by simp[gs_W0,List.set_set])).mono ?_;rintro _ _ ⟨M3,fM3_0,rfl,rfl⟩;simp only[hp_next] at fM3_0
   try simp -dsimp -implicitDefEqProofs [gs_W0,List.set_set,hp_over_some,hp_over_none]
   refine(c143 hr4).app ?_;try simp -dsimp -implicitDefEqProofs [gs_W0,List.set_set,hp_over_some,hp_over_none]
   exact hK _ _ ⟨M3,(by omega),rfl,rfl⟩
  rintro a σ ⟨M3,fM3_0,rfl,rfl⟩
  refine AWP_sq [0,3] fun K2 hK2=>?_
  refine Sx tok [] [0,3,20] (by intro K k;simp -dsimp -implicitDefEqProofs [gs_W0,List.set_set];exact k) ?_
  refine Cd (fun C2=>?_) fun C2=>?_
  ·replace H:=ifT C2 H
   obtain⟨r5,hr5,H⟩:=bindE H
   refine AWP_sr tok [] [2] (fun a σ=>∃M4 o2:Nat,M3+6≤M4∧M3+6≤o2∧o2<M4∧a=[(2,.sl o2 0 r5.1.length)]∧σ=hp E0 [(w0,some ⟨140,2,W0.set r0_ [.fsl (encL rI_u8 r5.2.b),.int .i64 r5.2.p]⟩),(o2,some ⟨48,5,encL rQuad r5.1⟩)] M4) (fun K hK=>?_) ?_
   ·skip
    simp -dsimp -implicitDefEqProofs [gs_W0,List.set_set]
    refine(c142_o (W0:=W0.set r0_ [.fsl (encL rI_u8 r3.2.b),.int .i64 r3.2.p]) (r0_:=r0_) (H:=hr5) (by simp[gs_W0,List.set_set]) (by simp[gs_W0,List.set_set])).mono ?_;rintro _ _ ⟨M4,o2,fM4_0,fM4_1,fM4_2,rfl,rfl⟩;simp only[hp_next] at fM4_0 fM4_1 fM4_2
    have eM4_0:=nQ o2 w0
    try simp -dsimp -implicitDefEqProofs [gs_W0,List.set_set,eM4_0,hp_over_some,hp_over_none]
    exact hK _ _ ⟨M4,o2,(by omega),(by omega),(by omega),rfl,rfl⟩
   rintro a σ ⟨M4,o2,fM4_0,fM4_1,fM4_2,rfl,rfl⟩
   obtain rfl:=oi H
   refine Kp [2] ?_
   have z1:=nQ w0 o2
   refine AWP_ret ?_
   refine⟨[.sl o2 0 r5.1.length],by simp[z1,gs_W0],M4,o2,by omega,by omega,by omega,?_,?_⟩
   ·simp[encL_nil]
   ·first|rfl|simp[List.set_set]
  ·replace H:=ifF C2 H
   refine AWP_skip (Jn hK2 ?_)
   obtain⟨r6,hr6,H⟩:=bindE H
   obtain⟨v7,hv7,H⟩:=bindE H
   obtain⟨r8,hr8,H⟩:=bindE H
   refine AWP_sr tok [] [5] (fun a σ=>∃M5:Nat,∃M6 o3:Nat,M3+13≤M5∧M5≤M6∧M5≤o3∧o3<M6∧a=[(5,.sl o3 0 r8.1.length)]∧σ=hp E0 [(w0,some ⟨140,2,W0.set r0_ [.fsl (encL rI_u8 r6.2.b),.int .i64 r6.2.p]⟩),(o3,some ⟨48,5,encL rQuad r8.1⟩)] M6) (fun K hK=>?_) ?_
   ·skip
    simp -dsimp -implicitDefEqProofs [gs_W0,List.set_set,hv7]
    refine(c82 (W0:=W0.set r0_ [.fsl (encL rI_u8 r3.2.b),.int .i64 r3.2.p]) (r0_:=r0_) (H:=hr6) (by simp[gs_W0,List.set_set,hv7]) (by simp[gs_W0,List.set_set,hv7])).mono ?_;rintro _ _ ⟨M5,fM5_0,rfl,rfl⟩;simp only[hp_next] at fM5_0
    try simp -dsimp -implicitDefEqProofs [gs_W0,List.set_set,hv7,hp_over_some,hp_over_none]
    refine(c145_o (H:=hr8)).mono ?_;rintro _ _ ⟨M6,o3,fM6_0,fM6_1,fM6_2,rfl,rfl⟩;simp only[hp_next] at fM6_0 fM6_1 fM6_2
    have eM6_0:=nQ o3 w0
    try simp -dsimp -implicitDefEqProofs [gs_W0,List.set_set,hv7,hp_over_some,hp_over_none,eM6_0,hp_over_some,hp_over_none]
    exact hK _ _ ⟨M5,M6,o3,(by omega),(by omega),(by omega),(by omega),rfl,rfl⟩
   rintro a σ ⟨M5,M6,o3,fM5_0,fM6_0,fM6_1,fM6_2,rfl,rfl⟩
   refine Sx tok [] [2] (by
    intro K k
    have e0:=nQ w0 o3
    simp -dsimp -implicitDefEqProofs [e0,gs_W0,List.set_set]
    exact k) ?_
   obtain rfl:=oi H
   refine Kp [2] ?_
   have z2:=nQ w0 o3
   refine AWP_ret ?_
   refine⟨[.sl o3 0 r8.1.length],by simp[z2,gs_W0],M6+2,o3,by omega,by omega,by omega,?_,?_⟩
   ·simp[encL_nil]
   ·first|rfl|simp[List.set_set]
theorem c81 {p0:gL6Rd} {r:(List gQuad)×gL6Rd} (H:s_l93Code p0=some r) {σ:AHeap} {w0:Nat} {W0:List (List AV)} {r0_:Nat} (q0:σ.objs w0=some ⟨140,2,W0⟩) (g0:W0[r0_]? =some [.fsl (encL rI_u8 p0.b),.int .i64 p0.p]):ACalls Tryz.prog G 81 [.ptr w0 r0_ 0] σ (fun v σ'=>∃M:Nat,σ.next≤M∧v=.fsl (encL rQuad r.1)∧σ'=hp σ.objs [(w0,some ⟨140,2,W0.set r0_ [.fsl (encL rI_u8 r.2.b),.int .i64 r.2.p]⟩)] M):=by
 refine ACalls_fr (L:=[(w0,some ⟨140,2,W0⟩)]) (Q1:=fun v σ'=>∃M:Nat,σ.next≤M∧v=.fsl (encL rQuad r.1)∧σ'=hp E0 [(w0,some ⟨140,2,W0.set r0_ [.fsl (encL rI_u8 r.2.b),.int .i64 r.2.p]⟩)] M) (by simp[q0]) (fun hlt=>?_) ?_ ⟨_,Tryz.func81,rfl,rfl⟩
 rotate_left
 ·rintro v σ1 ⟨M,h0,rfl,rfl⟩
  exact⟨_,M,rfl,by simp,by simp;try omega,M,h0,rfl,rfl⟩
 generalize σ.next=N0 at hlt ⊢
 have lw0:w0<N0:=hlt _ (.head _) rfl
 have gs_W0:∀x,(W0.set r0_ x)[r0_]? =some x:=gsetW g0
 rw[← set_same g0]
 refine fnK tok Tryz.func81 Tryz.ntmps81 Tryz.results81 ?_
 simp only[argsA,Nat.reduceAdd,hp_next]
 unfold s_l93Code at H
 refine Sx tok [] [0] (by intro K k;simp -dsimp -implicitDefEqProofs [gs_W0,List.set_set];exact k) ?_
 obtain⟨r1,hr1,H⟩:=bindE H
 refine AWP_sr tok [] [0,3] (fun a σ=>∃M1 o1:Nat,N0+4≤M1∧N0+4≤o1∧o1<M1∧a=[(0,.ptr w0 r0_ 0),(3,.sl o1 0 r1.1.length)]∧σ=hp E0 [(w0,some ⟨140,2,W0.set r0_ [.fsl (encL rI_u8 r1.2.b),.int .i64 r1.2.p]⟩),(o1,some ⟨48,5,encL rQuad r1.1⟩)] M1) (fun K hK=>?_) ?_
 ·skip
  simp -dsimp -implicitDefEqProofs [gs_W0,List.set_set]
  refine(c113_o (W0:=W0.set r0_ [.fsl (encL rI_u8 p0.b),.int .i64 p0.p]) (r0_:=r0_) (H:=hr1) (by simp[gs_W0,List.set_set]) (by simp[gs_W0,List.set_set])).mono ?_;rintro _ _ ⟨M1,o1,fM1_0,fM1_1,fM1_2,rfl,rfl⟩;simp only[hp_next] at fM1_0 fM1_1 fM1_2
  have eM1_0:=nQ o1 w0
  try simp -dsimp -implicitDefEqProofs [gs_W0,List.set_set,eM1_0,hp_over_some,hp_over_none]
  exact hK _ _ ⟨M1,o1,(by omega),(by omega),(by omega),rfl,rfl⟩
 rintro a σ ⟨M1,o1,fM1_0,fM1_1,fM1_2,rfl,rfl⟩
 refine AWP_sq [3] fun K1 hK1=>?_
 obtain⟨r2,hr2,H⟩:=bindE H
 refine AWP_sr tok [] [3,7] (fun a σ=>∃M2:Nat,M1+2≤M2∧a=[(3,.sl o1 0 r1.1.length),(7,.int .i64 r2.1)]∧σ=hp E0 [(w0,some ⟨140,2,W0.set r0_ [.fsl (encL rI_u8 r2.2.b),.int .i64 r2.2.p]⟩),(o1,some ⟨48,5,encL rQuad r1.1⟩)] M2) (fun K hK=>?_) ?_
 ·skip
  have e0:=nQ w0 o1
  simp -dsimp -implicitDefEqProofs [e0,gs_W0,List.set_set]
  refine(c82 (W0:=W0.set r0_ [.fsl (encL rI_u8 r1.2.b),.int .i64 r1.2.p]) (r0_:=r0_) (H:=hr2) (by simp[e0,gs_W0,List.set_set]) (by simp[e0,gs_W0,List.set_set])).mono ?_;rintro _ _ ⟨M2,fM2_0,rfl,rfl⟩;simp only[hp_next] at fM2_0
  try simp -dsimp -implicitDefEqProofs [e0,gs_W0,List.set_set,hp_over_some,hp_over_none]
  exact hK _ _ ⟨M2,(by omega),rfl,rfl⟩
 rintro a σ ⟨M2,fM2_0,rfl,rfl⟩
 refine AWP_block (AWP_thenB ?_)
 refine Sx tok [] [3,7,8] (by
  intro K k
  have e0:=nQ w0 o1
  simp -dsimp -implicitDefEqProofs [e0,gs_W0,List.set_set]
  exact k) ?_
 refine Cd (fun C1=>?_) fun C1=>?_
 ·replace H:=ifT C1 H
  obtain⟨v3,hv3,H⟩:=bindE H
  obtain⟨l4,hl4,H⟩:=bindE H
  refine Rt tok [] [3] (by
   intro K k
   have e0:=nQ w0 o1
   simp -dsimp -implicitDefEqProofs [e0,gs_W0,List.set_set,ixo39 hv3,(show _[0]? =some v3 from(idx_lt3 hv3).2.2),(show List.set _ 0 _=l4 from(setx_iff.1 hl4).2.symm)]
   exact k) fun a ha=>?_
  (try rw[← setx_len hl4] at ha);(try rw[← setx_len hl4])
  refine hK1 _ _ ?_;rw[ha]
  refine Rc.mk ?_
  refine Sx tok [] [2] (by
   intro K k
   have e0:=nQ w0 o1
   simp -dsimp -implicitDefEqProofs [e0,gs_W0,List.set_set]
   exact k) ?_
  obtain rfl:=oi H
  refine Kp [2] ?_
  have z0:=nQ w0 o1
  refine gFrz AWP_ref 4 [o1] [(w0,some ⟨140,2,W0.set r0_ [.fsl (encL rI_u8 r2.2.b),.int .i64 r2.2.p]⟩)] [(2,.fsl (encL rQuad l4))] (by simp[z0]) (cutD (by simp[z0])) ?_
  refine AWP_ret ?_
  refine⟨[.fsl (encL rQuad l4)],by simp[gs_W0],M2+8,by omega,?_,?_⟩
  ·simp[encL_nil]
  ·first|rfl|simp[List.set_set]
 ·replace H:=ifF C1 H
  refine Sx tok [] [3,7,13] (by
   intro K k
   have e0:=nQ w0 o1
   simp -dsimp -implicitDefEqProofs [e0,gs_W0,List.set_set]
   exact k) ?_
  refine Cd (fun C2=>?_) fun C2=>?_
  ·replace H:=ifT C2 H
   obtain⟨l5,hl5,H⟩:=bindE H
   have q0:∀σ i,buildSliceA T 39 true i 1 [(0,.agg [.int .i64 9,.int .i64 0,.int .i64 0,.int .i64 0,.int .i64 0])] σ=some (.fsl (encL rQuad ([(⟨9,0,0,0,0⟩:gQuad)]:List gQuad)),σ):=fun _ _=>rfl
   refine Rt tok [2] [3] (by
    intro K k
    have e0:=nQ w0 o1
    have e1:=nQ w0 (M2+7)
    have e2:=nQ o1 (M2+7)
    simp -dsimp -implicitDefEqProofs [e0,e1,e2,gs_W0,List.set_set,q0,app39 hl5]
    exact k) fun a ha=>?_
   refine hK1 _ _ ?_;rw[ha]
   have z1:=nQ w0 (M2+7)
   refine gFrz Rc_ref 4 [M2+7] [(w0,some ⟨140,2,W0.set r0_ [.fsl (encL rI_u8 r2.2.b),.int .i64 r2.2.p]⟩)] [(3,.fsl (encL rQuad l5))] (by simp[z1]) (cutD (by simp[z1])) ?_
   refine Rc.mk ?_
   refine Sx tok [] [2] (by intro K k;simp -dsimp -implicitDefEqProofs [gs_W0,List.set_set];exact k) ?_
   obtain rfl:=oi H
   refine Kp [2] ?_
   refine AWP_ret ?_
   refine⟨[.fsl (encL rQuad l5)],by simp[gs_W0],M2+11,by omega,?_,?_⟩
   ·simp[encL_nil]
   ·first|rfl|simp[List.set_set]
  ·replace H:=ifF C2 H
   refine Sx tok [] [3,7,19] (by
    intro K k
    have e0:=nQ w0 o1
    simp -dsimp -implicitDefEqProofs [e0,gs_W0,List.set_set]
    exact k) ?_
   refine Cd (fun C3=>?_) fun C3=>?_
   ·replace H:=ifT C3 H
    obtain⟨v6,hv6,H⟩:=bindE H
    obtain⟨l7,hl7,H⟩:=bindE H
    refine Rt tok [] [3] (by
     intro K k
     have e0:=nQ w0 o1
     simp -dsimp -implicitDefEqProofs [e0,gs_W0,List.set_set,ixo39 hv6,(show _[0]? =some v6 from(idx_lt3 hv6).2.2),(show List.set _ 0 _=l7 from(setx_iff.1 hl7).2.symm)]
     exact k) fun a ha=>?_
    (try rw[← setx_len hl7] at ha);(try rw[← setx_len hl7])
    refine hK1 _ _ ?_;rw[ha]
    refine Rc.mk ?_
    refine Sx tok [] [2] (by
     intro K k
     have e0:=nQ w0 o1
     simp -dsimp -implicitDefEqProofs [e0,gs_W0,List.set_set]
     exact k) ?_
    obtain rfl:=oi H
    refine Kp [2] ?_
    have z2:=nQ w0 o1
    refine gFrz AWP_ref 4 [o1] [(w0,some ⟨140,2,W0.set r0_ [.fsl (encL rI_u8 r2.2.b),.int .i64 r2.2.p]⟩)] [(2,.fsl (encL rQuad l7))] (by simp[z2]) (cutD (by simp[z2])) ?_
    refine AWP_ret ?_
    refine⟨[.fsl (encL rQuad l7)],by simp[gs_W0],M2+14,by omega,?_,?_⟩
    ·simp[encL_nil]
    ·first|rfl|simp[List.set_set]
   ·replace H:=ifF C3 H
    refine Sx tok [] [3,26] (by
     intro K k
     have e0:=nQ w0 o1
     simp -dsimp -implicitDefEqProofs [e0,gs_W0,List.set_set]
     exact k) ?_
    refine Cd (fun C4=>?_) fun C4=>?_
    ·replace H:=ifT C4 H
     have q1:∀σ i,buildSliceA T 39 true i 0 [] σ=some (.esl,σ):=fun _ _=>rfl
     refine Sx tok [0] [2] (by
      intro K k
      have e0:=nQ w0 o1
      simp -dsimp -implicitDefEqProofs [e0,gs_W0,List.set_set,q1]
      exact k) ?_
     obtain rfl:=oi H
     refine Kp [2] ?_
     have z3:=nQ w0 o1
     refine gFrz AWP_ref 4 [] [(w0,some ⟨140,2,W0.set r0_ [.fsl (encL rI_u8 r2.2.b),.int .i64 r2.2.p]⟩),(o1,some ⟨48,5,encL rQuad r1.1⟩)] [(2,.fsl [])] (by simp[z3]) (cutD (by simp[z3])) ?_
     have z4:=nQ w0 o1
     refine gDrop AWP_ref [(w0,some ⟨140,2,W0.set r0_ [.fsl (encL rI_u8 r2.2.b),.int .i64 r2.2.p]⟩)] (hp_skip (AHeap.Sub.trans (AHeap.Sub.refl _) (hp_drop rfl (by simp;try omega)))) ?_
     refine AWP_ret ?_
     refine⟨[.fsl []],by simp[z4,gs_W0],M2+10,by omega,?_,?_⟩
     ·simp[encL_nil]
     ·first|rfl|simp[List.set_set]
    ·replace H:=ifF C4 H
     refine AWP_skip (Jn hK1 ?_)
     refine Sx tok [] [2] (by
      intro K k
      have e0:=nQ w0 o1
      simp -dsimp -implicitDefEqProofs [e0,gs_W0,List.set_set]
      exact k) ?_
     obtain rfl:=oi H
     refine Kp [2] ?_
     have z5:=nQ w0 o1
     refine gFrz AWP_ref 4 [o1] [(w0,some ⟨140,2,W0.set r0_ [.fsl (encL rI_u8 r2.2.b),.int .i64 r2.2.p]⟩)] [(2,.fsl (encL rQuad r1.1))] (by simp[z5]) (cutD (by simp[z5])) ?_
     refine AWP_ret ?_
     refine⟨[.fsl (encL rQuad r1.1)],by simp[gs_W0],M2+10,by omega,?_,?_⟩
     ·simp[encL_nil]
     ·first|rfl|simp[List.set_set]
theorem c44 {p0:(List Int)} {r:(List gQuad)×Int} (H:s_DrawTaskInstrs p0=some r):APure Tryz.prog G 44 [.fsl (encL rI_u8 p0)] (.tup [.fsl (encL rQuad r.1),.int .i64 r.2]):=by
 refine APure_fn (fun N0=>?_) (by simp)
 refine fnK tok Tryz.func44 Tryz.ntmps44 Tryz.results44 ?_
 simp only[argsA,Nat.reduceAdd,hp_next]
 unfold s_DrawTaskInstrs at H
 refine S0 tok [] [0] ?_
 obtain⟨r1,hr1,H⟩:=bindE H
 refine AWP_sr tok [] [4] (fun a σ=>∃M1 o1:Nat,N0+5≤M1∧N0+5≤o1∧o1<M1∧a=[(4,.ptr o1 0 0)]∧σ=hp E0 [(o1,some ⟨140,2,[[.fsl (encL rI_u8 r1.b),.int .i64 r1.p]]⟩)] M1) (fun K hK=>?_) ?_
 ·skip
  simp -dsimp -implicitDefEqProofs
  refine(c80_o (H:=hr1)).mono ?_;rintro _ _ ⟨M1,o1,fM1_0,fM1_1,fM1_2,rfl,rfl⟩;simp only[hp_next] at fM1_0 fM1_1 fM1_2
  try simp -dsimp -implicitDefEqProofs [hp_over_some,hp_over_none]
  exact hK _ _ ⟨M1,o1,(by omega),(by omega),(by omega),rfl,rfl⟩
 rintro a σ ⟨M1,o1,fM1_0,fM1_1,fM1_2,rfl,rfl⟩
 obtain⟨r2,hr2,H⟩:=bindE H
 refine AWP_sr tok [] [4,5] (fun a σ=>∃M2:Nat,M1+3≤M2∧a=[(4,.ptr o1 0 0),(5,.fsl (encL rQuad r2.1))]∧σ=hp E0 [(o1,some ⟨140,2,[[.fsl (encL rI_u8 r2.2.b),.int .i64 r2.2.p]]⟩)] M2) (fun K hK=>?_) ?_
 ·skip
  simp -dsimp -implicitDefEqProofs
  refine(c81 (W0:=[[.fsl (encL rI_u8 r1.b),.int .i64 r1.p]]) (r0_:=0) (H:=hr2) (by simp[]) (by simp[])).mono ?_;rintro _ _ ⟨M2,fM2_0,rfl,rfl⟩;simp only[hp_next] at fM2_0
  try simp -dsimp -implicitDefEqProofs [hp_over_some,hp_over_none]
  exact hK _ _ ⟨M2,(by omega),rfl,rfl⟩
 rintro a σ ⟨M2,fM2_0,rfl,rfl⟩
 refine AWP_sq [4,5] fun K1 hK1=>?_
 obtain⟨r3,hr3,H⟩:=bindE H
 refine AWP_sr tok [] [4,5,12] (fun a σ=>∃M3:Nat,M2+3≤M3∧a=[(4,.ptr o1 0 0),(5,.fsl (encL rQuad r2.1)),(12,.bool (ieq r3.1 0))]∧σ=hp E0 [(o1,some ⟨140,2,[[.fsl (encL rI_u8 r3.2.b),.int .i64 r3.2.p]]⟩)] M3) (fun K hK=>?_) ?_
 ·skip
  simp -dsimp -implicitDefEqProofs
  refine(c82 (W0:=[[.fsl (encL rI_u8 r2.2.b),.int .i64 r2.2.p]]) (r0_:=0) (H:=hr3) (by simp[]) (by simp[])).mono ?_;rintro _ _ ⟨M3,fM3_0,rfl,rfl⟩;simp only[hp_next] at fM3_0
  try simp -dsimp -implicitDefEqProofs [hp_over_some,hp_over_none]
  exact hK _ _ ⟨M3,(by omega),rfl,rfl⟩
 rintro a σ ⟨M3,fM3_0,rfl,rfl⟩
 refine Cd (fun C1=>?_) fun C1=>?_
 ·replace H:=ifT C1 H
  obtain⟨r4,hr4,H⟩:=bindE H
  obtain⟨v5,hv5,H⟩:=bindE H
  have q0:∀σ i,buildSliceA T 24 true i 2 [(0,.int .i64 0),(1,.int .i64 9)] σ=some (.fsl (encL rI ([0,9]:List Int)),σ):=fun _ _=>rfl
  refine AWP_sd tok tokM [1] [3] [0,1,2,3,4,5,6,7] [2,3] (fun a σ=>∃M4:Nat,M3+8≤M4∧a=[(2,.fsl (encL rQuad r2.1)),(3,.int .i64 v5)]∧σ=hp E0 [(o1,some ⟨140,2,[[.fsl (encL rI_u8 r4.2.b),.int .i64 r4.2.p]]⟩)] M4) (by decide) (fun K hK=>?_) ?_
  ·simp only[pickL,nthO_succ,nthO_zero]
   simp -dsimp -implicitDefEqProofs [q0,ix24 hv5]
   refine(c82 (W0:=[[.fsl (encL rI_u8 r3.2.b),.int .i64 r3.2.p]]) (r0_:=0) (H:=hr4) (by simp[q0,ix24 hv5]) (by simp[q0,ix24 hv5])).mono ?_;rintro _ _ ⟨M4,fM4_0,rfl,rfl⟩;simp only[hp_next] at fM4_0
   try simp -dsimp -implicitDefEqProofs [q0,ix24 hv5,hp_over_some,hp_over_none]
   exact hK _ _ ⟨M4,(by omega),rfl,rfl⟩
  rintro a σ ⟨M4,fM4_0,rfl,rfl⟩
  obtain rfl:=oi H;exact AWP_ret ⟨_,rfl,4,by simp[encL_nil]⟩
 ·replace H:=ifF C1 H
  refine AWP_skip (Jn hK1 ?_)
  obtain⟨r6,hr6,H⟩:=bindE H
  refine AWP_sr tok [] [2,3] (fun a σ=>∃M5:Nat,M3+6≤M5∧a=[(2,.fsl (encL rQuad r2.1)),(3,.int .i64 (iadd .i64 1 r6.1))]∧σ=hp E0 [(o1,some ⟨140,2,[[.fsl (encL rI_u8 r6.2.b),.int .i64 r6.2.p]]⟩)] M5) (fun K hK=>?_) ?_
  ·skip
   simp -dsimp -implicitDefEqProofs
   refine(c82 (W0:=[[.fsl (encL rI_u8 r3.2.b),.int .i64 r3.2.p]]) (r0_:=0) (H:=hr6) (by simp[]) (by simp[])).mono ?_;rintro _ _ ⟨M5,fM5_0,rfl,rfl⟩;simp only[hp_next] at fM5_0
   try simp -dsimp -implicitDefEqProofs [hp_over_some,hp_over_none]
   exact hK _ _ ⟨M5,(by omega),rfl,rfl⟩
  rintro a σ ⟨M5,fM5_0,rfl,rfl⟩
  obtain rfl:=oi H;exact AWP_ret ⟨_,rfl,4,by simp[encL_nil]⟩
theorem c12 {p0:(List Int)} {r:(List gQuad)×Int} (H:s_DrawTaskPlaces p0=some r):APure Tryz.prog G 12 [.fsl (encL rI_u8 p0)] (.tup [.fsl (encL rQuad r.1),.int .i64 r.2]):=by
 refine APure_fn (fun N0=>?_) (by simp)
 refine fnK tok Tryz.func12 Tryz.ntmps12 Tryz.results12 ?_
 simp only[argsA,Nat.reduceAdd,hp_next]
 unfold s_DrawTaskPlaces at H
 refine S0 tok [] [0] ?_
 obtain⟨r1,hr1,H⟩:=bindE H
 refine Sx tok [] [2,3] (by intro K k;(repeat first|simp -dsimp -implicitDefEqProofs|refine(c44 hr1).app ?_);exact k) ?_
 obtain rfl:=oi H;exact AWP_ret ⟨_,rfl,4,by simp[encL_nil]⟩
theorem c96 {p0:Int} {r:Bool} (H:i_isReg p0=some r):APure Tryz.prog G 96 [.int .i64 p0] (.bool r):=by
 refine APure_fn (fun N0=>?_) (by simp)
 refine fnK tok Tryz.func96 Tryz.ntmps96 Tryz.results96 ?_
 simp only[argsA,Nat.reduceAdd,hp_next]
 unfold i_isReg at H
 refine S0 tok [] [0] ?_
 obtain⟨g1,hg1,H⟩:=bindE H
 refine Sx tok [] [2] (X:=[(2,.bool g1)]) (Y:=hp E0 [] (N0+8)) (by
  intro K k
  simp -dsimp -implicitDefEqProofs
  cases hbg1:ige p0 0
  ·obtain rfl:=oi (ifF hbg1 hg1)
   try simp -dsimp -implicitDefEqProofs [hbg1]
   exact k
  ·obtain rfl:=oi (ifT hbg1 hg1)
   try simp -dsimp -implicitDefEqProofs [hbg1]
   exact k) ?_
 obtain rfl:=oi H;exact AWP_ret ⟨_,rfl,4,by simp[encL_nil]⟩
theorem c97 {p0:Int} {r:Bool} (H:i_WordValid p0=some r):APure Tryz.prog G 97 [.int .i64 p0] (.bool r):=by
 refine APure_fn (fun N0=>?_) (by simp)
 refine fnK tok Tryz.func97 Tryz.ntmps97 Tryz.results97 ?_
 simp only[argsA,Nat.reduceAdd,hp_next]
 unfold i_WordValid at H
 refine S0 tok [] [0] ?_
 obtain⟨g1,hg1,H⟩:=bindE H
 refine Sx tok [] [2] (X:=[(2,.bool g1)]) (Y:=hp E0 [] (N0+8)) (by
  intro K k
  simp -dsimp -implicitDefEqProofs
  cases hbg1:ige p0 (-2147483648)
  ·obtain rfl:=oi (ifF hbg1 hg1)
   try simp -dsimp -implicitDefEqProofs [hbg1]
   exact k
  ·obtain rfl:=oi (ifT hbg1 hg1)
   try simp -dsimp -implicitDefEqProofs [hbg1]
   exact k) ?_
 obtain rfl:=oi H;exact AWP_ret ⟨_,rfl,4,by simp[encL_nil]⟩
theorem c98 {p0:Int} {r:Bool} (H:i_OpValid p0=some r):APure Tryz.prog G 98 [.int .i64 p0] (.bool r):=by
 refine APure_fn (fun N0=>?_) (by simp)
 refine fnK tok Tryz.func98 Tryz.ntmps98 Tryz.results98 ?_
 simp only[argsA,Nat.reduceAdd,hp_next]
 unfold i_OpValid at H
 refine S0 tok [] [0] ?_
 obtain⟨g1,hg1,H⟩:=bindE H
 refine Sx tok [] [2] (X:=[(2,.bool g1)]) (Y:=hp E0 [] (N0+8)) (by
  intro K k
  simp -dsimp -implicitDefEqProofs
  cases hbg1:ige p0 1
  ·obtain rfl:=oi (ifF hbg1 hg1)
   try simp -dsimp -implicitDefEqProofs [hbg1]
   exact k
  ·obtain rfl:=oi (ifT hbg1 hg1)
   try simp -dsimp -implicitDefEqProofs [hbg1]
   exact k) ?_
 obtain rfl:=oi H;exact AWP_ret ⟨_,rfl,4,by simp[encL_nil]⟩
theorem c49 {p0:gQuad} {p1:Int} {r:Bool} (H:i_QuadValid p0 p1=some r):APure Tryz.prog G 49 [.agg [.int .i64 p0.Op,.int .i64 p0.Dst,.int .i64 p0.A,.int .i64 p0.B,.int .i64 p0.N],.int .i64 p1] (.bool r):=by
 refine APure_fn (fun N0=>?_) (by simp)
 refine fnK tok Tryz.func49 Tryz.ntmps49 Tryz.results49 ?_
 simp only[argsA,Nat.reduceAdd,hp_next]
 unfold i_QuadValid at H
 refine S0 tok [0] [1,2] ?_
 obtain⟨r1,hr1,H⟩:=bindE H
 obtain⟨r2,hr2,H⟩:=bindE H
 obtain⟨r3,hr3,H⟩:=bindE H
 refine Sd tok tokM [] [] [0,1,2,3,4,5,6,7,8,9,10,11,12,13,14] [1,2,5,6,7,8] (by
  intro K k
  simp only[pickL,nthO_succ,nthO_zero]
  repeat first|simp -dsimp -implicitDefEqProofs|refine Pc.mk (c96 hr1) ?_|refine Pc.mk (c96 hr2) ?_|refine Pc.mk (c96 hr3) ?_
  exact k) ?_
 refine AWP_sq [] fun K1 hK1=>?_
 refine S0 tok [] [1,2,5,6,7,8,21] ?_
 refine AWP_block (AWP_thenB ?_)
 refine S0 tok [] [1,2,5,6,7,8,21,22] ?_
 refine Cd (fun C1=>?_) fun C1=>?_
 ·replace H:=ifT C1 H
  obtain⟨g4,hg4,H⟩:=bindE H
  obtain⟨g6,hg6,H⟩:=bindE H
  refine Sx tok [] [4] (X:=[(4,.bool g6)]) (Y:=hp E0 [] (N0+35)) (by
   intro K k
   simp -dsimp -implicitDefEqProofs
   cases hbg4:eqD p0 (⟨1,p0.Dst,0,0,p0.N⟩:gQuad)
   ·obtain rfl:=oi (ifF hbg4 hg4)
    obtain rfl:=oi (ifF rfl hg6)
    try simp -dsimp -implicitDefEqProofs [hbg4]
    exact k
   ·obtain rfl:=oi (ifT hbg4 hg4)
    try simp -dsimp -implicitDefEqProofs [hbg4]
    cases hbg6:r1
    ·obtain rfl:=oi (ifF hbg6 hg6)
     try simp -dsimp -implicitDefEqProofs [hbg4,hbg6]
     exact k
    ·replace hg6:=ifT hbg6 hg6
     obtain⟨r5,hr5,hg6⟩:=bindE hg6
     obtain rfl:=oi hg6
     try simp -dsimp -implicitDefEqProofs [hbg4,hbg6]
     refine(c97 hr5).app ?_;try simp -dsimp -implicitDefEqProofs [hbg4,hbg6]
     exact k) ?_
  obtain rfl:=oi H;exact AWP_ret ⟨_,rfl,4,by simp[encL_nil]⟩
 ·replace H:=ifF C1 H
  refine S0 tok [] [1,2,5,6,7,8,21,37] ?_
  refine Cd (fun C2=>?_) fun C2=>?_
  ·replace H:=ifT C2 H
   obtain⟨g7,hg7,H⟩:=bindE H
   obtain⟨g8,hg8,H⟩:=bindE H
   refine Sx tok [] [4] (X:=[(4,.bool g8)]) (Y:=hp E0 [] (N0+37)) (by
    intro K k
    simp -dsimp -implicitDefEqProofs
    cases hbg7:eqD p0 (⟨2,p0.Dst,p0.A,0,0⟩:gQuad)
    ·obtain rfl:=oi (ifF hbg7 hg7)
     obtain rfl:=oi (ifF rfl hg8)
     try simp -dsimp -implicitDefEqProofs [hbg7]
     exact k
    ·obtain rfl:=oi (ifT hbg7 hg7)
     try simp -dsimp -implicitDefEqProofs [hbg7]
     cases hbg8:r1
     ·obtain rfl:=oi (ifF hbg8 hg8)
      try simp -dsimp -implicitDefEqProofs [hbg7,hbg8]
      exact k
     ·obtain rfl:=oi (ifT hbg8 hg8)
      try simp -dsimp -implicitDefEqProofs [hbg7,hbg8]
      exact k) ?_
   obtain rfl:=oi H;exact AWP_ret ⟨_,rfl,4,by simp[encL_nil]⟩
  ·replace H:=ifF C2 H
   refine S0 tok [] [1,2,5,6,7,8,21,52] ?_
   refine Cd (fun C3=>?_) fun C3=>?_
   ·replace H:=ifT C3 H
    obtain⟨g9,hg9,H⟩:=bindE H
    obtain⟨g10,hg10,H⟩:=bindE H
    obtain⟨g12,hg12,H⟩:=bindE H
    refine Sx tok [] [4] (X:=[(4,.bool g12)]) (Y:=hp E0 [] (N0+37)) (by
     intro K k
     simp -dsimp -implicitDefEqProofs
     cases hbg9:r1
     ·obtain rfl:=oi (ifF hbg9 hg9)
      obtain rfl:=oi (ifF rfl hg10)
      obtain rfl:=oi (ifF rfl hg12)
      try simp -dsimp -implicitDefEqProofs [hbg9]
      exact k
     ·obtain rfl:=oi (ifT hbg9 hg9)
      try simp -dsimp -implicitDefEqProofs [hbg9]
      cases hbg10:r2
      ·obtain rfl:=oi (ifF hbg10 hg10)
       obtain rfl:=oi (ifF rfl hg12)
       try simp -dsimp -implicitDefEqProofs [hbg9,hbg10]
       exact k
      ·obtain rfl:=oi (ifT hbg10 hg10)
       try simp -dsimp -implicitDefEqProofs [hbg9,hbg10]
       cases hbg12:r3
       ·obtain rfl:=oi (ifF hbg12 hg12)
        try simp -dsimp -implicitDefEqProofs [hbg9,hbg10,hbg12]
        exact k
       ·replace hg12:=ifT hbg12 hg12
        obtain⟨r11,hr11,hg12⟩:=bindE hg12
        obtain rfl:=oi hg12
        try simp -dsimp -implicitDefEqProofs [hbg9,hbg10,hbg12]
        refine(c98 hr11).app ?_;try simp -dsimp -implicitDefEqProofs [hbg9,hbg10,hbg12]
        exact k) ?_
    obtain rfl:=oi H;exact AWP_ret ⟨_,rfl,4,by simp[encL_nil]⟩
   ·replace H:=ifF C3 H
    refine S0 tok [] [1,2,5,6,8,21,65] ?_
    refine Cd (fun C4=>?_) fun C4=>?_
    ·replace H:=ifT C4 H
     obtain⟨g13,hg13,H⟩:=bindE H
     obtain⟨g14,hg14,H⟩:=bindE H
     refine Sx tok [] [4] (X:=[(4,.bool g14)]) (Y:=hp E0 [] (N0+41)) (by
      intro K k
      simp -dsimp -implicitDefEqProofs
      cases hbg13:eqD p0 (⟨4,0,0,0,p0.N⟩:gQuad)
      ·obtain rfl:=oi (ifF hbg13 hg13)
       obtain rfl:=oi (ifF rfl hg14)
       try simp -dsimp -implicitDefEqProofs [hbg13]
       exact k
      ·obtain rfl:=oi (ifT hbg13 hg13)
       try simp -dsimp -implicitDefEqProofs [hbg13]
       cases hbg14:(ige p0.N 0)
       ·obtain rfl:=oi (ifF hbg14 hg14)
        try simp -dsimp -implicitDefEqProofs [hbg13,hbg14]
        exact k
       ·obtain rfl:=oi (ifT hbg14 hg14)
        try simp -dsimp -implicitDefEqProofs [hbg13,hbg14]
        exact k) ?_
     obtain rfl:=oi H;exact AWP_ret ⟨_,rfl,4,by simp[encL_nil]⟩
    ·replace H:=ifF C4 H
     refine S0 tok [] [1,2,5,6,8,21,80] ?_
     refine Cd (fun C5=>?_) fun C5=>?_
     ·replace H:=ifT C5 H
      obtain⟨g15,hg15,H⟩:=bindE H
      obtain⟨g16,hg16,H⟩:=bindE H
      obtain⟨g17,hg17,H⟩:=bindE H
      refine Sx tok [] [4] (X:=[(4,.bool g17)]) (Y:=hp E0 [] (N0+48)) (by
       intro K k
       simp -dsimp -implicitDefEqProofs
       cases hbg15:eqD p0 (⟨5,0,p0.A,0,p0.N⟩:gQuad)
       ·obtain rfl:=oi (ifF hbg15 hg15)
        obtain rfl:=oi (ifF rfl hg16)
        obtain rfl:=oi (ifF rfl hg17)
        try simp -dsimp -implicitDefEqProofs [hbg15]
        exact k
       ·obtain rfl:=oi (ifT hbg15 hg15)
        try simp -dsimp -implicitDefEqProofs [hbg15]
        cases hbg16:r2
        ·obtain rfl:=oi (ifF hbg16 hg16)
         obtain rfl:=oi (ifF rfl hg17)
         try simp -dsimp -implicitDefEqProofs [hbg15,hbg16]
         exact k
        ·obtain rfl:=oi (ifT hbg16 hg16)
         try simp -dsimp -implicitDefEqProofs [hbg15,hbg16]
         cases hbg17:(ige p0.N 0)
         ·obtain rfl:=oi (ifF hbg17 hg17)
          try simp -dsimp -implicitDefEqProofs [hbg15,hbg16,hbg17]
          exact k
         ·obtain rfl:=oi (ifT hbg17 hg17)
          try simp -dsimp -implicitDefEqProofs [hbg15,hbg16,hbg17]
          exact k) ?_
      obtain rfl:=oi H;exact AWP_ret ⟨_,rfl,4,by simp[encL_nil]⟩
     ·replace H:=ifF C5 H
      refine S0 tok [] [2,5,6,8,21,100] ?_
      refine Cd (fun C6=>?_) fun C6=>?_
      ·replace H:=ifT C6 H
       obtain⟨g18,hg18,H⟩:=bindE H
       obtain⟨g19,hg19,H⟩:=bindE H
       obtain⟨g20,hg20,H⟩:=bindE H
       refine Sx tok [] [4] (X:=[(4,.bool g20)]) (Y:=hp E0 [] (N0+49)) (by
        intro K k
        simp -dsimp -implicitDefEqProofs
        cases hbg18:eqD p0 (⟨6,0,p0.A,0,p0.N⟩:gQuad)
        ·obtain rfl:=oi (ifF hbg18 hg18)
         obtain rfl:=oi (ifF rfl hg19)
         obtain rfl:=oi (ifF rfl hg20)
         try simp -dsimp -implicitDefEqProofs [hbg18]
         exact k
        ·obtain rfl:=oi (ifT hbg18 hg18)
         try simp -dsimp -implicitDefEqProofs [hbg18]
         cases hbg19:r2
         ·obtain rfl:=oi (ifF hbg19 hg19)
          obtain rfl:=oi (ifF rfl hg20)
          try simp -dsimp -implicitDefEqProofs [hbg18,hbg19]
          exact k
         ·obtain rfl:=oi (ifT hbg19 hg19)
          try simp -dsimp -implicitDefEqProofs [hbg18,hbg19]
          cases hbg20:(ige p0.N 0)
          ·obtain rfl:=oi (ifF hbg20 hg20)
           try simp -dsimp -implicitDefEqProofs [hbg18,hbg19,hbg20]
           exact k
          ·obtain rfl:=oi (ifT hbg20 hg20)
           try simp -dsimp -implicitDefEqProofs [hbg18,hbg19,hbg20]
           exact k) ?_
       obtain rfl:=oi H;exact AWP_ret ⟨_,rfl,4,by simp[encL_nil]⟩
      ·replace H:=ifF C6 H
       refine S0 tok [] [2,5,6,8,21,119] ?_
       refine Cd (fun C7=>?_) fun C7=>?_
       ·replace H:=ifT C7 H
        obtain⟨g21,hg21,H⟩:=bindE H
        obtain⟨g22,hg22,H⟩:=bindE H
        obtain⟨g23,hg23,H⟩:=bindE H
        refine Sx tok [] [4] (X:=[(4,.bool g23)]) (Y:=hp E0 [] (N0+51)) (by
         intro K k
         simp -dsimp -implicitDefEqProofs
         cases hbg21:eqD p0 (⟨7,p0.Dst,0,0,p0.N⟩:gQuad)
         ·obtain rfl:=oi (ifF hbg21 hg21)
          obtain rfl:=oi (ifF rfl hg22)
          obtain rfl:=oi (ifF rfl hg23)
          try simp -dsimp -implicitDefEqProofs [hbg21]
          exact k
         ·obtain rfl:=oi (ifT hbg21 hg21)
          try simp -dsimp -implicitDefEqProofs [hbg21]
          cases hbg22:r1
          ·obtain rfl:=oi (ifF hbg22 hg22)
           obtain rfl:=oi (ifF rfl hg23)
           try simp -dsimp -implicitDefEqProofs [hbg21,hbg22]
           exact k
          ·obtain rfl:=oi (ifT hbg22 hg22)
           try simp -dsimp -implicitDefEqProofs [hbg21,hbg22]
           cases hbg23:(ige p0.N 0)
           ·obtain rfl:=oi (ifF hbg23 hg23)
            try simp -dsimp -implicitDefEqProofs [hbg21,hbg22,hbg23]
            exact k
           ·obtain rfl:=oi (ifT hbg23 hg23)
            try simp -dsimp -implicitDefEqProofs [hbg21,hbg22,hbg23]
            exact k) ?_
        obtain rfl:=oi H;exact AWP_ret ⟨_,rfl,4,by simp[encL_nil]⟩
       ·replace H:=ifF C7 H
        refine S0 tok [] [2,6,21,138] ?_
        refine Cd (fun C8=>?_) fun C8=>?_
        ·replace H:=ifT C8 H
         obtain⟨g24,hg24,H⟩:=bindE H
         refine Sx tok [] [4] (X:=[(4,.bool g24)]) (Y:=hp E0 [] (N0+44)) (by
          intro K k
          simp -dsimp -implicitDefEqProofs
          cases hbg24:eqD p0 (⟨9,0,p0.A,0,0⟩:gQuad)
          ·obtain rfl:=oi (ifF hbg24 hg24)
           try simp -dsimp -implicitDefEqProofs [hbg24]
           exact k
          ·obtain rfl:=oi (ifT hbg24 hg24)
           try simp -dsimp -implicitDefEqProofs [hbg24]
           exact k) ?_
         obtain rfl:=oi H;exact AWP_ret ⟨_,rfl,4,by simp[encL_nil]⟩
        ·replace H:=ifF C8 H
         obtain⟨j1,hj1,H⟩:=bindE H
         refine AWP_seq (AWP_named fun K2 hK2=>?_)
         have hJ1:∀a σ,Rc G 156 N0 (fun a σ=>∃M1:Nat,N0≤M1∧a=[(2,.fptr [.int .i64 p0.Op,.int .i64 p0.Dst,.int .i64 p0.A,.int .i64 p0.B,.int .i64 p0.N] 0),(148,.bool j1)]∧σ=hp E0 [] M1) (a.keep [2,148]) σ→K2 a σ:=by
          rintro a σ ⟨b,τ,hr,M1,fM1_0,rfl,rfl⟩
          refine hK2 _ _ (AWP_keep [2,148] (AWP_ref hr ?_))
          refine Cd (fun C9=>?_) fun C9=>?_
          ·replace H:=ifT C9 H
           refine S0 tok [] [4] ?_
           obtain rfl:=oi H;exact AWP_ret ⟨_,rfl,4,by simp[encL_nil]⟩
          ·replace H:=ifF C9 H
           refine AWP_skip (Jn hK1 ?_)
           refine S0 tok [] [4] ?_
           obtain rfl:=oi H;exact AWP_ret ⟨_,rfl,4,by simp[encL_nil]⟩
         replace H:=hj1
         refine S0 tok [] [2,21,148] ?_
         refine Cd (fun C10=>?_) fun C10=>?_
         ·replace H:=ifT C10 H
          refine AWP_skip ?_
          show K2 _ _
          refine kE [2,148] fun a' ha=>?_
          obtain rfl:=oi H
          refine hJ1 _ _ ?_;rw[ha]
          exact Rf ⟨N0+37,(by omega),rfl,rfl⟩
         ·replace H:=ifF C10 H
          refine Rt0 tok [] [2,148] fun a ha=>?_
          obtain rfl:=oi H
          refine hJ1 _ _ ?_;rw[ha]
          exact Rf ⟨N0+39,(by omega),rfl,rfl⟩
theorem c45 {p0:(List gQuad)} {r:Bool} (H:i_CodeValid p0=some r):APure Tryz.prog G 45 [.fsl (encL rQuad p0)] (.bool r):=by
 refine APure_fn (fun N0=>?_) (by simp)
 refine fnK tok Tryz.func45 Tryz.ntmps45 Tryz.results45 ?_
 simp only[argsA,Nat.reduceAdd,hp_next]
 unfold i_CodeValid at H
 refine S0 tok [] [0] ?_
 refine AWP_sq [0] fun K1 hK1=>?_
 obtain⟨g1,hg1,H⟩:=bindE H
 refine Sx tok [] [0,13] (X:=[(0,.fsl (encL rQuad p0)),(13,.bool g1)]) (Y:=hp E0 [] (N0+9)) (by
  intro K k
  simp -dsimp -implicitDefEqProofs
  cases hbg1:ilt (ilen p0) 1
  ·obtain rfl:=oi (ifF hbg1 hg1)
   try simp -dsimp -implicitDefEqProofs [hbg1]
   exact k
  ·obtain rfl:=oi (ifT hbg1 hg1)
   try simp -dsimp -implicitDefEqProofs [hbg1]
   exact k) ?_
 refine Cd (fun C1=>?_) fun C1=>?_
 ·replace H:=ifT C1 H
  refine S0 tok [] [2] ?_
  obtain rfl:=oi H;exact AWP_ret ⟨_,rfl,4,by simp[encL_nil]⟩
 ·replace H:=ifF C1 H
  refine AWP_skip (Jn hK1 ?_)
  refine AWP_sq [0] fun K2 hK2=>?_
  refine S0 tok [] [0,14,15,16] ?_
  refine AWP_block (AWP_thenB ?_)
  obtain⟨e1,hse1,H⟩:=bindE H
  refine AWP_lp [0,14,15,16] (fun s a σ=>∃M1:Nat,N0≤M1∧a=[(0,.fsl (encL rQuad p0)),(14,.fsl (encL rQuad p0)),(15,.int .i64 (ilen p0)),(16,.int .i64 s)]∧σ=hp E0 [] M1) (fun e x a σ=>match e with|.inl s=>x=.exit 0∧Rc G 39 N0 (fun a σ=>∃M2:Nat,N0≤M2∧a=[(0,.fsl (encL rQuad p0))]∧σ=hp E0 [] M2) (AAct.keep a [0]) σ|.inr s=>x=.ret∧∃vs,resA T σ a [.tmp 2]=some vs∧∃d,thawA (fun _=>true) σ d (tupA vs)=.bool s) hse1 ?_ ?_ ?_
  ·refine Rc.kp [0,14,15,16] [(0,.fsl (encL rQuad p0)),(14,.fsl (encL rQuad p0)),(15,.int .i64 (ilen p0)),(16,.int .i64 0)] rfl ?_
   exact Rf ⟨N0+12,(by omega),rfl,rfl⟩
  ·clear H hse1
   rintro s2 fl a σ H ⟨M1,fM1_0,rfl,rfl⟩ K3 O3 hK3 hO3
   unfold i_CodeValid_L1 at H;dsimp only at H
   refine S0 tok [] [0,14,15,16,17] ?_
   refine AWP_sq [0,14,15,16] fun K4 hK4=>?_
   refine Cd (fun C2=>?_) fun C2=>?_
   ·replace H:=ifT C2 H
    refine AWP_skip (Jn hK4 ?_)
    refine AWP_sq [0,14,15,16] fun K5 hK5=>?_
    refine AWP_block (AWP_thenB ?_)
    obtain⟨v3,hv3,H⟩:=bindE H
    refine Sx tok [] [0,4,14,15,16] (by intro K k;simp -dsimp -implicitDefEqProofs [ix39 hv3];exact k) ?_
    obtain⟨r4,hr4,H⟩:=bindE H
    refine Sx tok [] [0,14,15,16,24] (by intro K k;(repeat first|simp -dsimp -implicitDefEqProofs|refine(c49 hr4).app ?_);exact k) ?_
    refine Cd (fun C3=>?_) fun C3=>?_
    ·replace H:=ifT C3 H
     refine S0 tok [] [2] ?_
     obtain rfl:=oi H
     refine Kp [2] ?_
     refine AWP_ret (hO3 _ _ _ _ rfl ⟨rfl,?_⟩)
     exact⟨[.bool false],by simp,4,by simp[encL_nil]⟩
    ·replace H:=ifF C3 H
     refine AWP_skip (Jn hK5 ?_)
     refine Rt0 tok [] [0,14,15,16] fun a ha=>?_
     obtain rfl:=oi H
     refine hK3 _ _ _ rfl ?_;rw[ha]
     exact Rc.fin (AHeap.Sub.trans (AHeap.Sub.refl _) (hp_drop rfl (by simp;try omega))) ⟨M1+12,(by omega),rfl,rfl⟩
   ·obtain rfl:=oi (ifF C2 H)
    refine AWP_exit (hO3 _ _ _ _ rfl ⟨rfl,?_⟩)
    refine Rc.rw (l:=[0]) (X:=[(0,.fsl (encL rQuad p0))]) rfl ?_
    exact Rf ⟨M1+1,(by omega),rfl,rfl⟩
  ·intro x a σ hx
   rcases e1 with⟨⟩|r0
   ·obtain⟨rfl,b,τ,hr,M2,fM2_0,rfl,rfl⟩:=hx
    (try dsimp only at H)
    show K2 _ _
    refine hK2 _ _ (Rc_ref hr ?_)
    refine Rc.mk ?_
    obtain⟨v5,hv5,H⟩:=bindE H
    refine Sx tok [] [5] (by intro K k;simp -dsimp -implicitDefEqProofs [ix39 hv5];exact k) ?_
    obtain⟨g6,hg6,H⟩:=bindE H
    refine Sx tok [] [2] (X:=[(2,.bool g6)]) (Y:=hp E0 [] (M2+15)) (by
     intro K k
     simp -dsimp -implicitDefEqProofs
     cases hbg6:ieq v5.Op 10
     ·obtain rfl:=oi (ifF hbg6 hg6)
      try simp -dsimp -implicitDefEqProofs [hbg6]
      exact k
     ·obtain rfl:=oi (ifT hbg6 hg6)
      try simp -dsimp -implicitDefEqProofs [hbg6]
      exact k) ?_
    obtain rfl:=oi H;exact AWP_ret ⟨_,rfl,4,by simp[encL_nil]⟩
   ·obtain⟨rfl,hx2⟩:=hx
    (try dsimp only at H)
    obtain rfl:=oi H;first|exact hx2|(simp only[List.set_set] at hx2 ⊢;exact hx2)
theorem c88 {p0:Int} {p1:Int} {p2:Int} {r:gInstr} (H:i_addi p0 p1 p2=some r):APure Tryz.prog G 88 [.int .i64 p0,.int .i64 p1,.int .i64 p2] (.agg [.int .i64 r.Op,.int .i64 r.Rd,.int .i64 r.Rs,.int .i64 r.Rt,.int .i64 r.Imm]):=by
 refine APure_fn (fun N0=>?_) (by simp)
 refine fnK tok Tryz.func88 Tryz.ntmps88 Tryz.results88 ?_
 simp only[argsA,Nat.reduceAdd,hp_next]
 unfold i_addi at H
 refine S0 tok [] [0,1,2,6] ?_
 refine S0 tok [] [6] ?_
 obtain rfl:=oi H
 refine Kp [6] ?_
 refine AWP_ret ?_
 exact⟨[.agg [.int .i64 12,.int .i64 p0,.int .i64 p1,.int .i64 0,.int .i64 p2]],by simp,4,by simp[encL_nil]⟩
theorem c73 {p0:Int} {r:Int} (H:i_Unsigned p0=some r):APure Tryz.prog G 73 [.int .i64 p0] (.int .i64 r):=by
 refine APure_fn (fun N0=>?_) (by simp)
 refine fnK tok Tryz.func73 Tryz.ntmps73 Tryz.results73 ?_
 simp only[argsA,Nat.reduceAdd,hp_next]
 unfold i_Unsigned at H
 refine S0 tok [] [0] ?_
 refine AWP_sq [0] fun K1 hK1=>?_
 obtain⟨r1,hr1,H⟩:=bindE H
 refine Sx tok [] [0,5] (by intro K k;(repeat first|simp -dsimp -implicitDefEqProofs|refine(c97 hr1).app ?_);exact k) ?_
 refine Cd (fun C1=>?_) fun C1=>?_
 ·replace H:=ifT C1 H
  refine S0 tok [] [2] ?_
  obtain rfl:=oi H;exact AWP_ret ⟨_,rfl,4,by simp[encL_nil]⟩
 ·replace H:=ifF C1 H
  refine AWP_skip (Jn hK1 ?_)
  refine S0 tok [] [2] ?_
  obtain rfl:=oi H;exact AWP_ret ⟨_,rfl,4,by simp[encL_nil]⟩
theorem c109 {p0:Int} {r:Bool} (H:i_isUnsigned p0=some r):APure Tryz.prog G 109 [.int .i64 p0] (.bool r):=by
 refine APure_fn (fun N0=>?_) (by simp)
 refine fnK tok Tryz.func109 Tryz.ntmps109 Tryz.results109 ?_
 simp only[argsA,Nat.reduceAdd,hp_next]
 unfold i_isUnsigned at H
 refine S0 tok [] [0] ?_
 obtain⟨g1,hg1,H⟩:=bindE H
 refine Sx tok [] [2] (X:=[(2,.bool g1)]) (Y:=hp E0 [] (N0+8)) (by
  intro K k
  simp -dsimp -implicitDefEqProofs
  cases hbg1:ige p0 0
  ·obtain rfl:=oi (ifF hbg1 hg1)
   try simp -dsimp -implicitDefEqProofs [hbg1]
   exact k
  ·obtain rfl:=oi (ifT hbg1 hg1)
   try simp -dsimp -implicitDefEqProofs [hbg1]
   exact k) ?_
 obtain rfl:=oi H;exact AWP_ret ⟨_,rfl,4,by simp[encL_nil]⟩
theorem c115 {p0:Int} {p1:Int} {p2:Int} {r:Int} (H:i_Bits p0 p1 p2=some r):APure Tryz.prog G 115 [.int .i64 p0,.int .i64 p1,.int .i64 p2] (.int .i64 r):=by
 refine APure_fn (fun N0=>?_) (by simp)
 refine fnK tok Tryz.func115 Tryz.ntmps115 Tryz.results115 ?_
 simp only[argsA,Nat.reduceAdd,hp_next]
 unfold i_Bits at H
 refine S0 tok [] [0,1,2] ?_
 refine AWP_sq [0,1,2] fun K1 hK1=>?_
 obtain⟨r1,hr1,H⟩:=bindE H
 obtain⟨g2,hg2,H⟩:=bindE H
 obtain⟨g3,hg3,H⟩:=bindE H
 obtain⟨g4,hg4,H⟩:=bindE H
 obtain⟨g5,hg5,H⟩:=bindE H
 refine Sx tok [] [0,1,2,27] (X:=[(0,.int .i64 p0),(1,.int .i64 p1),(2,.int .i64 p2),(27,.bool g5)]) (Y:=hp E0 [] (N0+22)) (by
  intro K k
  simp -dsimp -implicitDefEqProofs
  refine(c109 hr1).app ?_;try simp -dsimp -implicitDefEqProofs
  cases hbg2:bnot r1
  ·obtain rfl:=oi (ifF hbg2 hg2)
   try simp -dsimp -implicitDefEqProofs [hbg2]
   cases hbg3:(ilt p1 0)
   ·obtain rfl:=oi (ifF hbg3 hg3)
    try simp -dsimp -implicitDefEqProofs [hbg2,hbg3]
    cases hbg4:(igt p1 31)
    ·obtain rfl:=oi (ifF hbg4 hg4)
     try simp -dsimp -implicitDefEqProofs [hbg2,hbg3,hbg4]
     cases hbg5:(ilt p2 1)
     ·obtain rfl:=oi (ifF hbg5 hg5)
      try simp -dsimp -implicitDefEqProofs [hbg2,hbg3,hbg4,hbg5]
      exact k
     ·obtain rfl:=oi (ifT hbg5 hg5)
      try simp -dsimp -implicitDefEqProofs [hbg2,hbg3,hbg4,hbg5]
      exact k
    ·obtain rfl:=oi (ifT hbg4 hg4)
     obtain rfl:=oi (ifT rfl hg5)
     try simp -dsimp -implicitDefEqProofs [hbg2,hbg3,hbg4]
     exact k
   ·obtain rfl:=oi (ifT hbg3 hg3)
    obtain rfl:=oi (ifT rfl hg4)
    obtain rfl:=oi (ifT rfl hg5)
    try simp -dsimp -implicitDefEqProofs [hbg2,hbg3]
    exact k
  ·obtain rfl:=oi (ifT hbg2 hg2)
   obtain rfl:=oi (ifT rfl hg3)
   obtain rfl:=oi (ifT rfl hg4)
   obtain rfl:=oi (ifT rfl hg5)
   try simp -dsimp -implicitDefEqProofs [hbg2]
   exact k) ?_
 refine Cd (fun C1=>?_) fun C1=>?_
 ·replace H:=ifT C1 H
  refine S0 tok [] [6] ?_
  obtain rfl:=oi H;exact AWP_ret ⟨_,rfl,4,by simp[encL_nil]⟩
 ·replace H:=ifF C1 H
  refine AWP_skip (Jn hK1 ?_)
  obtain⟨v6,hv6,H⟩:=bindE H
  obtain⟨v7,hv7,H⟩:=bindE H
  refine Sd tok tokM [] [] [0,1,2,3,4,5,6,7] [6] (by
   intro K k
   simp only[pickL,nthO_succ,nthO_zero]
   simp -dsimp -implicitDefEqProofs [hv6,hv7]
   exact k) ?_
  obtain rfl:=oi H;exact AWP_ret ⟨_,rfl,4,by simp[encL_nil]⟩
theorem c114 {p0:Int} {p1:Int} {r:Int} (H:i_SignExtend p0 p1=some r):APure Tryz.prog G 114 [.int .i64 p0,.int .i64 p1] (.int .i64 r):=by
 refine APure_fn (fun N0=>?_) (by simp)
 refine fnK tok Tryz.func114 Tryz.ntmps114 Tryz.results114 ?_
 simp only[argsA,Nat.reduceAdd,hp_next]
 unfold i_SignExtend at H
 refine S0 tok [] [0,1] ?_
 refine AWP_sq [0,1] fun K1 hK1=>?_
 obtain⟨g1,hg1,H⟩:=bindE H
 obtain⟨g2,hg2,H⟩:=bindE H
 obtain⟨g4,hg4,H⟩:=bindE H
 refine Sx tok [] [0,1,20] (X:=[(0,.int .i64 p0),(1,.int .i64 p1),(20,.bool g4)]) (Y:=hp E0 [] (N0+17)) (by
  intro K k
  simp -dsimp -implicitDefEqProofs
  cases hbg1:ilt p1 1
  ·obtain rfl:=oi (ifF hbg1 hg1)
   try simp -dsimp -implicitDefEqProofs [hbg1]
   cases hbg2:(igt p1 32)
   ·obtain rfl:=oi (ifF hbg2 hg2)
    try simp -dsimp -implicitDefEqProofs [hbg1,hbg2]
    cases hbg4:(ilt p0 0)
    ·replace hg4:=ifF hbg4 hg4
     obtain⟨v3,hv3,hg4⟩:=bindE hg4
     obtain rfl:=oi hg4
     try simp -dsimp -implicitDefEqProofs [hbg1,hbg2,hbg4,hv3]
     exact k
    ·obtain rfl:=oi (ifT hbg4 hg4)
     try simp -dsimp -implicitDefEqProofs [hbg1,hbg2,hbg4]
     exact k
   ·obtain rfl:=oi (ifT hbg2 hg2)
    obtain rfl:=oi (ifT rfl hg4)
    try simp -dsimp -implicitDefEqProofs [hbg1,hbg2]
    exact k
  ·obtain rfl:=oi (ifT hbg1 hg1)
   obtain rfl:=oi (ifT rfl hg2)
   obtain rfl:=oi (ifT rfl hg4)
   try simp -dsimp -implicitDefEqProofs [hbg1]
   exact k) ?_
 refine Cd (fun C1=>?_) fun C1=>?_
 ·replace H:=ifT C1 H
  refine S0 tok [] [4] ?_
  obtain rfl:=oi H;exact AWP_ret ⟨_,rfl,4,by simp[encL_nil]⟩
 ·replace H:=ifF C1 H
  refine AWP_skip (Jn hK1 ?_)
  refine AWP_sq [0] fun K2 hK2=>?_
  obtain⟨v5,hv5,H⟩:=bindE H
  refine Sx tok [] [0,1,25] (by intro K k;simp -dsimp -implicitDefEqProofs [hv5];exact k) ?_
  refine Cd (fun C2=>?_) fun C2=>?_
  ·replace H:=ifT C2 H
   obtain⟨v6,hv6,H⟩:=bindE H
   refine Sx tok [] [4] (by intro K k;simp -dsimp -implicitDefEqProofs [hv6];exact k) ?_
   obtain rfl:=oi H;exact AWP_ret ⟨_,rfl,4,by simp[encL_nil]⟩
  ·replace H:=ifF C2 H
   refine AWP_skip (Jn hK2 ?_)
   refine S0 tok [] [4] ?_
   obtain rfl:=oi H;exact AWP_ret ⟨_,rfl,4,by simp[encL_nil]⟩
theorem c74 {p0:Int} {r:Int} (H:i_Wrap p0=some r):APure Tryz.prog G 74 [.int .i64 p0] (.int .i64 r):=by
 refine APure_fn (fun N0=>?_) (by simp)
 refine fnK tok Tryz.func74 Tryz.ntmps74 Tryz.results74 ?_
 simp only[argsA,Nat.reduceAdd,hp_next]
 unfold i_Wrap at H
 refine S0 tok [] [0] ?_
 refine S0 tok [] [2] ?_
 obtain rfl:=oi H;exact AWP_ret ⟨_,rfl,4,by simp[encL_nil]⟩
theorem c85 {p0:Int} {p1:Int} {r:(List gInstr)} (H:i_constInstrs p0 p1=some r):APure Tryz.prog G 85 [.int .i64 p0,.int .i64 p1] (.fsl (encL rInstr r)):=by
 refine APure_fn (fun N0=>?_) (by simp)
 refine fnK tok Tryz.func85 Tryz.ntmps85 Tryz.results85 ?_
 simp only[argsA,Nat.reduceAdd,hp_next]
 unfold i_constInstrs at H
 refine S0 tok [] [0,1] ?_
 refine AWP_sq [0,1] fun K1 hK1=>?_
 obtain⟨g1,hg1,H⟩:=bindE H
 refine Sx tok [] [0,1,12] (X:=[(0,.int .i64 p0),(1,.int .i64 p1),(12,.bool g1)]) (Y:=hp E0 [] (N0+7)) (by
  intro K k
  simp -dsimp -implicitDefEqProofs
  cases hbg1:ige p1 (-2048)
  ·obtain rfl:=oi (ifF hbg1 hg1)
   try simp -dsimp -implicitDefEqProofs [hbg1]
   exact k
  ·obtain rfl:=oi (ifT hbg1 hg1)
   try simp -dsimp -implicitDefEqProofs [hbg1]
   exact k) ?_
 refine Cd (fun C1=>?_) fun C1=>?_
 ·replace H:=ifT C1 H
  obtain⟨r2,hr2,H⟩:=bindE H
  have q0:∀σ i,buildSliceA T 44 true i 1 [(0,.agg [.int .i64 r2.Op,.int .i64 r2.Rd,.int .i64 r2.Rs,.int .i64 r2.Rt,.int .i64 r2.Imm])] σ=some (.fsl (encL rInstr ([r2]:List gInstr)),σ):=fun _ _=>rfl
  refine Sx tok [3] [4] (by intro K k;(repeat first|simp -dsimp -implicitDefEqProofs [q0]|refine(c88 hr2).app ?_);exact k) ?_
  obtain rfl:=oi H;exact AWP_ret ⟨_,rfl,4,by simp[encL_nil]⟩
 ·replace H:=ifF C1 H
  refine AWP_skip (Jn hK1 ?_)
  obtain⟨r3,hr3,H⟩:=bindE H
  obtain⟨r4,hr4,H⟩:=bindE H
  obtain⟨r5,hr5,H⟩:=bindE H
  refine Sx tok [] [0,1,5] (by intro K k;(repeat first|simp -dsimp -implicitDefEqProofs|refine(c73 hr3).app ?_|refine(c115 hr4).app ?_|refine(c114 hr5).app ?_);exact k) ?_
  obtain⟨r6,hr6,H⟩:=bindE H
  obtain⟨r7,hr7,H⟩:=bindE H
  obtain⟨r8,hr8,H⟩:=bindE H
  refine Sx tok [] [0,5,6] (by intro K k;(repeat first|simp -dsimp -implicitDefEqProofs|refine(c74 hr6).app ?_|refine(c73 hr7).app ?_|refine(c115 hr8).app ?_);exact k) ?_
  obtain⟨r9,hr9,H⟩:=bindE H
  have q1:∀σ i,buildSliceA T 44 true i 2 [(0,.agg [.int .i64 19,.int .i64 p0,.int .i64 0,.int .i64 0,.int .i64 r8]),(1,.agg [.int .i64 r9.Op,.int .i64 r9.Rd,.int .i64 r9.Rs,.int .i64 r9.Rt,.int .i64 r9.Imm])] σ=some (.fsl (encL rInstr ([(⟨19,p0,0,0,r8⟩:gInstr),r9]:List gInstr)),σ):=fun _ _=>rfl
  refine Sx tok [7] [4] (by intro K k;(repeat first|simp -dsimp -implicitDefEqProofs [q1]|refine(c88 hr9).app ?_);exact k) ?_
  obtain rfl:=oi H;exact AWP_ret ⟨_,rfl,4,by simp[encL_nil]⟩
theorem c84 {p0:Int} {pf0:gQuad} {r:(List gInstr)} (H:i_quadInstrs_1 p0 pf0=some r):APure Tryz.prog G 84 [.int .i64 p0,.fptr [.int .i64 pf0.Op,.int .i64 pf0.Dst,.int .i64 pf0.A,.int .i64 pf0.B,.int .i64 pf0.N] 0] (.fsl (encL rInstr r)):=by
 refine APure_fn (fun N0=>?_) (by simp)
 refine fnK tok Tryz.func84 Tryz.ntmps84 Tryz.results84 ?_
 simp only[argsA,Nat.reduceAdd,hp_next]
 unfold i_quadInstrs_1 at H
 refine S0 tok [] [0,1] ?_
 obtain⟨r1,hr1,H⟩:=bindE H
 refine Sx tok [] [3] (by intro K k;(repeat first|simp -dsimp -implicitDefEqProofs|refine(c85 hr1).app ?_);exact k) ?_
 obtain rfl:=oi H;exact AWP_ret ⟨_,rfl,4,by simp[encL_nil]⟩
theorem c91 {p0:gEmitter} {p1:(List gInstr)} {r:gEmitter} (H:i_emitter_emit p0 p1=some r) {σ:AHeap} {w0:Nat} {W0:List (List AV)} {r0_:Nat} (q0:σ.objs w0=some ⟨117,2,W0⟩) (g0:W0[r0_]? =some [.int .i64 p0.colors,.osl 103 5 (encL rInstr p0.list)]):ACalls Tryz.prog G 91 [.ptr w0 r0_ 0,.fsl (encL rInstr p1)] σ (fun v σ'=>∃M:Nat,σ.next≤M∧v=.tup []∧σ'=hp σ.objs [(w0,some ⟨117,2,W0.set r0_ [.int .i64 r.colors,.osl 103 5 (encL rInstr r.list)]⟩)] M):=by
 refine ACalls_fr (L:=[(w0,some ⟨117,2,W0⟩)]) (Q1:=fun v σ'=>∃M:Nat,σ.next≤M∧v=.tup []∧σ'=hp E0 [(w0,some ⟨117,2,W0.set r0_ [.int .i64 r.colors,.osl 103 5 (encL rInstr r.list)]⟩)] M) (by simp[q0]) (fun hlt=>?_) ?_ ⟨_,Tryz.func91,rfl,rfl⟩
 rotate_left
 ·rintro v σ1 ⟨M,h0,rfl,rfl⟩
  exact⟨_,M,rfl,by simp,by simp;try omega,M,h0,rfl,rfl⟩
 generalize σ.next=N0 at hlt ⊢
 have lw0:w0<N0:=hlt _ (.head _) rfl
 have gs_W0:∀x,(W0.set r0_ x)[r0_]? =some x:=gsetW g0
 rw[← set_same g0]
 refine fnK tok Tryz.func91 Tryz.ntmps91 Tryz.results91 ?_
 simp only[argsA,Nat.reduceAdd,hp_next]
 unfold i_emitter_emit at H
 refine AWP_end [] fun KE hKE=>?_
 refine gU AWP_ref w0 r0_ 1 ?_ (hr:=by exact gs_W0 _)
 obtain⟨l1,hl1,H⟩:=bindE H
 refine Rt tok [] [] (by
  intro K k
  have e0:=nQ w0 N0
  have e1:=nQ w0 (N0+7)
  simp -dsimp -implicitDefEqProofs [e0,e1,gs_W0,List.set_set,app44 hl1]
  exact k) fun a ha=>?_
 obtain rfl:=oi H
 refine hKE _ _ ?_;rw[ha]
 refine Rc.kp [] [] rfl ?_
 refine gP Rc_ref w0 r0_ 1 ?_ (hr:=by exact gs_W0 _)
 refine Rc.mk ?_
 refine⟨[],by simp[gs_W0],N0+11,by omega,?_,?_⟩
 ·simp[encL_nil]
 ·first|rfl|simp[List.set_set]
theorem c83_i_quadInstrs_1 {p0:gEmitter} {p1:Int} {p2_0:gQuad} {r:gEmitter} (H:i_emitter_write_i_quadInstrs_1 p0 p1 p2_0=some r) {σ:AHeap} {w0:Nat} {W0:List (List AV)} {r0_:Nat} (q0:σ.objs w0=some ⟨117,2,W0⟩) (g0:W0[r0_]? =some [.int .i64 p0.colors,.osl 103 5 (encL rInstr p0.list)]):ACalls Tryz.prog G 83 [.ptr w0 r0_ 0,.int .i64 p1,.clo 84 [] [.fptr [.int .i64 p2_0.Op,.int .i64 p2_0.Dst,.int .i64 p2_0.A,.int .i64 p2_0.B,.int .i64 p2_0.N] 0]] σ (fun v σ'=>∃M:Nat,σ.next≤M∧v=.tup []∧σ'=hp σ.objs [(w0,some ⟨117,2,W0.set r0_ [.int .i64 r.colors,.osl 103 5 (encL rInstr r.list)]⟩)] M):=by
 refine ACalls_fr (L:=[(w0,some ⟨117,2,W0⟩)]) (Q1:=fun v σ'=>∃M:Nat,σ.next≤M∧v=.tup []∧σ'=hp E0 [(w0,some ⟨117,2,W0.set r0_ [.int .i64 r.colors,.osl 103 5 (encL rInstr r.list)]⟩)] M) (by simp[q0]) (fun hlt=>?_) ?_ ⟨_,Tryz.func83,rfl,rfl⟩
 rotate_left
 ·rintro v σ1 ⟨M,h0,rfl,rfl⟩
  exact⟨_,M,rfl,by simp,by simp;try omega,M,h0,rfl,rfl⟩
 generalize σ.next=N0 at hlt ⊢
 have lw0:w0<N0:=hlt _ (.head _) rfl
 have gs_W0:∀x,(W0.set r0_ x)[r0_]? =some x:=gsetW g0
 rw[← set_same g0]
 refine fnK tok Tryz.func83 Tryz.ntmps83 Tryz.results83 ?_
 simp only[argsA,Nat.reduceAdd,hp_next]
 unfold i_emitter_write_i_quadInstrs_1 at H
 refine AWP_end [] fun KE hKE=>?_
 refine AWP_sq [0,1,2] fun K1 hK1=>?_
 refine Sx tok [] [0,1,2,11] (by intro K k;simp -dsimp -implicitDefEqProofs [gs_W0,List.set_set];exact k) ?_
 refine Cd (fun C1=>?_) fun C1=>?_
 ·replace H:=ifT C1 H
  obtain⟨v1,hv1,H⟩:=bindE H
  obtain⟨r2,hr2,H⟩:=bindE H
  obtain⟨r3,hr3,H⟩:=bindE H
  refine AWP_sr tok [] [] (fun a σ=>∃M1:Nat,N0+13≤M1∧a=[]∧σ=hp E0 [(w0,some ⟨117,2,W0.set r0_ [.int .i64 r3.colors,.osl 103 5 (encL rInstr r3.list)]⟩)] M1) (fun K hK=>?_) ?_
  ·skip
   simp -dsimp -implicitDefEqProofs [gs_W0,List.set_set,gx141 hv1]
   refine(c84 hr2).app ?_;try simp -dsimp -implicitDefEqProofs [gs_W0,List.set_set,gx141 hv1]
   refine(c91 (W0:=W0.set r0_ [.int .i64 p0.colors,.osl 103 5 (encL rInstr p0.list)]) (r0_:=r0_) (H:=hr3) (by simp[gs_W0,List.set_set,gx141 hv1]) (by simp[gs_W0,List.set_set,gx141 hv1])).mono ?_;rintro _ _ ⟨M1,fM1_0,rfl,rfl⟩;simp only[hp_next] at fM1_0
   try simp -dsimp -implicitDefEqProofs [gs_W0,List.set_set,gx141 hv1,hp_over_some,hp_over_none]
   exact hK _ _ ⟨M1,(by omega),rfl,rfl⟩
  rintro a σ ⟨M1,fM1_0,rfl,rfl⟩
  obtain rfl:=oi H
  refine Kp [] ?_
  refine AWP_ret ?_
  refine⟨[],by simp[gs_W0],M1,by omega,?_,?_⟩
  ·simp[encL_nil]
  ·first|rfl|simp[List.set_set]
 ·replace H:=ifF C1 H
  refine AWP_skip (Jn hK1 ?_)
  obtain⟨r4,hr4,H⟩:=bindE H
  obtain⟨r5,hr5,H⟩:=bindE H
  refine AWP_sr tok [] [0,1] (fun a σ=>∃M2:Nat,N0+10≤M2∧a=[(0,.ptr w0 r0_ 0),(1,.int .i64 p1)]∧σ=hp E0 [(w0,some ⟨117,2,W0.set r0_ [.int .i64 r5.colors,.osl 103 5 (encL rInstr r5.list)]⟩)] M2) (fun K hK=>?_) ?_
  ·skip
   simp -dsimp -implicitDefEqProofs [gs_W0,List.set_set]
   refine(c84 hr4).app ?_;try simp -dsimp -implicitDefEqProofs [gs_W0,List.set_set]
   refine(c91 (W0:=W0.set r0_ [.int .i64 p0.colors,.osl 103 5 (encL rInstr p0.list)]) (r0_:=r0_) (H:=hr5) (by simp[gs_W0,List.set_set]) (by simp[gs_W0,List.set_set])).mono ?_;rintro _ _ ⟨M2,fM2_0,rfl,rfl⟩;simp only[hp_next] at fM2_0
   try simp -dsimp -implicitDefEqProofs [gs_W0,List.set_set,hp_over_some,hp_over_none]
   exact hK _ _ ⟨M2,(by omega),rfl,rfl⟩
  rintro a σ ⟨M2,fM2_0,rfl,rfl⟩
  obtain⟨r6,hr6,H⟩:=bindE H
  have q0:∀σ i,buildSliceA T 44 true i 1 [(0,.agg [.int .i64 16,.int .i64 0,.int .i64 2,.int .i64 7,.int .i64 (imul .i64 4 (isub .i64 p1 r5.colors))])] σ=some (.fsl (encL rInstr ([(⟨16,0,2,7,imul .i64 4 (isub .i64 p1 r5.colors)⟩:gInstr)]:List gInstr)),σ):=fun _ _=>rfl
  refine AWP_rt tok [9] [] (fun a σ=>∃M3:Nat,M2+11≤M3∧a=[]∧σ=hp E0 [(w0,some ⟨117,2,W0.set r0_ [.int .i64 r6.colors,.osl 103 5 (encL rInstr r6.list)]⟩)] M3) (fun K hK=>?_) ?_
  ·skip
   simp -dsimp -implicitDefEqProofs [gs_W0,List.set_set,q0]
   refine(c91 (W0:=W0.set r0_ [.int .i64 r5.colors,.osl 103 5 (encL rInstr r5.list)]) (r0_:=r0_) (H:=hr6) (by simp[gs_W0,List.set_set,q0]) (by simp[gs_W0,List.set_set,q0])).mono ?_;rintro _ _ ⟨M3,fM3_0,rfl,rfl⟩;simp only[hp_next] at fM3_0
   try simp -dsimp -implicitDefEqProofs [gs_W0,List.set_set,q0,hp_over_some,hp_over_none]
   exact hK _ _ ⟨M3,(by omega),rfl,rfl⟩
  rintro a σ ⟨M3,fM3_0,ha,rfl⟩
  obtain rfl:=oi H
  refine hKE _ _ ?_;rw[ha]
  refine Rc.kp [] [] rfl ?_
  refine Rc.mk ?_
  refine⟨[],by simp[gs_W0],M3,by omega,?_,?_⟩
  ·simp[encL_nil]
  ·first|rfl|simp[List.set_set]
theorem c86 {p0:gEmitter} {p1:Int} {p2:Int} {r:Int×gEmitter} (H:i_emitter_read p0 p1 p2=some r) {σ:AHeap} {w0:Nat} {W0:List (List AV)} {r0_:Nat} (q0:σ.objs w0=some ⟨117,2,W0⟩) (g0:W0[r0_]? =some [.int .i64 p0.colors,.osl 103 5 (encL rInstr p0.list)]):ACalls Tryz.prog G 86 [.ptr w0 r0_ 0,.int .i64 p1,.int .i64 p2] σ (fun v σ'=>∃M:Nat,σ.next≤M∧v=.int .i64 r.1∧σ'=hp σ.objs [(w0,some ⟨117,2,W0.set r0_ [.int .i64 r.2.colors,.osl 103 5 (encL rInstr r.2.list)]⟩)] M):=by
 refine ACalls_fr (L:=[(w0,some ⟨117,2,W0⟩)]) (Q1:=fun v σ'=>∃M:Nat,σ.next≤M∧v=.int .i64 r.1∧σ'=hp E0 [(w0,some ⟨117,2,W0.set r0_ [.int .i64 r.2.colors,.osl 103 5 (encL rInstr r.2.list)]⟩)] M) (by simp[q0]) (fun hlt=>?_) ?_ ⟨_,Tryz.func86,rfl,rfl⟩
 rotate_left
 ·rintro v σ1 ⟨M,h0,rfl,rfl⟩
  exact⟨_,M,rfl,by simp,by simp;try omega,M,h0,rfl,rfl⟩
 generalize σ.next=N0 at hlt ⊢
 have lw0:w0<N0:=hlt _ (.head _) rfl
 have gs_W0:∀x,(W0.set r0_ x)[r0_]? =some x:=gsetW g0
 rw[← set_same g0]
 refine fnK tok Tryz.func86 Tryz.ntmps86 Tryz.results86 ?_
 simp only[argsA,Nat.reduceAdd,hp_next]
 unfold i_emitter_read at H
 refine Sx tok [] [0,1,2] (by intro K k;simp -dsimp -implicitDefEqProofs [gs_W0,List.set_set];exact k) ?_
 refine AWP_sq [0,1,2] fun K1 hK1=>?_
 refine Sx tok [] [0,1,2,12] (by intro K k;simp -dsimp -implicitDefEqProofs [gs_W0,List.set_set];exact k) ?_
 refine Cd (fun C1=>?_) fun C1=>?_
 ·replace H:=ifT C1 H
  obtain⟨v1,hv1,H⟩:=bindE H
  refine Sx tok [] [6] (by intro K k;simp -dsimp -implicitDefEqProofs [gs_W0,List.set_set,gx141 hv1];exact k) ?_
  obtain rfl:=oi H
  refine Kp [6] ?_
  refine AWP_ret ?_
  refine⟨[.int .i64 v1],by simp[gs_W0],N0+11,by omega,?_,?_⟩
  ·simp[encL_nil]
  ·first|rfl|simp[List.set_set]
 ·replace H:=ifF C1 H
  refine AWP_skip (Jn hK1 ?_)
  obtain⟨r2,hr2,H⟩:=bindE H
  have q0:∀σ i,buildSliceA T 44 true i 1 [(0,.agg [.int .i64 14,.int .i64 p2,.int .i64 2,.int .i64 0,.int .i64 (imul .i64 4 (isub .i64 p1 p0.colors))])] σ=some (.fsl (encL rInstr ([(⟨14,p2,2,0,imul .i64 4 (isub .i64 p1 p0.colors)⟩:gInstr)]:List gInstr)),σ):=fun _ _=>rfl
  refine AWP_sr tok [10] [2] (fun a σ=>∃M1:Nat,N0+19≤M1∧a=[(2,.int .i64 p2)]∧σ=hp E0 [(w0,some ⟨117,2,W0.set r0_ [.int .i64 r2.colors,.osl 103 5 (encL rInstr r2.list)]⟩)] M1) (fun K hK=>?_) ?_
  ·skip
   simp -dsimp -implicitDefEqProofs [gs_W0,List.set_set,q0]
   refine(c91 (W0:=W0.set r0_ [.int .i64 p0.colors,.osl 103 5 (encL rInstr p0.list)]) (r0_:=r0_) (H:=hr2) (by simp[gs_W0,List.set_set,q0]) (by simp[gs_W0,List.set_set,q0])).mono ?_;rintro _ _ ⟨M1,fM1_0,rfl,rfl⟩;simp only[hp_next] at fM1_0
   try simp -dsimp -implicitDefEqProofs [gs_W0,List.set_set,q0,hp_over_some,hp_over_none]
   exact hK _ _ ⟨M1,(by omega),rfl,rfl⟩
  rintro a σ ⟨M1,fM1_0,rfl,rfl⟩
  refine Sx tok [] [6] (by intro K k;simp -dsimp -implicitDefEqProofs [gs_W0,List.set_set];exact k) ?_
  obtain rfl:=oi H
  refine Kp [6] ?_
  refine AWP_ret ?_
  refine⟨[.int .i64 p2],by simp[gs_W0],M1+2,by omega,?_,?_⟩
  ·simp[encL_nil]
  ·first|rfl|simp[List.set_set]
theorem c87 {p0:Int} {pf0:Int} {r:(List gInstr)} (H:i_quadInstrs_2 p0 pf0=some r):APure Tryz.prog G 87 [.int .i64 p0,.fptr [.int .i64 pf0] 0] (.fsl (encL rInstr r)):=by
 refine APure_fn (fun N0=>?_) (by simp)
 refine fnK tok Tryz.func87 Tryz.ntmps87 Tryz.results87 ?_
 simp only[argsA,Nat.reduceAdd,hp_next]
 unfold i_quadInstrs_2 at H
 refine S0 tok [] [0,1] ?_
 obtain⟨r1,hr1,H⟩:=bindE H
 have q0:∀σ i,buildSliceA T 44 true i 1 [(0,.agg [.int .i64 r1.Op,.int .i64 r1.Rd,.int .i64 r1.Rs,.int .i64 r1.Rt,.int .i64 r1.Imm])] σ=some (.fsl (encL rInstr ([r1]:List gInstr)),σ):=fun _ _=>rfl
 refine Sx tok [3] [3] (by intro K k;(repeat first|simp -dsimp -implicitDefEqProofs [q0]|refine(c88 hr1).app ?_);exact k) ?_
 obtain rfl:=oi H;exact AWP_ret ⟨_,rfl,4,by simp[encL_nil]⟩
theorem c83_i_quadInstrs_2 {p0:gEmitter} {p1:Int} {p2_0:Int} {r:gEmitter} (H:i_emitter_write_i_quadInstrs_2 p0 p1 p2_0=some r) {σ:AHeap} {w0:Nat} {W0:List (List AV)} {r0_:Nat} (q0:σ.objs w0=some ⟨117,2,W0⟩) (g0:W0[r0_]? =some [.int .i64 p0.colors,.osl 103 5 (encL rInstr p0.list)]):ACalls Tryz.prog G 83 [.ptr w0 r0_ 0,.int .i64 p1,.clo 87 [] [.fptr [.int .i64 p2_0] 0]] σ (fun v σ'=>∃M:Nat,σ.next≤M∧v=.tup []∧σ'=hp σ.objs [(w0,some ⟨117,2,W0.set r0_ [.int .i64 r.colors,.osl 103 5 (encL rInstr r.list)]⟩)] M):=by
 refine ACalls_fr (L:=[(w0,some ⟨117,2,W0⟩)]) (Q1:=fun v σ'=>∃M:Nat,σ.next≤M∧v=.tup []∧σ'=hp E0 [(w0,some ⟨117,2,W0.set r0_ [.int .i64 r.colors,.osl 103 5 (encL rInstr r.list)]⟩)] M) (by simp[q0]) (fun hlt=>?_) ?_ ⟨_,Tryz.func83,rfl,rfl⟩
 rotate_left
 ·rintro v σ1 ⟨M,h0,rfl,rfl⟩
  exact⟨_,M,rfl,by simp,by simp;try omega,M,h0,rfl,rfl⟩
 generalize σ.next=N0 at hlt ⊢
 have lw0:w0<N0:=hlt _ (.head _) rfl
 have gs_W0:∀x,(W0.set r0_ x)[r0_]? =some x:=gsetW g0
 rw[← set_same g0]
 refine fnK tok Tryz.func83 Tryz.ntmps83 Tryz.results83 ?_
 simp only[argsA,Nat.reduceAdd,hp_next]
 unfold i_emitter_write_i_quadInstrs_2 at H
 refine AWP_end [] fun KE hKE=>?_
 refine AWP_sq [0,1,2] fun K1 hK1=>?_
 refine Sx tok [] [0,1,2,11] (by intro K k;simp -dsimp -implicitDefEqProofs [gs_W0,List.set_set];exact k) ?_
 refine Cd (fun C1=>?_) fun C1=>?_
 ·replace H:=ifT C1 H
  obtain⟨v1,hv1,H⟩:=bindE H
  obtain⟨r2,hr2,H⟩:=bindE H
  obtain⟨r3,hr3,H⟩:=bindE H
  refine AWP_sr tok [] [] (fun a σ=>∃M1:Nat,N0+13≤M1∧a=[]∧σ=hp E0 [(w0,some ⟨117,2,W0.set r0_ [.int .i64 r3.colors,.osl 103 5 (encL rInstr r3.list)]⟩)] M1) (fun K hK=>?_) ?_
  ·skip
   simp -dsimp -implicitDefEqProofs [gs_W0,List.set_set,gx141 hv1]
   refine(c87 hr2).app ?_;try simp -dsimp -implicitDefEqProofs [gs_W0,List.set_set,gx141 hv1]
   refine(c91 (W0:=W0.set r0_ [.int .i64 p0.colors,.osl 103 5 (encL rInstr p0.list)]) (r0_:=r0_) (H:=hr3) (by simp[gs_W0,List.set_set,gx141 hv1]) (by simp[gs_W0,List.set_set,gx141 hv1])).mono ?_;rintro _ _ ⟨M1,fM1_0,rfl,rfl⟩;simp only[hp_next] at fM1_0
   try simp -dsimp -implicitDefEqProofs [gs_W0,List.set_set,gx141 hv1,hp_over_some,hp_over_none]
   exact hK _ _ ⟨M1,(by omega),rfl,rfl⟩
  rintro a σ ⟨M1,fM1_0,rfl,rfl⟩
  obtain rfl:=oi H
  refine Kp [] ?_
  refine AWP_ret ?_
  refine⟨[],by simp[gs_W0],M1,by omega,?_,?_⟩
  ·simp[encL_nil]
  ·first|rfl|simp[List.set_set]
 ·replace H:=ifF C1 H
  refine AWP_skip (Jn hK1 ?_)
  obtain⟨r4,hr4,H⟩:=bindE H
  obtain⟨r5,hr5,H⟩:=bindE H
  refine AWP_sr tok [] [0,1] (fun a σ=>∃M2:Nat,N0+10≤M2∧a=[(0,.ptr w0 r0_ 0),(1,.int .i64 p1)]∧σ=hp E0 [(w0,some ⟨117,2,W0.set r0_ [.int .i64 r5.colors,.osl 103 5 (encL rInstr r5.list)]⟩)] M2) (fun K hK=>?_) ?_
  ·skip
   simp -dsimp -implicitDefEqProofs [gs_W0,List.set_set]
   refine(c87 hr4).app ?_;try simp -dsimp -implicitDefEqProofs [gs_W0,List.set_set]
   refine(c91 (W0:=W0.set r0_ [.int .i64 p0.colors,.osl 103 5 (encL rInstr p0.list)]) (r0_:=r0_) (H:=hr5) (by simp[gs_W0,List.set_set]) (by simp[gs_W0,List.set_set])).mono ?_;rintro _ _ ⟨M2,fM2_0,rfl,rfl⟩;simp only[hp_next] at fM2_0
   try simp -dsimp -implicitDefEqProofs [gs_W0,List.set_set,hp_over_some,hp_over_none]
   exact hK _ _ ⟨M2,(by omega),rfl,rfl⟩
  rintro a σ ⟨M2,fM2_0,rfl,rfl⟩
  obtain⟨r6,hr6,H⟩:=bindE H
  have q0:∀σ i,buildSliceA T 44 true i 1 [(0,.agg [.int .i64 16,.int .i64 0,.int .i64 2,.int .i64 7,.int .i64 (imul .i64 4 (isub .i64 p1 r5.colors))])] σ=some (.fsl (encL rInstr ([(⟨16,0,2,7,imul .i64 4 (isub .i64 p1 r5.colors)⟩:gInstr)]:List gInstr)),σ):=fun _ _=>rfl
  refine AWP_rt tok [9] [] (fun a σ=>∃M3:Nat,M2+11≤M3∧a=[]∧σ=hp E0 [(w0,some ⟨117,2,W0.set r0_ [.int .i64 r6.colors,.osl 103 5 (encL rInstr r6.list)]⟩)] M3) (fun K hK=>?_) ?_
  ·skip
   simp -dsimp -implicitDefEqProofs [gs_W0,List.set_set,q0]
   refine(c91 (W0:=W0.set r0_ [.int .i64 r5.colors,.osl 103 5 (encL rInstr r5.list)]) (r0_:=r0_) (H:=hr6) (by simp[gs_W0,List.set_set,q0]) (by simp[gs_W0,List.set_set,q0])).mono ?_;rintro _ _ ⟨M3,fM3_0,rfl,rfl⟩;simp only[hp_next] at fM3_0
   try simp -dsimp -implicitDefEqProofs [gs_W0,List.set_set,q0,hp_over_some,hp_over_none]
   exact hK _ _ ⟨M3,(by omega),rfl,rfl⟩
  rintro a σ ⟨M3,fM3_0,ha,rfl⟩
  obtain rfl:=oi H
  refine hKE _ _ ?_;rw[ha]
  refine Rc.kp [] [] rfl ?_
  refine Rc.mk ?_
  refine⟨[],by simp[gs_W0],M3,by omega,?_,?_⟩
  ·simp[encL_nil]
  ·first|rfl|simp[List.set_set]
theorem c89 {p0:Int} {pf0:gQuad} {pf1:Int} {pf2:Int} {r:(List gInstr)} (H:i_quadInstrs_3 p0 pf0 pf1 pf2=some r):APure Tryz.prog G 89 [.int .i64 p0,.fptr [.int .i64 pf0.Op,.int .i64 pf0.Dst,.int .i64 pf0.A,.int .i64 pf0.B,.int .i64 pf0.N] 0,.fptr [.int .i64 pf1] 0,.fptr [.int .i64 pf2] 0] (.fsl (encL rInstr r)):=by
 refine APure_fn (fun N0=>?_) (by simp)
 refine fnK tok Tryz.func89 Tryz.ntmps89 Tryz.results89 ?_
 simp only[argsA,Nat.reduceAdd,hp_next]
 unfold i_quadInstrs_3 at H
 refine S0 tok [] [0,1,2,3] ?_
 obtain⟨v1,hv1,H⟩:=bindE H
 obtain⟨l2,hl2,H⟩:=bindE H
 have q0:∀σ i,buildSliceA T 44 false i 1 [(0,.agg [.int .i64 v1,.int .i64 p0,.int .i64 pf1,.int .i64 pf2,.int .i64 0])] σ=some (.sl i 0 (List.length l2),σ.put i ⟨103,5,encL rInstr l2⟩):=by rw[← Option.some.inj hl2];exact fun _ _=>rfl
 refine Sd tok tokM [] [9] [0,1,2,3,4,5,6,7,8,9,10] [0,1,6] (by
  intro K k
  simp only[pickL,nthO_succ,nthO_zero]
  simp -dsimp -implicitDefEqProofs [gx123 hv1,q0]
  exact k) ?_
 refine AWP_sq [6] fun K1 hK1=>?_
 refine S0 tok [] [0,6,19] ?_
 refine Cd (fun C1=>?_) fun C1=>?_
 ·replace H:=ifT C1 H
  obtain⟨l3,hl3,H⟩:=bindE H
  have q1:∀σ i,buildSliceA T 44 true i 1 [(0,.agg [.int .i64 13,.int .i64 p0,.int .i64 p0,.int .i64 0,.int .i64 1])] σ=some (.fsl (encL rInstr ([(⟨13,p0,p0,0,1⟩:gInstr)]:List gInstr)),σ):=fun _ _=>rfl
  refine Rt tok [4] [6] (by intro K k;simp -dsimp -implicitDefEqProofs [q1,app44 hl3];exact k) fun a ha=>?_
  refine hK1 _ _ ?_;rw[ha]
  refine gFrz Rc_ref 4 [N0+20] [] [(6,.fsl (encL rInstr l3))] (by simp) (cutD (by simp)) ?_
  refine Rc.mk ?_
  refine S0 tok [] [5] ?_
  obtain rfl:=oi H;exact AWP_ret ⟨_,rfl,4,by simp[encL_nil]⟩
 ·replace H:=ifF C1 H
  refine AWP_skip (Jn hK1 ?_)
  refine S0 tok [] [5] ?_
  obtain rfl:=oi H;exact AWP_ret ⟨_,rfl,4,by simp[encL_nil]⟩
theorem c83_i_quadInstrs_3 {p0:gEmitter} {p1:Int} {p2_0:gQuad} {p2_1:Int} {p2_2:Int} {r:gEmitter} (H:i_emitter_write_i_quadInstrs_3 p0 p1 p2_0 p2_1 p2_2=some r) {σ:AHeap} {w0:Nat} {W0:List (List AV)} {r0_:Nat} (q0:σ.objs w0=some ⟨117,2,W0⟩) (g0:W0[r0_]? =some [.int .i64 p0.colors,.osl 103 5 (encL rInstr p0.list)]):ACalls Tryz.prog G 83 [.ptr w0 r0_ 0,.int .i64 p1,.clo 89 [] [.fptr [.int .i64 p2_0.Op,.int .i64 p2_0.Dst,.int .i64 p2_0.A,.int .i64 p2_0.B,.int .i64 p2_0.N] 0,.fptr [.int .i64 p2_1] 0,.fptr [.int .i64 p2_2] 0]] σ (fun v σ'=>∃M:Nat,σ.next≤M∧v=.tup []∧σ'=hp σ.objs [(w0,some ⟨117,2,W0.set r0_ [.int .i64 r.colors,.osl 103 5 (encL rInstr r.list)]⟩)] M):=by
 refine ACalls_fr (L:=[(w0,some ⟨117,2,W0⟩)]) (Q1:=fun v σ'=>∃M:Nat,σ.next≤M∧v=.tup []∧σ'=hp E0 [(w0,some ⟨117,2,W0.set r0_ [.int .i64 r.colors,.osl 103 5 (encL rInstr r.list)]⟩)] M) (by simp[q0]) (fun hlt=>?_) ?_ ⟨_,Tryz.func83,rfl,rfl⟩
 rotate_left
 ·rintro v σ1 ⟨M,h0,rfl,rfl⟩
  exact⟨_,M,rfl,by simp,by simp;try omega,M,h0,rfl,rfl⟩
 generalize σ.next=N0 at hlt ⊢
 have lw0:w0<N0:=hlt _ (.head _) rfl
 have gs_W0:∀x,(W0.set r0_ x)[r0_]? =some x:=gsetW g0
 rw[← set_same g0]
 refine fnK tok Tryz.func83 Tryz.ntmps83 Tryz.results83 ?_
 simp only[argsA,Nat.reduceAdd,hp_next]
 unfold i_emitter_write_i_quadInstrs_3 at H
 refine AWP_end [] fun KE hKE=>?_
 refine AWP_sq [0,1,2] fun K1 hK1=>?_
 refine Sx tok [] [0,1,2,11] (by intro K k;simp -dsimp -implicitDefEqProofs [gs_W0,List.set_set];exact k) ?_
 refine Cd (fun C1=>?_) fun C1=>?_
 ·replace H:=ifT C1 H
  obtain⟨v1,hv1,H⟩:=bindE H
  obtain⟨r2,hr2,H⟩:=bindE H
  obtain⟨r3,hr3,H⟩:=bindE H
  refine AWP_sr tok [] [] (fun a σ=>∃M1:Nat,N0+13≤M1∧a=[]∧σ=hp E0 [(w0,some ⟨117,2,W0.set r0_ [.int .i64 r3.colors,.osl 103 5 (encL rInstr r3.list)]⟩)] M1) (fun K hK=>?_) ?_
  ·skip
   simp -dsimp -implicitDefEqProofs [gs_W0,List.set_set,gx141 hv1]
   refine(c89 hr2).app ?_;try simp -dsimp -implicitDefEqProofs [gs_W0,List.set_set,gx141 hv1]
   refine(c91 (W0:=W0.set r0_ [.int .i64 p0.colors,.osl 103 5 (encL rInstr p0.list)]) (r0_:=r0_) (H:=hr3) (by simp[gs_W0,List.set_set,gx141 hv1]) (by simp[gs_W0,List.set_set,gx141 hv1])).mono ?_;rintro _ _ ⟨M1,fM1_0,rfl,rfl⟩;simp only[hp_next] at fM1_0
   try simp -dsimp -implicitDefEqProofs [gs_W0,List.set_set,gx141 hv1,hp_over_some,hp_over_none]
   exact hK _ _ ⟨M1,(by omega),rfl,rfl⟩
  rintro a σ ⟨M1,fM1_0,rfl,rfl⟩
  obtain rfl:=oi H
  refine Kp [] ?_
  refine AWP_ret ?_
  refine⟨[],by simp[gs_W0],M1,by omega,?_,?_⟩
  ·simp[encL_nil]
  ·first|rfl|simp[List.set_set]
 ·replace H:=ifF C1 H
  refine AWP_skip (Jn hK1 ?_)
  obtain⟨r4,hr4,H⟩:=bindE H
  obtain⟨r5,hr5,H⟩:=bindE H
  refine AWP_sr tok [] [0,1] (fun a σ=>∃M2:Nat,N0+10≤M2∧a=[(0,.ptr w0 r0_ 0),(1,.int .i64 p1)]∧σ=hp E0 [(w0,some ⟨117,2,W0.set r0_ [.int .i64 r5.colors,.osl 103 5 (encL rInstr r5.list)]⟩)] M2) (fun K hK=>?_) ?_
  ·skip
   simp -dsimp -implicitDefEqProofs [gs_W0,List.set_set]
   refine(c89 hr4).app ?_;try simp -dsimp -implicitDefEqProofs [gs_W0,List.set_set]
   refine(c91 (W0:=W0.set r0_ [.int .i64 p0.colors,.osl 103 5 (encL rInstr p0.list)]) (r0_:=r0_) (H:=hr5) (by simp[gs_W0,List.set_set]) (by simp[gs_W0,List.set_set])).mono ?_;rintro _ _ ⟨M2,fM2_0,rfl,rfl⟩;simp only[hp_next] at fM2_0
   try simp -dsimp -implicitDefEqProofs [gs_W0,List.set_set,hp_over_some,hp_over_none]
   exact hK _ _ ⟨M2,(by omega),rfl,rfl⟩
  rintro a σ ⟨M2,fM2_0,rfl,rfl⟩
  obtain⟨r6,hr6,H⟩:=bindE H
  have q0:∀σ i,buildSliceA T 44 true i 1 [(0,.agg [.int .i64 16,.int .i64 0,.int .i64 2,.int .i64 7,.int .i64 (imul .i64 4 (isub .i64 p1 r5.colors))])] σ=some (.fsl (encL rInstr ([(⟨16,0,2,7,imul .i64 4 (isub .i64 p1 r5.colors)⟩:gInstr)]:List gInstr)),σ):=fun _ _=>rfl
  refine AWP_rt tok [9] [] (fun a σ=>∃M3:Nat,M2+11≤M3∧a=[]∧σ=hp E0 [(w0,some ⟨117,2,W0.set r0_ [.int .i64 r6.colors,.osl 103 5 (encL rInstr r6.list)]⟩)] M3) (fun K hK=>?_) ?_
  ·skip
   simp -dsimp -implicitDefEqProofs [gs_W0,List.set_set,q0]
   refine(c91 (W0:=W0.set r0_ [.int .i64 r5.colors,.osl 103 5 (encL rInstr r5.list)]) (r0_:=r0_) (H:=hr6) (by simp[gs_W0,List.set_set,q0]) (by simp[gs_W0,List.set_set,q0])).mono ?_;rintro _ _ ⟨M3,fM3_0,rfl,rfl⟩;simp only[hp_next] at fM3_0
   try simp -dsimp -implicitDefEqProofs [gs_W0,List.set_set,q0,hp_over_some,hp_over_none]
   exact hK _ _ ⟨M3,(by omega),rfl,rfl⟩
  rintro a σ ⟨M3,fM3_0,ha,rfl⟩
  obtain rfl:=oi H
  refine hKE _ _ ?_;rw[ha]
  refine Rc.kp [] [] rfl ?_
  refine Rc.mk ?_
  refine⟨[],by simp[gs_W0],M3,by omega,?_,?_⟩
  ·simp[encL_nil]
  ·first|rfl|simp[List.set_set]
theorem c91_c0_1 {p0:gEmitter} {p1:(List gInstr)} {r:gEmitter} (H:i_emitter_emit_c0_1 p0 p1=some r) {σ:AHeap} {w0:Nat} {W0:List (List AV)} {r0_:Nat} {w0c1:Nat} (q0:σ.objs w0=some ⟨117,2,W0⟩) (g0:W0[r0_]? =some [.int .i64 p0.colors,.sl w0c1 0 p0.list.length]) (q0c1:σ.objs w0c1=some ⟨103,5,encL rInstr p0.list⟩) (d0_1:¬w0=w0c1):ACalls Tryz.prog G 91 [.ptr w0 r0_ 0,.fsl (encL rInstr p1)] σ (fun v σ'=>∃M:Nat,σ.next≤M∧v=.tup []∧σ'=hp σ.objs [(w0,some ⟨117,2,W0.set r0_ [.int .i64 r.colors,.osl 103 5 (encL rInstr r.list)]⟩),(w0c1,none)] M):=by
 refine ACalls_fr (L:=[(w0,some ⟨117,2,W0⟩),(w0c1,some ⟨103,5,encL rInstr p0.list⟩)]) (Q1:=fun v σ'=>∃M:Nat,σ.next≤M∧v=.tup []∧σ'=hp E0 [(w0,some ⟨117,2,W0.set r0_ [.int .i64 r.colors,.osl 103 5 (encL rInstr r.list)]⟩),(w0c1,none)] M) (by simp[q0,q0c1]) (fun hlt=>?_) ?_ ⟨_,Tryz.func91,rfl,rfl⟩
 rotate_left
 ·rintro v σ1 ⟨M,h0,rfl,rfl⟩
  exact⟨_,M,rfl,by simp,by simp;try omega,M,h0,rfl,rfl⟩
 generalize σ.next=N0 at hlt ⊢
 have lw0:w0<N0:=hlt _ (.head _) rfl
 have lw0c1:w0c1<N0:=hlt _ (.tail _ (.head _)) rfl
 have gs_W0:∀x,(W0.set r0_ x)[r0_]? =some x:=gsetW g0
 rw[← set_same g0]
 refine fnK tok Tryz.func91 Tryz.ntmps91 Tryz.results91 ?_
 simp only[argsA,Nat.reduceAdd,hp_next]
 unfold i_emitter_emit_c0_1 at H
 refine AWP_end [] fun KE hKE=>?_
 obtain⟨l1,hl1,H⟩:=bindE H
 refine Rt tok [] [] (by
  intro K k
  have e0:=nQ w0 w0c1
  have e1:=nQ w0 (N0+6)
  have e2:=nQ w0c1 (N0+6)
  simp -dsimp -implicitDefEqProofs [e0,e1,e2,gs_W0,List.set_set,app44 hl1]
  exact k) fun a ha=>?_
 obtain rfl:=oi H
 refine hKE _ _ ?_;rw[ha]
 refine Rc.kp [] [] rfl ?_
 refine gP Rc_ref w0 r0_ 1 ?_ (hr:=by exact gs_W0 _)
 refine Rc.mk ?_
 refine⟨[],by simp[gs_W0],N0+10,by omega,?_,?_⟩
 ·simp[encL_nil]
 ·symm;first|exact hp_tail (L:=[(w0,some ⟨117,2,W0.set r0_ [.int .i64 p0.colors,.osl 103 5 (encL rInstr l1)]⟩)])|(simp only[List.set_set];exact hp_tail (L:=[(w0,some ⟨117,2,W0.set r0_ [.int .i64 p0.colors,.osl 103 5 (encL rInstr l1)]⟩)]))
theorem c90 {p0:gEmitter} {p1:Int} {r:gEmitter} (H:i_emitter_jump p0 p1=some r) {σ:AHeap} {w0:Nat} {W0:List (List AV)} {r0_:Nat} (q0:σ.objs w0=some ⟨117,2,W0⟩) (g0:W0[r0_]? =some [.int .i64 p0.colors,.osl 103 5 (encL rInstr p0.list)]):ACalls Tryz.prog G 90 [.ptr w0 r0_ 0,.int .i64 p1] σ (fun v σ'=>∃M:Nat,σ.next≤M∧v=.tup []∧σ'=hp σ.objs [(w0,some ⟨117,2,W0.set r0_ [.int .i64 r.colors,.osl 103 5 (encL rInstr r.list)]⟩)] M):=by
 refine ACalls_fr (L:=[(w0,some ⟨117,2,W0⟩)]) (Q1:=fun v σ'=>∃M:Nat,σ.next≤M∧v=.tup []∧σ'=hp E0 [(w0,some ⟨117,2,W0.set r0_ [.int .i64 r.colors,.osl 103 5 (encL rInstr r.list)]⟩)] M) (by simp[q0]) (fun hlt=>?_) ?_ ⟨_,Tryz.func90,rfl,rfl⟩
 rotate_left
 ·rintro v σ1 ⟨M,h0,rfl,rfl⟩
  exact⟨_,M,rfl,by simp,by simp;try omega,M,h0,rfl,rfl⟩
 generalize σ.next=N0 at hlt ⊢
 have lw0:w0<N0:=hlt _ (.head _) rfl
 have gs_W0:∀x,(W0.set r0_ x)[r0_]? =some x:=gsetW g0
 rw[← set_same g0]
 refine fnK tok Tryz.func90 Tryz.ntmps90 Tryz.results90 ?_
 simp only[argsA,Nat.reduceAdd,hp_next]
 unfold i_emitter_jump at H
 refine AWP_end [] fun KE hKE=>?_
 refine gU AWP_ref w0 r0_ 1 ?_ (hr:=by exact gs_W0 _)
 obtain⟨r1,hr1,H⟩:=bindE H
 have q0:∀σ i,buildSliceA T 44 true i 1 [(0,.agg [.int .i64 20,.int .i64 0,.int .i64 0,.int .i64 0,.int .i64 (isub .i64 p1 (imul .i64 4 (ilen p0.list)))])] σ=some (.fsl (encL rInstr ([(⟨20,0,0,0,isub .i64 p1 (imul .i64 4 (ilen p0.list))⟩:gInstr)]:List gInstr)),σ):=fun _ _=>rfl
 refine AWP_rt tok [10] [] (fun a σ=>∃M1:Nat,N0+13≤M1∧a=[]∧σ=hp E0 [(w0,some ⟨117,2,W0.set r0_ [.int .i64 r1.colors,.osl 103 5 (encL rInstr r1.list)]⟩)] M1) (fun K hK=>?_) ?_
 ·skip
  have e0:=nQ w0 N0
  simp -dsimp -implicitDefEqProofs [e0,gs_W0,List.set_set,q0]
  refine(c91_c0_1 (w0c1:=N0) (W0:=W0.set r0_ [.int .i64 p0.colors,.sl N0 0 p0.list.length]) (r0_:=r0_) (H:=hr1) (by simp[e0,gs_W0,List.set_set,q0]) (by simp[e0,gs_W0,List.set_set,q0]) (by simp[e0,gs_W0,List.set_set,q0]) (by simp[e0,gs_W0,List.set_set,q0])).mono ?_;rintro _ _ ⟨M1,fM1_0,rfl,rfl⟩;simp only[hp_next] at fM1_0
  try simp -dsimp -implicitDefEqProofs [e0,gs_W0,List.set_set,q0,hp_over_some,hp_over_none]
  exact hK _ _ ⟨M1,(by omega),rfl,rfl⟩
 rintro a σ ⟨M1,fM1_0,ha,rfl⟩
 obtain rfl:=oi H
 refine hKE _ _ ?_;rw[ha]
 refine Rc.kp [] [] rfl ?_
 refine Rc.mk ?_
 refine⟨[],by simp[gs_W0],M1,by omega,?_,?_⟩
 ·simp[encL_nil]
 ·first|rfl|simp[List.set_set]
theorem c92 {p0:gEmitter} {p1:Int} {r:gEmitter} (H:i_emitter_call p0 p1=some r) {σ:AHeap} {w0:Nat} {W0:List (List AV)} {r0_:Nat} (q0:σ.objs w0=some ⟨117,2,W0⟩) (g0:W0[r0_]? =some [.int .i64 p0.colors,.osl 103 5 (encL rInstr p0.list)]):ACalls Tryz.prog G 92 [.ptr w0 r0_ 0,.int .i64 p1] σ (fun v σ'=>∃M:Nat,σ.next≤M∧v=.tup []∧σ'=hp σ.objs [(w0,some ⟨117,2,W0.set r0_ [.int .i64 r.colors,.osl 103 5 (encL rInstr r.list)]⟩)] M):=by
 refine ACalls_fr (L:=[(w0,some ⟨117,2,W0⟩)]) (Q1:=fun v σ'=>∃M:Nat,σ.next≤M∧v=.tup []∧σ'=hp E0 [(w0,some ⟨117,2,W0.set r0_ [.int .i64 r.colors,.osl 103 5 (encL rInstr r.list)]⟩)] M) (by simp[q0]) (fun hlt=>?_) ?_ ⟨_,Tryz.func92,rfl,rfl⟩
 rotate_left
 ·rintro v σ1 ⟨M,h0,rfl,rfl⟩
  exact⟨_,M,rfl,by simp,by simp;try omega,M,h0,rfl,rfl⟩
 generalize σ.next=N0 at hlt ⊢
 have lw0:w0<N0:=hlt _ (.head _) rfl
 have gs_W0:∀x,(W0.set r0_ x)[r0_]? =some x:=gsetW g0
 rw[← set_same g0]
 refine fnK tok Tryz.func92 Tryz.ntmps92 Tryz.results92 ?_
 simp only[argsA,Nat.reduceAdd,hp_next]
 unfold i_emitter_call at H
 refine AWP_end [] fun KE hKE=>?_
 obtain⟨r1,hr1,H⟩:=bindE H
 obtain⟨r2,hr2,H⟩:=bindE H
 have q0:∀σ i,buildSliceA T 44 true i 2 [(0,.agg [.int .i64 r1.Op,.int .i64 r1.Rd,.int .i64 r1.Rs,.int .i64 r1.Rt,.int .i64 r1.Imm]),(1,.agg [.int .i64 15,.int .i64 1,.int .i64 0,.int .i64 0,.int .i64 0])] σ=some (.fsl (encL rInstr ([r1,(⟨15,1,0,0,0⟩:gInstr)]:List gInstr)),σ):=fun _ _=>rfl
 refine AWP_rt tok [4] [] (fun a σ=>∃M1:Nat,N0+6≤M1∧a=[]∧σ=hp E0 [(w0,some ⟨117,2,W0.set r0_ [.int .i64 r2.colors,.osl 103 5 (encL rInstr r2.list)]⟩)] M1) (fun K hK=>?_) ?_
 ·skip
  simp -dsimp -implicitDefEqProofs [gs_W0,List.set_set,q0]
  refine(c88 hr1).app ?_;try simp -dsimp -implicitDefEqProofs [gs_W0,List.set_set,q0]
  refine(c91 (W0:=W0.set r0_ [.int .i64 p0.colors,.osl 103 5 (encL rInstr p0.list)]) (r0_:=r0_) (H:=hr2) (by simp[gs_W0,List.set_set,q0]) (by simp[gs_W0,List.set_set,q0])).mono ?_;rintro _ _ ⟨M1,fM1_0,rfl,rfl⟩;simp only[hp_next] at fM1_0
  try simp -dsimp -implicitDefEqProofs [gs_W0,List.set_set,q0,hp_over_some,hp_over_none]
  exact hK _ _ ⟨M1,(by omega),rfl,rfl⟩
 rintro a σ ⟨M1,fM1_0,ha,rfl⟩
 obtain rfl:=oi H
 refine hKE _ _ ?_;rw[ha]
 refine Rc.kp [] [] rfl ?_
 refine Rc.mk ?_
 refine⟨[],by simp[gs_W0],M1,by omega,?_,?_⟩
 ·simp[encL_nil]
 ·first|rfl|simp[List.set_set]
theorem c93 {p0:Int} {r:(List gInstr)} (H:i_quadInstrs_4 p0=some r):APure Tryz.prog G 93 [.int .i64 p0] (.fsl (encL rInstr r)):=by
 refine APure_fn (fun N0=>?_) (by simp)
 refine fnK tok Tryz.func93 Tryz.ntmps93 Tryz.results93 ?_
 simp only[argsA,Nat.reduceAdd,hp_next]
 unfold i_quadInstrs_4 at H
 refine S0 tok [] [0] ?_
 obtain⟨r1,hr1,H⟩:=bindE H
 have q0:∀σ i,buildSliceA T 44 true i 1 [(0,.agg [.int .i64 r1.Op,.int .i64 r1.Rd,.int .i64 r1.Rs,.int .i64 r1.Rt,.int .i64 r1.Imm])] σ=some (.fsl (encL rInstr ([r1]:List gInstr)),σ):=fun _ _=>rfl
 refine Sx tok [2] [2] (by intro K k;(repeat first|simp -dsimp -implicitDefEqProofs [q0]|refine(c88 hr1).app ?_);exact k) ?_
 obtain rfl:=oi H;exact AWP_ret ⟨_,rfl,4,by simp[encL_nil]⟩
theorem c83_i_quadInstrs_4 {p0:gEmitter} {p1:Int} {r:gEmitter} (H:i_emitter_write_i_quadInstrs_4 p0 p1=some r) {σ:AHeap} {w0:Nat} {W0:List (List AV)} {r0_:Nat} (q0:σ.objs w0=some ⟨117,2,W0⟩) (g0:W0[r0_]? =some [.int .i64 p0.colors,.osl 103 5 (encL rInstr p0.list)]):ACalls Tryz.prog G 83 [.ptr w0 r0_ 0,.int .i64 p1,.clo 93 [] []] σ (fun v σ'=>∃M:Nat,σ.next≤M∧v=.tup []∧σ'=hp σ.objs [(w0,some ⟨117,2,W0.set r0_ [.int .i64 r.colors,.osl 103 5 (encL rInstr r.list)]⟩)] M):=by
 refine ACalls_fr (L:=[(w0,some ⟨117,2,W0⟩)]) (Q1:=fun v σ'=>∃M:Nat,σ.next≤M∧v=.tup []∧σ'=hp E0 [(w0,some ⟨117,2,W0.set r0_ [.int .i64 r.colors,.osl 103 5 (encL rInstr r.list)]⟩)] M) (by simp[q0]) (fun hlt=>?_) ?_ ⟨_,Tryz.func83,rfl,rfl⟩
 rotate_left
 ·rintro v σ1 ⟨M,h0,rfl,rfl⟩
  exact⟨_,M,rfl,by simp,by simp;try omega,M,h0,rfl,rfl⟩
 generalize σ.next=N0 at hlt ⊢
 have lw0:w0<N0:=hlt _ (.head _) rfl
 have gs_W0:∀x,(W0.set r0_ x)[r0_]? =some x:=gsetW g0
 rw[← set_same g0]
 refine fnK tok Tryz.func83 Tryz.ntmps83 Tryz.results83 ?_
 simp only[argsA,Nat.reduceAdd,hp_next]
 unfold i_emitter_write_i_quadInstrs_4 at H
 refine AWP_end [] fun KE hKE=>?_
 refine AWP_sq [0,1,2] fun K1 hK1=>?_
 refine Sx tok [] [0,1,2,11] (by intro K k;simp -dsimp -implicitDefEqProofs [gs_W0,List.set_set];exact k) ?_
 refine Cd (fun C1=>?_) fun C1=>?_
 ·replace H:=ifT C1 H
  obtain⟨v1,hv1,H⟩:=bindE H
  obtain⟨r2,hr2,H⟩:=bindE H
  obtain⟨r3,hr3,H⟩:=bindE H
  refine AWP_sr tok [] [] (fun a σ=>∃M1:Nat,N0+13≤M1∧a=[]∧σ=hp E0 [(w0,some ⟨117,2,W0.set r0_ [.int .i64 r3.colors,.osl 103 5 (encL rInstr r3.list)]⟩)] M1) (fun K hK=>?_) ?_
  ·skip
   simp -dsimp -implicitDefEqProofs [gs_W0,List.set_set,gx141 hv1]
   refine(c93 hr2).app ?_;try simp -dsimp -implicitDefEqProofs [gs_W0,List.set_set,gx141 hv1]
   refine(c91 (W0:=W0.set r0_ [.int .i64 p0.colors,.osl 103 5 (encL rInstr p0.list)]) (r0_:=r0_) (H:=hr3) (by simp[gs_W0,List.set_set,gx141 hv1]) (by simp[gs_W0,List.set_set,gx141 hv1])).mono ?_;rintro _ _ ⟨M1,fM1_0,rfl,rfl⟩;simp only[hp_next] at fM1_0
   try simp -dsimp -implicitDefEqProofs [gs_W0,List.set_set,gx141 hv1,hp_over_some,hp_over_none]
   exact hK _ _ ⟨M1,(by omega),rfl,rfl⟩
  rintro a σ ⟨M1,fM1_0,rfl,rfl⟩
  obtain rfl:=oi H
  refine Kp [] ?_
  refine AWP_ret ?_
  refine⟨[],by simp[gs_W0],M1,by omega,?_,?_⟩
  ·simp[encL_nil]
  ·first|rfl|simp[List.set_set]
 ·replace H:=ifF C1 H
  refine AWP_skip (Jn hK1 ?_)
  obtain⟨r4,hr4,H⟩:=bindE H
  obtain⟨r5,hr5,H⟩:=bindE H
  refine AWP_sr tok [] [0,1] (fun a σ=>∃M2:Nat,N0+10≤M2∧a=[(0,.ptr w0 r0_ 0),(1,.int .i64 p1)]∧σ=hp E0 [(w0,some ⟨117,2,W0.set r0_ [.int .i64 r5.colors,.osl 103 5 (encL rInstr r5.list)]⟩)] M2) (fun K hK=>?_) ?_
  ·skip
   simp -dsimp -implicitDefEqProofs [gs_W0,List.set_set]
   refine(c93 hr4).app ?_;try simp -dsimp -implicitDefEqProofs [gs_W0,List.set_set]
   refine(c91 (W0:=W0.set r0_ [.int .i64 p0.colors,.osl 103 5 (encL rInstr p0.list)]) (r0_:=r0_) (H:=hr5) (by simp[gs_W0,List.set_set]) (by simp[gs_W0,List.set_set])).mono ?_;rintro _ _ ⟨M2,fM2_0,rfl,rfl⟩;simp only[hp_next] at fM2_0
   try simp -dsimp -implicitDefEqProofs [gs_W0,List.set_set,hp_over_some,hp_over_none]
   exact hK _ _ ⟨M2,(by omega),rfl,rfl⟩
  rintro a σ ⟨M2,fM2_0,rfl,rfl⟩
  obtain⟨r6,hr6,H⟩:=bindE H
  have q0:∀σ i,buildSliceA T 44 true i 1 [(0,.agg [.int .i64 16,.int .i64 0,.int .i64 2,.int .i64 7,.int .i64 (imul .i64 4 (isub .i64 p1 r5.colors))])] σ=some (.fsl (encL rInstr ([(⟨16,0,2,7,imul .i64 4 (isub .i64 p1 r5.colors)⟩:gInstr)]:List gInstr)),σ):=fun _ _=>rfl
  refine AWP_rt tok [9] [] (fun a σ=>∃M3:Nat,M2+11≤M3∧a=[]∧σ=hp E0 [(w0,some ⟨117,2,W0.set r0_ [.int .i64 r6.colors,.osl 103 5 (encL rInstr r6.list)]⟩)] M3) (fun K hK=>?_) ?_
  ·skip
   simp -dsimp -implicitDefEqProofs [gs_W0,List.set_set,q0]
   refine(c91 (W0:=W0.set r0_ [.int .i64 r5.colors,.osl 103 5 (encL rInstr r5.list)]) (r0_:=r0_) (H:=hr6) (by simp[gs_W0,List.set_set,q0]) (by simp[gs_W0,List.set_set,q0])).mono ?_;rintro _ _ ⟨M3,fM3_0,rfl,rfl⟩;simp only[hp_next] at fM3_0
   try simp -dsimp -implicitDefEqProofs [gs_W0,List.set_set,q0,hp_over_some,hp_over_none]
   exact hK _ _ ⟨M3,(by omega),rfl,rfl⟩
  rintro a σ ⟨M3,fM3_0,ha,rfl⟩
  obtain rfl:=oi H
  refine hKE _ _ ?_;rw[ha]
  refine Rc.kp [] [] rfl ?_
  refine Rc.mk ?_
  refine⟨[],by simp[gs_W0],M3,by omega,?_,?_⟩
  ·simp[encL_nil]
  ·first|rfl|simp[List.set_set]
theorem c46 {p0:gQuad} {p1:Int} {p2:Int} {r:(List gInstr)} (H:i_quadInstrs p0 p1 p2=some r):APure Tryz.prog G 46 [.agg [.int .i64 p0.Op,.int .i64 p0.Dst,.int .i64 p0.A,.int .i64 p0.B,.int .i64 p0.N],.int .i64 p1,.int .i64 p2] (.fsl (encL rInstr r)):=by
 refine APure_fn (fun N0=>?_) (by simp)
 refine fnK tok Tryz.func46 Tryz.ntmps46 Tryz.results46 ?_
 simp only[argsA,Nat.reduceAdd,hp_next]
 unfold i_quadInstrs at H
 refine S0 tok [0] [1,2,3] ?_
 refine S0 tok [1] [2,3,7] ?_
 obtain⟨j1,hj1,H⟩:=bindE H
 refine AWP_seq (AWP_named fun K1 hK1=>?_)
 have hJ1:∀a σ,Rc G 120 N0 (fun a σ=>∃M1:Nat,N0≤M1∧N0+4<M1∧a=[(7,.ptr (N0+4) 0 0)]∧σ=hp E0 [(N0+4,some ⟨117,2,[[.int .i64 j1.colors,.osl 103 5 (encL rInstr j1.list)]]⟩)] M1) (a.keep [7]) σ→K1 a σ:=by
  rintro a σ ⟨b,τ,hr,M1,fM1_0,fM1_1,rfl,rfl⟩
  refine hK1 _ _ (AWP_keep [7] (AWP_ref hr ?_))
  refine gU AWP_ref (N0+4) 0 1 ?_
  refine Sx tok [] [6] (by
   intro K k
   have e0:=nQ (N0+4) M1
   simp -dsimp -implicitDefEqProofs [e0]
   exact k) ?_
  obtain rfl:=oi H
  refine Kp [6] ?_
  have z6:=nQ (N0+4) M1
  refine AWP_ret ?_
  exact⟨[.sl M1 0 j1.list.length],by simp[z6],4,by simp[encL_nil,z6]⟩
 replace H:=hj1
 refine S0 tok [] [2,3,7,15] ?_
 refine AWP_block (AWP_thenB ?_)
 refine S0 tok [] [2,3,7,15,16] ?_
 refine Cd (fun C1=>?_) fun C1=>?_
 ·replace H:=ifT C1 H
  refine gP0 AWP_ref (N0+4) 0 1 103 5 (encL rInstr ([]:List gInstr)) ?_
  obtain⟨r2,hr2,H⟩:=bindE H
  refine AWP_rt tok [] [7] (fun a σ=>∃M2:Nat,N0+15≤M2∧a=[(7,.ptr (N0+4) 0 0)]∧σ=hp E0 [(N0+4,some ⟨117,2,[[.int .i64 r2.colors,.osl 103 5 (encL rInstr r2.list)]]⟩)] M2) (fun K hK=>?_) ?_
  ·skip
   simp -dsimp -implicitDefEqProofs
   refine(c83_i_quadInstrs_1 (W0:=[[.int .i64 p1,.osl 103 5 (encL rInstr ([]:List gInstr))]]) (r0_:=0) (H:=hr2) (by simp[]) (by simp[])).mono ?_;rintro _ _ ⟨M2,fM2_0,rfl,rfl⟩;simp only[hp_next] at fM2_0
   try simp -dsimp -implicitDefEqProofs [hp_over_some,hp_over_none]
   exact hK _ _ ⟨M2,(by omega),rfl,rfl⟩
  rintro a σ ⟨M2,fM2_0,ha,rfl⟩
  obtain rfl:=oi H
  refine hJ1 _ _ ?_;rw[ha]
  exact Rf ⟨M2,(by omega),(by omega),rfl,rfl⟩
 ·replace H:=ifF C1 H
  refine S0 tok [] [2,3,7,15,23] ?_
  refine Cd (fun C2=>?_) fun C2=>?_
  ·replace H:=ifT C2 H
   refine gP0 AWP_ref (N0+4) 0 1 103 5 (encL rInstr ([]:List gInstr)) ?_
   obtain⟨r3,hr3,H⟩:=bindE H
   refine AWP_sr tok [] [3,7,8] (fun a σ=>∃M3:Nat,N0+18≤M3∧a=[(3,.fptr [.int .i64 p0.Op,.int .i64 p0.Dst,.int .i64 p0.A,.int .i64 p0.B,.int .i64 p0.N] 0),(7,.ptr (N0+4) 0 0),(8,.ptr (N0+16) 0 0)]∧σ=hp E0 [(N0+4,some ⟨117,2,[[.int .i64 r3.2.colors,.osl 103 5 (encL rInstr r3.2.list)]]⟩),(N0+16,some ⟨3,1,[[.int .i64 r3.1]]⟩)] M3) (fun K hK=>?_) ?_
   ·skip
    simp -dsimp -implicitDefEqProofs
    refine(c86 (W0:=[[.int .i64 p1,.osl 103 5 (encL rInstr ([]:List gInstr))]]) (r0_:=0) (H:=hr3) (by simp[]) (by simp[])).mono ?_;rintro _ _ ⟨M3,fM3_0,rfl,rfl⟩;simp only[hp_next] at fM3_0
    try simp -dsimp -implicitDefEqProofs [hp_over_some,hp_over_none]
    exact hK _ _ ⟨M3,(by omega),rfl,rfl⟩
   rintro a σ ⟨M3,fM3_0,rfl,rfl⟩
   refine gFrz AWP_ref 4 [N0+16] [(N0+4,some ⟨117,2,[[.int .i64 r3.2.colors,.osl 103 5 (encL rInstr r3.2.list)]]⟩)] [(3,.fptr [.int .i64 p0.Op,.int .i64 p0.Dst,.int .i64 p0.A,.int .i64 p0.B,.int .i64 p0.N] 0),(7,.ptr (N0+4) 0 0),(8,.fptr [.int .i64 r3.1] 0)] (by simp) (cutD (by simp)) ?_
   obtain⟨r5,hr5,H⟩:=bindE H
   refine AWP_rt tok [] [7] (fun a σ=>∃M4:Nat,M3+5≤M4∧a=[(7,.ptr (N0+4) 0 0)]∧σ=hp E0 [(N0+4,some ⟨117,2,[[.int .i64 r5.colors,.osl 103 5 (encL rInstr r5.list)]]⟩)] M4) (fun K hK=>?_) ?_
   ·skip
    simp -dsimp -implicitDefEqProofs
    refine(c83_i_quadInstrs_2 (W0:=[[.int .i64 r3.2.colors,.osl 103 5 (encL rInstr r3.2.list)]]) (r0_:=0) (H:=hr5) (by simp[]) (by simp[])).mono ?_;rintro _ _ ⟨M4,fM4_0,rfl,rfl⟩;simp only[hp_next] at fM4_0
    try simp -dsimp -implicitDefEqProofs [hp_over_some,hp_over_none]
    exact hK _ _ ⟨M4,(by omega),rfl,rfl⟩
   rintro a σ ⟨M4,fM4_0,ha,rfl⟩
   obtain rfl:=oi H
   refine hJ1 _ _ ?_;rw[ha]
   exact Rf ⟨M4,(by omega),(by omega),rfl,rfl⟩
  ·replace H:=ifF C2 H
   refine S0 tok [] [2,3,7,15,34] ?_
   refine Cd (fun C3=>?_) fun C3=>?_
   ·replace H:=ifT C3 H
    refine gP0 AWP_ref (N0+4) 0 1 103 5 (encL rInstr ([]:List gInstr)) ?_
    obtain⟨r6,hr6,H⟩:=bindE H
    refine AWP_sr tok [] [3,7,9] (fun a σ=>∃M5:Nat,N0+20≤M5∧a=[(3,.fptr [.int .i64 p0.Op,.int .i64 p0.Dst,.int .i64 p0.A,.int .i64 p0.B,.int .i64 p0.N] 0),(7,.ptr (N0+4) 0 0),(9,.ptr (N0+18) 0 0)]∧σ=hp E0 [(N0+4,some ⟨117,2,[[.int .i64 r6.2.colors,.osl 103 5 (encL rInstr r6.2.list)]]⟩),(N0+18,some ⟨3,1,[[.int .i64 r6.1]]⟩)] M5) (fun K hK=>?_) ?_
    ·skip
     simp -dsimp -implicitDefEqProofs
     refine(c86 (W0:=[[.int .i64 p1,.osl 103 5 (encL rInstr ([]:List gInstr))]]) (r0_:=0) (H:=hr6) (by simp[]) (by simp[])).mono ?_;rintro _ _ ⟨M5,fM5_0,rfl,rfl⟩;simp only[hp_next] at fM5_0
     try simp -dsimp -implicitDefEqProofs [hp_over_some,hp_over_none]
     exact hK _ _ ⟨M5,(by omega),rfl,rfl⟩
    rintro a σ ⟨M5,fM5_0,rfl,rfl⟩
    obtain⟨r7,hr7,H⟩:=bindE H
    refine AWP_sr tok [] [3,7,9,10] (fun a σ=>∃M6:Nat,M5+6≤M6∧a=[(3,.fptr [.int .i64 p0.Op,.int .i64 p0.Dst,.int .i64 p0.A,.int .i64 p0.B,.int .i64 p0.N] 0),(7,.ptr (N0+4) 0 0),(9,.ptr (N0+18) 0 0),(10,.ptr (M5+4) 0 0)]∧σ=hp E0 [(N0+4,some ⟨117,2,[[.int .i64 r7.2.colors,.osl 103 5 (encL rInstr r7.2.list)]]⟩),(N0+18,some ⟨3,1,[[.int .i64 r6.1]]⟩),(M5+4,some ⟨3,1,[[.int .i64 r7.1]]⟩)] M6) (fun K hK=>?_) ?_
    ·skip
     have e0:=nQ (N0+4) (M5+4)
     have e1:=nQ N0 M5
     have e2:=nQ (N0+18) (M5+4)
     have e3:=nQ (N0+14) M5
     simp -dsimp -implicitDefEqProofs [e0,e1,e2,e3]
     refine(c86 (W0:=[[.int .i64 r6.2.colors,.osl 103 5 (encL rInstr r6.2.list)]]) (r0_:=0) (H:=hr7) (by simp[e0,e1,e2,e3]) (by simp[e0,e1,e2,e3])).mono ?_;rintro _ _ ⟨M6,fM6_0,rfl,rfl⟩;simp only[hp_next] at fM6_0
     try simp -dsimp -implicitDefEqProofs [e0,e1,e2,e3,hp_over_some,hp_over_none]
     exact hK _ _ ⟨M6,(by omega),rfl,rfl⟩
    rintro a σ ⟨M6,fM6_0,rfl,rfl⟩
    have z7:=nQ (N0+4) (M5+4)
    have z8:=nQ N0 M5
    have z9:=nQ (N0+18) (M5+4)
    have z10:=nQ (N0+14) M5
    refine gFrz AWP_ref 4 [N0+18] [(N0+4,some ⟨117,2,[[.int .i64 r7.2.colors,.osl 103 5 (encL rInstr r7.2.list)]]⟩),(M5+4,some ⟨3,1,[[.int .i64 r7.1]]⟩)] [(3,.fptr [.int .i64 p0.Op,.int .i64 p0.Dst,.int .i64 p0.A,.int .i64 p0.B,.int .i64 p0.N] 0),(7,.ptr (N0+4) 0 0),(9,.fptr [.int .i64 r6.1] 0),(10,.ptr (M5+4) 0 0)] (by simp[z7,z8,z9,z10]) (cutD (by simp[z7,z8,z9,z10])) ?_
    have z11:=nQ (N0+4) (M5+4)
    have z12:=nQ N0 M5
    refine gFrz AWP_ref 4 [M5+4] [(N0+4,some ⟨117,2,[[.int .i64 r7.2.colors,.osl 103 5 (encL rInstr r7.2.list)]]⟩)] [(3,.fptr [.int .i64 p0.Op,.int .i64 p0.Dst,.int .i64 p0.A,.int .i64 p0.B,.int .i64 p0.N] 0),(7,.ptr (N0+4) 0 0),(9,.fptr [.int .i64 r6.1] 0),(10,.fptr [.int .i64 r7.1] 0)] (by simp[z11,z12]) (cutD (by simp[z11,z12])) ?_
    obtain⟨r10,hr10,H⟩:=bindE H
    refine AWP_rt tok [] [7] (fun a σ=>∃M7:Nat,M6+5≤M7∧a=[(7,.ptr (N0+4) 0 0)]∧σ=hp E0 [(N0+4,some ⟨117,2,[[.int .i64 r10.colors,.osl 103 5 (encL rInstr r10.list)]]⟩)] M7) (fun K hK=>?_) ?_
    ·skip
     simp -dsimp -implicitDefEqProofs
     refine(c83_i_quadInstrs_3 (W0:=[[.int .i64 r7.2.colors,.osl 103 5 (encL rInstr r7.2.list)]]) (r0_:=0) (H:=hr10) (by simp[]) (by simp[])).mono ?_;rintro _ _ ⟨M7,fM7_0,rfl,rfl⟩;simp only[hp_next] at fM7_0
     try simp -dsimp -implicitDefEqProofs [hp_over_some,hp_over_none]
     exact hK _ _ ⟨M7,(by omega),rfl,rfl⟩
    rintro a σ ⟨M7,fM7_0,ha,rfl⟩
    obtain rfl:=oi H
    refine hJ1 _ _ ?_;rw[ha]
    exact Rf ⟨M7,(by omega),(by omega),rfl,rfl⟩
   ·replace H:=ifF C3 H
    refine S0 tok [] [2,3,7,15,49] ?_
    refine Cd (fun C4=>?_) fun C4=>?_
    ·replace H:=ifT C4 H
     refine gP0 AWP_ref (N0+4) 0 1 103 5 (encL rInstr ([]:List gInstr)) ?_
     obtain⟨r11,hr11,H⟩:=bindE H
     refine AWP_rt tok [] [7] (fun a σ=>∃M8:Nat,N0+19≤M8∧a=[(7,.ptr (N0+4) 0 0)]∧σ=hp E0 [(N0+4,some ⟨117,2,[[.int .i64 r11.colors,.osl 103 5 (encL rInstr r11.list)]]⟩)] M8) (fun K hK=>?_) ?_
     ·skip
      simp -dsimp -implicitDefEqProofs
      refine(c90 (W0:=[[.int .i64 p1,.osl 103 5 (encL rInstr ([]:List gInstr))]]) (r0_:=0) (H:=hr11) (by simp[]) (by simp[])).mono ?_;rintro _ _ ⟨M8,fM8_0,rfl,rfl⟩;simp only[hp_next] at fM8_0
      try simp -dsimp -implicitDefEqProofs [hp_over_some,hp_over_none]
      exact hK _ _ ⟨M8,(by omega),rfl,rfl⟩
     rintro a σ ⟨M8,fM8_0,ha,rfl⟩
     obtain rfl:=oi H
     refine hJ1 _ _ ?_;rw[ha]
     exact Rf ⟨M8,(by omega),(by omega),rfl,rfl⟩
    ·replace H:=ifF C4 H
     refine S0 tok [] [2,3,7,15,54] ?_
     refine Cd (fun C5=>?_) fun C5=>?_
     ·replace H:=ifT C5 H
      refine gP0 AWP_ref (N0+4) 0 1 103 5 (encL rInstr ([]:List gInstr)) ?_
      obtain⟨r12,hr12,H⟩:=bindE H
      obtain⟨r13,hr13,H⟩:=bindE H
      have q0:∀σ i,buildSliceA T 44 true i 1 [(0,.agg [.int .i64 18,.int .i64 0,.int .i64 r12.1,.int .i64 0,.int .i64 8])] σ=some (.fsl (encL rInstr ([(⟨18,0,r12.1,0,8⟩:gInstr)]:List gInstr)),σ):=fun _ _=>rfl
      refine AWP_sr tok [6] [2,7] (fun a σ=>∃M9:Nat,∃M10:Nat,N0+26≤M9∧M9≤M10∧a=[(2,.int .i64 p2),(7,.ptr (N0+4) 0 0)]∧σ=hp E0 [(N0+4,some ⟨117,2,[[.int .i64 r13.colors,.osl 103 5 (encL rInstr r13.list)]]⟩)] M10) (fun K hK=>?_) ?_
      ·skip
       simp -dsimp -implicitDefEqProofs [q0]
       refine(c86 (W0:=[[.int .i64 p1,.osl 103 5 (encL rInstr ([]:List gInstr))]]) (r0_:=0) (H:=hr12) (by simp[q0]) (by simp[q0])).mono ?_;rintro _ _ ⟨M9,fM9_0,rfl,rfl⟩;simp only[hp_next] at fM9_0
       try simp -dsimp -implicitDefEqProofs [q0,hp_over_some,hp_over_none]
       refine(c91 (W0:=[[.int .i64 r12.2.colors,.osl 103 5 (encL rInstr r12.2.list)]]) (r0_:=0) (H:=hr13) (by simp[q0,hp_over_some,hp_over_none]) (by simp[q0,hp_over_some,hp_over_none])).mono ?_;rintro _ _ ⟨M10,fM10_0,rfl,rfl⟩;simp only[hp_next] at fM10_0
       try simp -dsimp -implicitDefEqProofs [q0,hp_over_some,hp_over_none,hp_over_some,hp_over_none]
       exact hK _ _ ⟨M9,M10,(by omega),(by omega),rfl,rfl⟩
      rintro a σ ⟨M9,M10,fM9_0,fM10_0,rfl,rfl⟩
      obtain⟨r14,hr14,H⟩:=bindE H
      refine AWP_rt tok [] [7] (fun a σ=>∃M11:Nat,M10+3≤M11∧a=[(7,.ptr (N0+4) 0 0)]∧σ=hp E0 [(N0+4,some ⟨117,2,[[.int .i64 r14.colors,.osl 103 5 (encL rInstr r14.list)]]⟩)] M11) (fun K hK=>?_) ?_
      ·skip
       simp -dsimp -implicitDefEqProofs
       refine(c90 (W0:=[[.int .i64 r13.colors,.osl 103 5 (encL rInstr r13.list)]]) (r0_:=0) (H:=hr14) (by simp[]) (by simp[])).mono ?_;rintro _ _ ⟨M11,fM11_0,rfl,rfl⟩;simp only[hp_next] at fM11_0
       try simp -dsimp -implicitDefEqProofs [hp_over_some,hp_over_none]
       exact hK _ _ ⟨M11,(by omega),rfl,rfl⟩
      rintro a σ ⟨M11,fM11_0,ha,rfl⟩
      obtain rfl:=oi H
      refine hJ1 _ _ ?_;rw[ha]
      exact Rf ⟨M11,(by omega),(by omega),rfl,rfl⟩
     ·replace H:=ifF C5 H
      refine S0 tok [] [3,7,15,67] ?_
      refine Cd (fun C6=>?_) fun C6=>?_
      ·replace H:=ifT C6 H
       refine gP0 AWP_ref (N0+4) 0 1 103 5 (encL rInstr ([]:List gInstr)) ?_
       obtain⟨r15,hr15,H⟩:=bindE H
       obtain⟨r16,hr16,H⟩:=bindE H
       obtain⟨r17,hr17,H⟩:=bindE H
       obtain⟨r18,hr18,H⟩:=bindE H
       have q1:∀σ i,buildSliceA T 44 true i 2 [(0,.agg [.int .i64 r16.Op,.int .i64 r16.Rd,.int .i64 r16.Rs,.int .i64 r16.Rt,.int .i64 r16.Imm]),(1,.agg [.int .i64 r17.Op,.int .i64 r17.Rd,.int .i64 r17.Rs,.int .i64 r17.Rt,.int .i64 r17.Imm])] σ=some (.fsl (encL rInstr ([r16,r17]:List gInstr)),σ):=fun _ _=>rfl
       refine AWP_sd tok tokM [9] [4,10] [0,1,2,3,6,7,4,5,8,9,10] [7] (fun a σ=>∃M12:Nat,∃M13:Nat,N0+31≤M12∧M12≤M13∧a=[(7,.ptr (N0+4) 0 0)]∧σ=hp E0 [(N0+4,some ⟨117,2,[[.int .i64 r18.colors,.osl 103 5 (encL rInstr r18.list)]]⟩)] M13) (by decide) (fun K hK=>?_) ?_
       ·simp only[pickL,nthO_succ,nthO_zero]
        simp -dsimp -implicitDefEqProofs [q1]
        refine(c86 (W0:=[[.int .i64 p1,.osl 103 5 (encL rInstr ([]:List gInstr))]]) (r0_:=0) (H:=hr15) (by simp[q1]) (by simp[q1])).mono ?_;rintro _ _ ⟨M12,fM12_0,rfl,rfl⟩;simp only[hp_next] at fM12_0
        try simp -dsimp -implicitDefEqProofs [q1,hp_over_some,hp_over_none]
        refine Pc.mk (c88 hr16) ?_;try simp -dsimp -implicitDefEqProofs [q1,hp_over_some,hp_over_none]
        refine Pc.mk (c88 hr17) ?_;try simp -dsimp -implicitDefEqProofs [q1,hp_over_some,hp_over_none]
        refine(c91 (W0:=[[.int .i64 r15.2.colors,.osl 103 5 (encL rInstr r15.2.list)]]) (r0_:=0) (H:=hr18) (by simp[q1,hp_over_some,hp_over_none]) (by simp[q1,hp_over_some,hp_over_none])).mono ?_;rintro _ _ ⟨M13,fM13_0,rfl,rfl⟩;simp only[hp_next] at fM13_0
        try simp -dsimp -implicitDefEqProofs [q1,hp_over_some,hp_over_none,hp_over_some,hp_over_none]
        exact hK _ _ ⟨M12,M13,(by omega),(by omega),rfl,rfl⟩
       rintro a σ ⟨M12,M13,fM12_0,fM13_0,rfl,rfl⟩
       obtain⟨r19,hr19,H⟩:=bindE H
       refine AWP_rt tok [] [7] (fun a σ=>∃M14:Nat,M13+2≤M14∧a=[(7,.ptr (N0+4) 0 0)]∧σ=hp E0 [(N0+4,some ⟨117,2,[[.int .i64 r19.colors,.osl 103 5 (encL rInstr r19.list)]]⟩)] M14) (fun K hK=>?_) ?_
       ·skip
        simp -dsimp -implicitDefEqProofs
        refine(c92 (W0:=[[.int .i64 r18.colors,.osl 103 5 (encL rInstr r18.list)]]) (r0_:=0) (H:=hr19) (by simp[]) (by simp[])).mono ?_;rintro _ _ ⟨M14,fM14_0,rfl,rfl⟩;simp only[hp_next] at fM14_0
        try simp -dsimp -implicitDefEqProofs [hp_over_some,hp_over_none]
        exact hK _ _ ⟨M14,(by omega),rfl,rfl⟩
       rintro a σ ⟨M14,fM14_0,ha,rfl⟩
       obtain rfl:=oi H
       refine hJ1 _ _ ?_;rw[ha]
       exact Rf ⟨M14,(by omega),(by omega),rfl,rfl⟩
      ·replace H:=ifF C6 H
       refine S0 tok [] [3,7,15,82] ?_
       refine Cd (fun C7=>?_) fun C7=>?_
       ·replace H:=ifT C7 H
        refine gP0 AWP_ref (N0+4) 0 1 103 5 (encL rInstr ([]:List gInstr)) ?_
        obtain⟨r20,hr20,H⟩:=bindE H
        obtain⟨r21,hr21,H⟩:=bindE H
        have q2:∀σ i,buildSliceA T 44 true i 1 [(0,.agg [.int .i64 r20.Op,.int .i64 r20.Rd,.int .i64 r20.Rs,.int .i64 r20.Rt,.int .i64 r20.Imm])] σ=some (.fsl (encL rInstr ([r20]:List gInstr)),σ):=fun _ _=>rfl
        refine AWP_sr tok [4] [3,7] (fun a σ=>∃M15:Nat,N0+28≤M15∧a=[(3,.fptr [.int .i64 p0.Op,.int .i64 p0.Dst,.int .i64 p0.A,.int .i64 p0.B,.int .i64 p0.N] 0),(7,.ptr (N0+4) 0 0)]∧σ=hp E0 [(N0+4,some ⟨117,2,[[.int .i64 r21.colors,.osl 103 5 (encL rInstr r21.list)]]⟩)] M15) (fun K hK=>?_) ?_
        ·skip
         simp -dsimp -implicitDefEqProofs [q2]
         refine(c88 hr20).app ?_;try simp -dsimp -implicitDefEqProofs [q2]
         refine(c91 (W0:=[[.int .i64 p1,.osl 103 5 (encL rInstr ([]:List gInstr))]]) (r0_:=0) (H:=hr21) (by simp[q2]) (by simp[q2])).mono ?_;rintro _ _ ⟨M15,fM15_0,rfl,rfl⟩;simp only[hp_next] at fM15_0
         try simp -dsimp -implicitDefEqProofs [q2,hp_over_some,hp_over_none]
         exact hK _ _ ⟨M15,(by omega),rfl,rfl⟩
        rintro a σ ⟨M15,fM15_0,rfl,rfl⟩
        obtain⟨r22,hr22,H⟩:=bindE H
        refine AWP_sr tok [] [3,7] (fun a σ=>∃M16:Nat,M15+2≤M16∧a=[(3,.fptr [.int .i64 p0.Op,.int .i64 p0.Dst,.int .i64 p0.A,.int .i64 p0.B,.int .i64 p0.N] 0),(7,.ptr (N0+4) 0 0)]∧σ=hp E0 [(N0+4,some ⟨117,2,[[.int .i64 r22.colors,.osl 103 5 (encL rInstr r22.list)]]⟩)] M16) (fun K hK=>?_) ?_
        ·skip
         simp -dsimp -implicitDefEqProofs
         refine(c92 (W0:=[[.int .i64 r21.colors,.osl 103 5 (encL rInstr r21.list)]]) (r0_:=0) (H:=hr22) (by simp[]) (by simp[])).mono ?_;rintro _ _ ⟨M16,fM16_0,rfl,rfl⟩;simp only[hp_next] at fM16_0
         try simp -dsimp -implicitDefEqProofs [hp_over_some,hp_over_none]
         exact hK _ _ ⟨M16,(by omega),rfl,rfl⟩
        rintro a σ ⟨M16,fM16_0,rfl,rfl⟩
        obtain⟨r23,hr23,H⟩:=bindE H
        refine AWP_rt tok [] [7] (fun a σ=>∃M17:Nat,M16+4≤M17∧a=[(7,.ptr (N0+4) 0 0)]∧σ=hp E0 [(N0+4,some ⟨117,2,[[.int .i64 r23.colors,.osl 103 5 (encL rInstr r23.list)]]⟩)] M17) (fun K hK=>?_) ?_
        ·skip
         simp -dsimp -implicitDefEqProofs
         refine(c83_i_quadInstrs_4 (W0:=[[.int .i64 r22.colors,.osl 103 5 (encL rInstr r22.list)]]) (r0_:=0) (H:=hr23) (by simp[]) (by simp[])).mono ?_;rintro _ _ ⟨M17,fM17_0,rfl,rfl⟩;simp only[hp_next] at fM17_0
         try simp -dsimp -implicitDefEqProofs [hp_over_some,hp_over_none]
         exact hK _ _ ⟨M17,(by omega),rfl,rfl⟩
        rintro a σ ⟨M17,fM17_0,ha,rfl⟩
        obtain rfl:=oi H
        refine hJ1 _ _ ?_;rw[ha]
        exact Rf ⟨M17,(by omega),(by omega),rfl,rfl⟩
       ·replace H:=ifF C7 H
        refine S0 tok [] [3,7,15,96] ?_
        refine Cd (fun C8=>?_) fun C8=>?_
        ·replace H:=ifT C8 H
         refine gP0 AWP_ref (N0+4) 0 1 103 5 (encL rInstr ([]:List gInstr)) ?_
         obtain⟨r24,hr24,H⟩:=bindE H
         refine AWP_rt tok [] [7] (fun a σ=>∃M18:Nat,N0+26≤M18∧a=[(7,.ptr (N0+4) 0 0)]∧σ=hp E0 [(N0+4,some ⟨117,2,[[.int .i64 r24.colors,.osl 103 5 (encL rInstr r24.list)]]⟩)] M18) (fun K hK=>?_) ?_
         ·skip
          simp -dsimp -implicitDefEqProofs
          refine(c92 (W0:=[[.int .i64 p1,.osl 103 5 (encL rInstr ([]:List gInstr))]]) (r0_:=0) (H:=hr24) (by simp[]) (by simp[])).mono ?_;rintro _ _ ⟨M18,fM18_0,rfl,rfl⟩;simp only[hp_next] at fM18_0
          try simp -dsimp -implicitDefEqProofs [hp_over_some,hp_over_none]
          exact hK _ _ ⟨M18,(by omega),rfl,rfl⟩
         rintro a σ ⟨M18,fM18_0,ha,rfl⟩
         obtain rfl:=oi H
         refine hJ1 _ _ ?_;rw[ha]
         exact Rf ⟨M18,(by omega),(by omega),rfl,rfl⟩
        ·replace H:=ifF C8 H
         refine S0 tok [] [3,7,15,100] ?_
         refine Cd (fun C9=>?_) fun C9=>?_
         ·replace H:=ifT C9 H
          refine gP0 AWP_ref (N0+4) 0 1 103 5 (encL rInstr ([]:List gInstr)) ?_
          obtain⟨r25,hr25,H⟩:=bindE H
          obtain⟨r26,hr26,H⟩:=bindE H
          obtain⟨r27,hr27,H⟩:=bindE H
          have q3:∀σ i,buildSliceA T 44 true i 1 [(0,.agg [.int .i64 r26.Op,.int .i64 r26.Rd,.int .i64 r26.Rs,.int .i64 r26.Rt,.int .i64 r26.Imm])] σ=some (.fsl (encL rInstr ([r26]:List gInstr)),σ):=fun _ _=>rfl
          refine AWP_sr tok [6] [7] (fun a σ=>∃M19:Nat,∃M20:Nat,N0+34≤M19∧M19≤M20∧a=[(7,.ptr (N0+4) 0 0)]∧σ=hp E0 [(N0+4,some ⟨117,2,[[.int .i64 r27.colors,.osl 103 5 (encL rInstr r27.list)]]⟩)] M20) (fun K hK=>?_) ?_
          ·skip
           simp -dsimp -implicitDefEqProofs [q3]
           refine(c86 (W0:=[[.int .i64 p1,.osl 103 5 (encL rInstr ([]:List gInstr))]]) (r0_:=0) (H:=hr25) (by simp[q3]) (by simp[q3])).mono ?_;rintro _ _ ⟨M19,fM19_0,rfl,rfl⟩;simp only[hp_next] at fM19_0
           try simp -dsimp -implicitDefEqProofs [q3,hp_over_some,hp_over_none]
           refine(c88 hr26).app ?_;try simp -dsimp -implicitDefEqProofs [q3,hp_over_some,hp_over_none]
           refine(c91 (W0:=[[.int .i64 r25.2.colors,.osl 103 5 (encL rInstr r25.2.list)]]) (r0_:=0) (H:=hr27) (by simp[q3,hp_over_some,hp_over_none]) (by simp[q3,hp_over_some,hp_over_none])).mono ?_;rintro _ _ ⟨M20,fM20_0,rfl,rfl⟩;simp only[hp_next] at fM20_0
           try simp -dsimp -implicitDefEqProofs [q3,hp_over_some,hp_over_none,hp_over_some,hp_over_none]
           exact hK _ _ ⟨M19,M20,(by omega),(by omega),rfl,rfl⟩
          rintro a σ ⟨M19,M20,fM19_0,fM20_0,rfl,rfl⟩
          obtain⟨r28,hr28,H⟩:=bindE H
          refine AWP_rt tok [] [7] (fun a σ=>∃M21:Nat,M20+2≤M21∧a=[(7,.ptr (N0+4) 0 0)]∧σ=hp E0 [(N0+4,some ⟨117,2,[[.int .i64 r28.colors,.osl 103 5 (encL rInstr r28.list)]]⟩)] M21) (fun K hK=>?_) ?_
          ·skip
           simp -dsimp -implicitDefEqProofs
           refine(c92 (W0:=[[.int .i64 r27.colors,.osl 103 5 (encL rInstr r27.list)]]) (r0_:=0) (H:=hr28) (by simp[]) (by simp[])).mono ?_;rintro _ _ ⟨M21,fM21_0,rfl,rfl⟩;simp only[hp_next] at fM21_0
           try simp -dsimp -implicitDefEqProofs [hp_over_some,hp_over_none]
           exact hK _ _ ⟨M21,(by omega),rfl,rfl⟩
          rintro a σ ⟨M21,fM21_0,ha,rfl⟩
          obtain rfl:=oi H
          refine hJ1 _ _ ?_;rw[ha]
          exact Rf ⟨M21,(by omega),(by omega),rfl,rfl⟩
         ·replace H:=ifF C9 H
          refine S0 tok [] [7,112] ?_
          refine Cd (fun C10=>?_) fun C10=>?_
          ·replace H:=ifT C10 H
           refine gP0 AWP_ref (N0+4) 0 1 103 5 (encL rInstr ([]:List gInstr)) ?_
           obtain⟨r29,hr29,H⟩:=bindE H
           refine AWP_rt tok [] [7] (fun a σ=>∃M22:Nat,N0+30≤M22∧a=[(7,.ptr (N0+4) 0 0)]∧σ=hp E0 [(N0+4,some ⟨117,2,[[.int .i64 r29.colors,.osl 103 5 (encL rInstr r29.list)]]⟩)] M22) (fun K hK=>?_) ?_
           ·skip
            simp -dsimp -implicitDefEqProofs
            refine(c92 (W0:=[[.int .i64 p1,.osl 103 5 (encL rInstr ([]:List gInstr))]]) (r0_:=0) (H:=hr29) (by simp[]) (by simp[])).mono ?_;rintro _ _ ⟨M22,fM22_0,rfl,rfl⟩;simp only[hp_next] at fM22_0
            try simp -dsimp -implicitDefEqProofs [hp_over_some,hp_over_none]
            exact hK _ _ ⟨M22,(by omega),rfl,rfl⟩
           rintro a σ ⟨M22,fM22_0,ha,rfl⟩
           obtain rfl:=oi H
           refine hJ1 _ _ ?_;rw[ha]
           exact Rf ⟨M22,(by omega),(by omega),rfl,rfl⟩
          ·replace H:=ifF C10 H
           refine AWP_skip ?_
           show K1 _ _
           refine kE [7] fun a' ha=>?_
           obtain rfl:=oi H
           refine hJ1 _ _ ?_;rw[ha]
           refine gP0 Rc_ref (N0+4) 0 1 103 5 (encL rInstr ([]:List gInstr)) ?_
           exact Rf ⟨N0+28,(by omega),(by omega),rfl,rfl⟩
end Go.Proofs.YtlcilhmkbmgkeaaGreatDoor
