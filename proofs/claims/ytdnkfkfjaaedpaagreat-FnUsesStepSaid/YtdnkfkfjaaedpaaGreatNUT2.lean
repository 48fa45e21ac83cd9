/- The contracts of functions of the program (UT2): each computes what its mirror computes. No conditions. -/
import Derived.Test.YtdnkfkfjaaedpaaGreatNUT1
set_option linter.unusedSimpArgs false
set_option linter.unusedVariables false
set_option maxRecDepth 20000
set_option maxHeartbeats 4000000
namespace Go.Proofs.YtdnkfkfjaaedpaaGreat
open Go Go.Abs Go.RowKit

theorem c199_o {r:(List Int)}(H:s_l34Self_o=some r){σ:AHeap}:ACalls Tryz.prog G 199 [] σ (fun v σ'=>∃M n0:Nat,σ.next≤M∧σ.next≤n0∧n0<M∧v=.sl n0 0 r.length∧σ'=hp σ.objs [(n0,some ⟨3,1,eL rI r⟩)] M):=by
 refine zP (L:=[]) (Q1:=fun v σ'=>∃M n0:Nat,σ.next≤M∧σ.next≤n0∧n0<M∧v=.sl n0 0 r.length∧σ'=hp E0 [(n0,some ⟨3,1,eL rI r⟩)] M) (by simp) (fun hlt=>?_) ?_ ⟨_,Tryz.func199,rfl,rfl⟩
 rotate_left
 ·rintro v σ1 ⟨M,n0,h0,h1,h2,rfl,rfl⟩
  exact⟨_,M,rfl,by simp,by simp;try omega,M,n0,h0,h1,h2,rfl,rfl⟩
 generalize σ.next=N0 at hlt ⊢
 refine fnK tok Tryz.func199 Tryz.ntmps199 Tryz.results199 ?_
 simp only[argsA,Nat.reduceAdd,hpN]
 unfold s_l34Self_o at H
 refine S0 tok [] [] ?_
 have q0:∀σ i,bsA T 24 true i 0 [] σ=some (.esl,σ):=fun _ _=>rfl
 refine Sx tok [0] [1] (by intro K k;simp -dsimp -implicitDefEqProofs [q0];exact k) ?_
 refine Wsq [1] fun K1 hK1=>?_
 refine S0 tok [] [1,2] ?_
 refine Wbl (Wth ?_)
 obtain⟨e1,hse1,H⟩:=bE H
 refine zU [1,2] (fun s a σ=>∃M1 o1:Nat,N0≤M1∧N0≤o1∧o1<M1∧a=[(1,.sl o1 0 s.2.length),(2,.int .i64 s.1)]∧σ=hp E0 [(o1,some ⟨3,1,eL rI s.2⟩)] M1) (fun s x a σ=>x=.exit 0∧Rc G 13 N0 (fun a σ=>∃M2 o2:Nat,N0≤M2∧N0≤o2∧o2<M2∧a=[(1,.sl o2 0 s.length)]∧σ=hp E0 [(o2,some ⟨3,1,eL rI s⟩)] M2) (AAct.keep a [1]) σ) hse1 ?_ ?_ ?_
 ·refine Rc.kp [1,2] [(1,.esl),(2,.int .i64 0)] rfl ?_
  refine gNilS zL 1 3 1 [(N0+4,some ⟨3,1,eL rI ([]:List Int)⟩)] [(1,.sl (N0+4) 0 ([]:List Int).length),(2,.int .i64 0)] (by simp(disch:=omega)) (by simp(disch:=omega) [eN]) [1,2] rfl ?_
  exact Rf ⟨N0+5,(N0+4),(by omega),(by omega),(by omega),rfl,rfl⟩
 ·clear H hse1
  rintro⟨s1,s2⟩ fl a σ H ⟨M1,o1,fM1_0,fM1_1,fM1_2,rfl,rfl⟩ K2 O2 hK2 hO2
  unfold s_l34Self_o_L1 at H;dsimp only at H
  refine Wsq [1,2] fun K3 hK3=>?_
  refine S0 tok [] [1,2,5] ?_
  refine Cd (fun C1=>?_) fun C1=>?_
  ·replace H:=ifT C1 H
   refine Wsk (Jn hK3 ?_)
   refine Wsq [1,2] fun K4 hK4=>?_
   refine Wbl (Wth ?_)
   obtain⟨l4,hl4,H⟩:=bE H
   have q1:∀σ i,bsA T 24 true i 1 [(0,.int .i64 s1)] σ=some (.fsl (eL rI ([s1]:List Int)),σ):=fun _ _=>rfl
   refine Rt tok [2] [1,2] (by
    intro K k
    have e0:=nQ o1 (M1+5)
    simp -dsimp -implicitDefEqProofs [e0,q1,app24 hl4]
    exact k) fun a ha=>?_
   refine hK4 _ _ ?_;rw[ha]
   refine Rc.mk ?_
   refine Rt0 tok [] [1,2] fun a ha=>?_
   obtain rfl:=oi H
   refine hK2 _ _ _ rfl ?_;rw[ha]
   exact Rf ⟨M1+10,(M1+5),(by omega),(by omega),(by omega),rfl,rfl⟩
  obtain rfl:=oi (ifF C1 H)
  refine zM (hO2 _ _ _ _ rfl ⟨rfl,?_⟩)
  refine Rc.rw (l:=[1]) (X:=[(1,.sl o1 0 s2.length)]) rfl ?_
  exact Rf ⟨M1+2,o1,(by omega),(by omega),(by omega),rfl,rfl⟩
 intro x a σ hx
 obtain⟨y3,rfl⟩:∃x,x=e1:=⟨_,rfl⟩
 obtain⟨rfl,b,τ,hr,M2,o2,fM2_0,fM2_1,fM2_2,rfl,rfl⟩:=hx
 (try dsimp only at H)
 show K1 _ _
 refine hK1 _ _ (zL hr ?_)
 refine Rc.mk ?_
 refine S0 tok [] [0] ?_
 obtain rfl:=oi H
 refine Kp [0] ?_
 refine Wr ?_
 refine⟨[.sl o2 0 y3.length],by simp,M2+2,o2,by omega,by omega,by omega,?_,?_⟩
 ·simp[eN]
 first|rfl|simp

theorem c180 {p0:(List gQuad)}{r:(List (List Int))}(H:s_CopiesOf p0=some r):APure Tryz.prog G 180 [.fsl (eL rQuad p0)] (.fsl (eL rL_I r)):=by
 refine zB (fun N0=>?_) (by simp)
 refine fnK tok Tryz.func180 Tryz.ntmps180 Tryz.results180 ?_
 simp only[argsA,Nat.reduceAdd,hpN]
 unfold s_CopiesOf at H
 refine S0 tok [] [0] ?_
 have q0:∀σ i,bsA T 120 true i 0 [] σ=some (.esl,σ):=fun _ _=>rfl
 refine Sx tok [0] [0,3] (by intro K k;simp -dsimp -implicitDefEqProofs [q0];exact k) ?_
 refine Wsq [0,3] fun K1 hK1=>?_
 obtain⟨r1,hr1,H⟩:=bE H
 refine Sx tok [] [0,3,9] (by intro K k;(repeat first|simp -dsimp -implicitDefEqProofs|refine(c117 hr1).app ?_);exact k) ?_
 refine Cd (fun C1=>?_) fun C1=>?_
 ·replace H:=ifT C1 H
  refine S0 tok [] [2] ?_
  obtain rfl:=oi H;exact Wr ⟨_,rfl,4,by simp[eN]⟩
 replace H:=ifF C1 H
 refine Wsk (Jn hK1 ?_)
 refine Wsq [0,3] fun K2 hK2=>?_
 refine S0 tok [] [0,3,4] ?_
 refine Wbl (Wth ?_)
 obtain⟨e1,hse1,H⟩:=bE H
 refine zU [0,3,4] (fun s a σ=>∃M1 o1:Nat,N0≤M1∧N0≤o1∧o1<M1∧a=[(0,.fsl (eL rQuad p0)),(3,.sl o1 0 s.2.length),(4,.int .i64 s.1)]∧σ=hp E0 [(o1,some ⟨24,1,eL zT s.2⟩)] M1) (fun s x a σ=>x=.exit 0∧Rc G 44 N0 (fun a σ=>∃M2 o2:Nat,N0≤M2∧N0≤o2∧o2<M2∧a=[(0,.fsl (eL rQuad p0)),(3,.sl o2 0 s.length)]∧σ=hp E0 [(o2,some ⟨24,1,eL zT s⟩)] M2) (AAct.keep a [0,3]) σ) hse1 ?_ ?_ ?_
 ·refine Rc.kp [0,3,4] [(0,.fsl (eL rQuad p0)),(3,.esl),(4,.int .i64 0)] rfl ?_
  refine gNilS zL 3 24 1 [(N0+7,some ⟨24,1,eL zT ([]:List (List Int))⟩)] [(0,.fsl (eL rQuad p0)),(3,.sl (N0+7) 0 ([]:List (List Int)).length),(4,.int .i64 0)] (by simp(disch:=omega)) (by simp(disch:=omega) [eN]) [0,3,4] rfl ?_
  exact Rf ⟨N0+8,(N0+7),(by omega),(by omega),(by omega),rfl,rfl⟩
 ·clear H hse1
  rintro⟨s2,s3⟩ fl a σ H ⟨M1,o1,fM1_0,fM1_1,fM1_2,rfl,rfl⟩ K3 O3 hK3 hO3
  unfold xU at H;dsimp only at H
  refine Wsq [0,3,4] fun K4 hK4=>?_
  refine S0 tok [] [0,3,4,14] ?_
  refine Cd (fun C2=>?_) fun C2=>?_
  ·replace H:=ifT C2 H
   refine Wsk (Jn hK4 ?_)
   refine Wsq [0,3,4] fun K5 hK5=>?_
   refine Wbl (Wth ?_)
   obtain⟨l5,hl5,H⟩:=bE H
   have q1:∀σ i,bsA T 24 true i 0 [] σ=some (.esl,σ):=fun _ _=>rfl
   have q2:∀  σ i,bsA T 120 true i 1 [(0,.esl)] σ=some (.fsl [[.esl]],σ):=fun  _ _=>rfl
   refine Rt tok [1,2] [0,3,4] (by
    intro K k
    have e0:=nQ o1 (M1+7)
    simp -dsimp -implicitDefEqProofs [e0,q1,q2,apr120 zT hl5]
    exact k) fun a ha=>?_
   refine hK5 _ _ ?_;rw[ha]
   refine Rc.mk ?_
   refine gPk0 Wre (o:=(M1+7)) (ob:=⟨24,1,eL zT s3++[[.esl]]⟩) (row:=[.esl]) (r:=s3.length) (i:=0) 3 1 [(M1+7,some ⟨24,1,eL zT s3++[[.osl 3 1 (eL rI ([]:List Int))]]⟩)] (by simp(disch:=omega)) (app_get _ _ _) rfl (by simp(disch:=omega)) (by simp(disch:=omega) [eN,app_set]) ?_
   rw[show hp E0 [(M1+7,some ⟨24,1,eL zT s3++[[.osl 3 1 (eL rI ([]:List Int))]]⟩)] (M1+9)=hp E0 [(M1+7,some ⟨24,1,eL zT l5⟩)] (M1+9) from by rw[← app_enc (f:=zT) (c:=[.osl 3 1 (eL rI ([]:List Int))]) hl5 rfl]]
   refine Rt0 tok [] [0,3,4] fun a ha=>?_
   obtain rfl:=oi H
   refine hK3 _ _ _ rfl ?_;rw[ha]
   exact Rf ⟨M1+12,(M1+7),(by omega),(by omega),(by omega),rfl,rfl⟩
  obtain rfl:=oi (ifF C2 H)
  refine zM (hO3 _ _ _ _ rfl ⟨rfl,?_⟩)
  refine Rc.rw (l:=[0,3]) (X:=[(0,.fsl (eL rQuad p0)),(3,.sl o1 0 s3.length)]) rfl ?_
  exact Rf ⟨M1+4,o1,(by omega),(by omega),(by omega),rfl,rfl⟩
 intro x a σ hx
 obtain⟨y4,rfl⟩:∃x,x=e1:=⟨_,rfl⟩
 obtain⟨rfl,b,τ,hr,M2,o2,fM2_0,fM2_1,fM2_2,rfl,rfl⟩:=hx
 (try dsimp only at H)
 show K2 _ _
 refine hK2 _ _ (zL hr ?_)
 refine Rc.mk ?_
 obtain⟨r6,hr6,H⟩:=bE H
 obtain⟨v7,hv7,H⟩:=bE H
 refine kX tok [] [0,3] (fun a σ=>∃M3 o3:Nat,M2+4≤M3∧M2+4≤o3∧o3<M3∧a=[(0,.fsl (eL rQuad p0)),(3,.sl o2 0 y4.length)]∧σ=hp E0 [(o2,some ⟨24,1,(eL zT y4).set 0 [.sl o3 0 r6.length]⟩),(o3,some ⟨3,1,eL rI r6⟩)] M3) (fun K hK=>?_) ?_
 ·skip
  simp -dsimp -implicitDefEqProofs [ixo120 hv7,(show _[0]? =some v7 from(zE hv7).2.2)]
  refine(c199_o (H:=hr6)).mono ?_;rintro _ _ ⟨M3,o3,fM3_0,fM3_1,fM3_2,rfl,rfl⟩;simp only[hpN] at fM3_0 fM3_1 fM3_2
  have eM3_0:=nQ o3 o2
  try simp -dsimp -implicitDefEqProofs [ixo120 hv7,(show _[0]? =some v7 from(zE hv7).2.2),eM3_0,hoS,hoN]
  exact hK _ _ ⟨M3,o3,(by omega),(by omega),(by omega),rfl,rfl⟩
 rintro a σ ⟨M3,o3,fM3_0,fM3_1,fM3_2,rfl,rfl⟩
 refine Wsq [0,3] fun K6 hK6=>?_
 refine Wbl (Wth ?_)
 obtain⟨l8,hl8,H⟩:=bE H
 obtain⟨e2,hse2,H⟩:=bE H
 refine zU [0,3] (fun s a σ=>∃M4 o4:Nat,N0≤M4∧N0≤o4∧o4<M4∧a=[(0,.fsl (eL rQuad p0)),(3,.sl o4 0 s.length)]∧σ=hp E0 [(o4,some ⟨24,1,eL zT s⟩)] M4) (fun s x a σ=>x=.exit 2∧Rc G 44 N0 (fun a σ=>∃M5 o5:Nat,N0≤M5∧N0≤o5∧o5<M5∧a=[(0,.fsl (eL rQuad p0)),(3,.sl o5 0 s.length)]∧σ=hp E0 [(o5,some ⟨24,1,eL zT s⟩)] M5) (AAct.keep a [0,3]) σ) hse2 ?_ ?_ ?_
 ·refine Rc.kp [0,3] [(0,.fsl (eL rQuad p0)),(3,.sl o2 0 y4.length)] rfl ?_
  refine gP zL o2 0 0 ?_ (hr:=by exact gset hv7 _)
  rw[show hp E0 [(o2,some ⟨24,1,(eL zT y4).set 0 [.osl 3 1 (eL rI r6)]⟩)] M3=hp E0 [(o2,some ⟨24,1,eL zT l8⟩)] M3 from by rw[(setx_iff.1 hl8).2,← zY];rfl];(try rw[← zD hl8])
  exact Rf ⟨M3,o2,(by omega),(by omega),(by omega),rfl,rfl⟩
 ·clear H hse2
  rintro s9 fl a σ H ⟨M4,o4,fM4_0,fM4_1,fM4_2,rfl,rfl⟩ K7 O7 hK7 hO7
  unfold s_CopiesOf_L2 at H;dsimp only at H
  refine Wsq [0,3] fun K8 hK8=>?_
  obtain⟨r11,hr11,H⟩:=bE H
  refine kX tok [] [0,3,26] (fun a σ=>∃M6:Nat,M4+3≤M6∧r11.2.length=s9.length∧a=[(0,.fsl (eL rQuad p0)),(3,.sl o4 0 s9.length),(26,.bool r11.1)]∧σ=hp E0 [(o4,some ⟨24,1,eL zT r11.2⟩)] M6) (fun K hK=>?_) ?_
  ·skip
   simp -dsimp -implicitDefEqProofs
   refine(c200 (H:=hr11) (by simp)).mono ?_;rintro _ _ ⟨M6,fM6_0,fM6_1,rfl,rfl⟩;simp only[hpN] at fM6_0
   try simp -dsimp -implicitDefEqProofs [hoS,hoN]
   exact hK _ _ ⟨M6,(by omega),fM6_1,rfl,rfl⟩
  rintro a σ ⟨M6,fM6_0,fM6_1,rfl,rfl⟩
  try rw[← fM6_1]
  refine Cd (fun C3=>?_) fun C3=>?_
  ·replace H:=ifT C3 H
   refine Wsk (Jn hK8 ?_)
   refine Wbl (Wth ?_)
   refine Wsk ?_
   show K7 _ _
   refine kE [0,3] fun a' ha=>?_
   obtain rfl:=oi H
   refine hK7 _ _ _ rfl ?_;rw[ha]
   exact Rf ⟨M6,o4,(by omega),(by omega),(by omega),rfl,rfl⟩
  obtain rfl:=oi (ifF C3 H)
  refine zM (hO7 _ _ _ _ rfl ⟨rfl,?_⟩)
  refine Rc.rw (l:=[0,3]) (X:=[(0,.fsl (eL rQuad p0)),(3,.sl o4 0 r11.2.length)]) rfl ?_
  exact Rf ⟨M6,o4,(by omega),(by omega),(by omega),rfl,rfl⟩
 intro x a σ hx
 obtain⟨y10,rfl⟩:∃x,x=e2:=⟨_,rfl⟩
 obtain⟨rfl,b,τ,hr,M5,o5,fM5_0,fM5_1,fM5_2,rfl,rfl⟩:=hx
 (try dsimp only at H)
 show K6 _ _
 refine hK6 _ _ (zL hr ?_)
 refine Rc.mk ?_
 refine Wsq [3] fun K9 hK9=>?_
 refine S0 tok [] [0,3,5] ?_
 refine Wbl (Wth ?_)
 obtain⟨e3,hse3,H⟩:=bE H
 refine zU [0,3,5] (fun s a σ=>∃M7 o6:Nat,N0≤M7∧N0≤o6∧o6<M7∧a=[(0,.fsl (eL rQuad p0)),(3,.sl o6 0 s.2.length),(5,.int .i64 s.1)]∧σ=hp E0 [(o6,some ⟨24,1,eL zT s.2⟩)] M7) (fun s x a σ=>x=.exit 4∧Rc G 44 N0 (fun a σ=>∃M8 o7:Nat,N0≤M8∧N0≤o7∧o7<M8∧a=[(3,.sl o7 0 s.length)]∧σ=hp E0 [(o7,some ⟨24,1,eL zT s⟩)] M8) (AAct.keep a [3]) σ) hse3 ?_ ?_ ?_
 ·refine Rc.kp [0,3,5] [(0,.fsl (eL rQuad p0)),(3,.sl o5 0 y10.length),(5,.int .i64 0)] rfl ?_
  exact Rf ⟨M5+1,o5,(by omega),(by omega),(by omega),rfl,rfl⟩
 ·clear H hse3
  rintro⟨s12,s13⟩ fl a σ H ⟨M7,o6,fM7_0,fM7_1,fM7_2,rfl,rfl⟩ K10 O10 hK10 hO10
  unfold s_CopiesOf_L3 at H;dsimp only at H
  refine Wsq [0,3,5] fun K11 hK11=>?_
  refine S0 tok [] [0,3,5,30] ?_
  refine Cd (fun C4=>?_) fun C4=>?_
  ·replace H:=ifT C4 H
   refine Wsk (Jn hK11 ?_)
   refine Wsq [0,3,5] fun K12 hK12=>?_
   refine Wbl (Wth ?_)
   obtain⟨v15,hv15,H⟩:=bE H
   refine gU Wre o6 s12.toNat 0 ?_ (hr:=by exact encL_at zT hv15)
   refine Sx tok [] [0,3,5,38] (by
    intro K k
    have e0:=nQ o6 (M7+4)
    simp -dsimp -implicitDefEqProofs [e0,(gset hv15 _),ixo120 hv15,(zE hv15).2.2]
    exact k) ?_
   refine Cd (fun C5=>?_) fun C5=>?_
   ·replace H:=ifT C5 H
    refine gP Wre o6 s12.toNat 0 ?_ (hr:=by exact gset hv15 _)
    obtain⟨l16,hl16,H⟩:=bE H
    rw[show hp E0 [(o6,some ⟨24,1,(eL zT s13).set s12.toNat [.osl 3 1 (eL rI v15)]⟩)] (M7+11)=hp E0 [(o6,some ⟨24,1,eL zT l16⟩)] (M7+11) from by rw[(setx_iff.1 hl16).2,← zY];rfl];(try rw[← zD hl16])
    obtain⟨r17,hr17,H⟩:=bE H
    obtain⟨v18,hv18,H⟩:=bE H
    refine AWP_rt tok [] [0,3,5] (fun a σ=>∃M9 o8:Nat,M7+16≤M9∧M7+16≤o8∧o8<M9∧a=[(0,.fsl (eL rQuad p0)),(3,.sl o6 0 l16.length),(5,.int .i64 s12)]∧σ=hp E0 [(o6,some ⟨24,1,(eL zT l16).set s12.toNat [.sl o8 0 r17.length]⟩),(o8,some ⟨3,1,eL rI r17⟩)] M9) (fun K hK=>?_) ?_
    ·skip
     simp -dsimp -implicitDefEqProofs [ixo120 hv18,(zE hv18).2.2]
     refine(c199_o (H:=hr17)).mono ?_;rintro _ _ ⟨M9,o8,fM9_0,fM9_1,fM9_2,rfl,rfl⟩;simp only[hpN] at fM9_0 fM9_1 fM9_2
     have eM9_0:=nQ o8 o6
     try simp -dsimp -implicitDefEqProofs [ixo120 hv18,(zE hv18).2.2,eM9_0,hoS,hoN]
     exact hK _ _ ⟨M9,o8,(by omega),(by omega),(by omega),rfl,rfl⟩
    rintro a σ ⟨M9,o8,fM9_0,fM9_1,fM9_2,ha,rfl⟩
    refine hK12 _ _ ?_;rw[ha]
    refine Rc.mk ?_
    refine Rt tok [] [0,3,5] (by
     intro K k
     have e0:=nQ o6 o8
     simp -dsimp -implicitDefEqProofs [e0,(gset hv18 _)]
     exact k) fun a ha=>?_
    obtain⟨l19,hl19,H⟩:=bE H
    obtain rfl:=oi H
    refine hK10 _ _ _ rfl ?_;rw[ha]
    refine gP zL o6 s12.toNat 0 ?_ (hr:=by exact gset hv18 _)
    rw[show hp E0 [(o6,some ⟨24,1,(eL zT l16).set s12.toNat [.osl 3 1 (eL rI r17)]⟩)] (M9+3)=hp E0 [(o6,some ⟨24,1,eL zT l19⟩)] (M9+3) from by rw[(setx_iff.1 hl19).2,← zY];rfl];(try rw[← zD hl19])
    exact Rf ⟨M9+3,o6,(by omega),(by omega),(by omega),rfl,rfl⟩
   replace H:=ifF C5 H
   refine Wsk (Jn hK12 ?_)
   refine Rt tok [] [0,3,5] (by
    intro K k
    have e0:=nQ o6 (M7+4)
    simp -dsimp -implicitDefEqProofs [e0,(gset hv15 _)]
    exact k) fun a ha=>?_
   obtain⟨l20,hl20,H⟩:=bE H
   obtain rfl:=oi H
   refine hK10 _ _ _ rfl ?_;rw[ha]
   refine gP zL o6 s12.toNat 0 ?_ (hr:=by exact gset hv15 _)
   rw[show hp E0 [(o6,some ⟨24,1,(eL zT s13).set s12.toNat [.osl 3 1 (eL rI v15)]⟩)] (M7+14)=hp E0 [(o6,some ⟨24,1,eL zT l20⟩)] (M7+14) from by rw[(setx_iff.1 hl20).2,← zY];rfl];(try rw[← zD hl20])
   exact Rf ⟨M7+14,o6,(by omega),(by omega),(by omega),rfl,rfl⟩
  obtain rfl:=oi (ifF C4 H)
  refine zM (hO10 _ _ _ _ rfl ⟨rfl,?_⟩)
  refine Rc.rw (l:=[3]) (X:=[(3,.sl o6 0 s13.length)]) rfl ?_
  exact Rf ⟨M7+4,o6,(by omega),(by omega),(by omega),rfl,rfl⟩
 intro x a σ hx
 obtain⟨y14,rfl⟩:∃x,x=e3:=⟨_,rfl⟩
 obtain⟨rfl,b,τ,hr,M8,o7,fM8_0,fM8_1,fM8_2,rfl,rfl⟩:=hx
 (try dsimp only at H)
 show K9 _ _
 refine hK9 _ _ (zL hr ?_)
 refine Rc.mk ?_
 refine S0 tok [] [2] ?_
 obtain rfl:=oi H;exact Wr ⟨_,rfl,4,by simp[eN]⟩

theorem c181 {p0:gQuad}{p1:(List Int)}{r:gQuad}(H:s_l34Read p0 p1=some r):APure Tryz.prog G 181 [.agg [.int .i64 p0.Op,.int .i64 p0.Dst,.int .i64 p0.A,.int .i64 p0.B,.int .i64 p0.N],.fsl (eL rI p1)] (.agg [.int .i64 r.Op,.int .i64 r.Dst,.int .i64 r.A,.int .i64 r.B,.int .i64 r.N]):=by
 refine zB (fun N0=>?_) (by simp)
 refine fnK tok Tryz.func181 Tryz.ntmps181 Tryz.results181 ?_
 simp only[argsA,Nat.reduceAdd,hpN]
 unfold s_l34Read at H
 refine S0 tok [] [1,2,4] ?_
 refine Wsq [2,4] fun K1 hK1=>?_
 refine S0 tok [] [1,2,4,6] ?_
 refine Wbl (Wth ?_)
 obtain⟨j1,hj1,H⟩:=bE H
 refine kL (kI fun K2 hK2=>?_)
 have hJ1:∀a σ,Rc G 33 N0 (fun a σ=>∃M1:Nat,N0≤M1∧N0<M1∧N0+1<M1∧a=[(1,.fsl (eL rI p1)),(2,.ptr N0 0 0),(4,.ptr (N0+1) 0 0),(6,.int .i64 p0.Op),(7,.bool j1)]∧σ=hp E0 [(N0,some ⟨36,5,[[.int .i64 p0.Op,.int .i64 p0.Dst,.int .i64 p0.A,.int .i64 p0.B,.int .i64 p0.N]]⟩),(N0+1,some ⟨36,5,[[.int .i64 0,.int .i64 0,.int .i64 0,.int .i64 0,.int .i64 0]]⟩)] M1) (a.keep [1,2,4,6,7]) σ→K2 a σ:=by
  rintro a σ ⟨b,τ,hr,M1,fM1_0,fM1_1,fM1_2,rfl,rfl⟩
  refine hK2 _ _ (kA [1,2,4,6,7] (Wre hr ?_))
  refine Cd (fun C1=>?_) fun C1=>?_
  ·replace H:=ifT C1 H
   obtain⟨v2,hv2,H⟩:=bE H
   refine Rt tok [] [2,4] (by intro K k;simp -dsimp -implicitDefEqProofs [ix24 hv2];exact k) fun a ha=>?_
   refine hK1 _ _ ?_;rw[ha]
   refine Rc.mk ?_
   refine S0 tok [] [4] ?_
   obtain rfl:=oi H
   refine Kp [4] ?_
   refine Wr ?_
   exact⟨[.agg [.int .i64 p0.Op,.int .i64 p0.Dst,.int .i64 v2,.int .i64 p0.B,.int .i64 p0.N]],by simp,4,by simp[eN]⟩
  replace H:=ifF C1 H
  refine S0 tok [] [1,2,4,18] ?_
  refine Cd (fun C2=>?_) fun C2=>?_
  ·replace H:=ifT C2 H
   obtain⟨v3,hv3,H⟩:=bE H
   refine Sx tok [] [1,2,4] (by intro K k;simp -dsimp -implicitDefEqProofs [ix24 hv3];exact k) ?_
   obtain⟨v4,hv4,H⟩:=bE H
   refine Rt tok [] [2,4] (by intro K k;simp -dsimp -implicitDefEqProofs [ix24 hv4];exact k) fun a ha=>?_
   refine hK1 _ _ ?_;rw[ha]
   refine Rc.mk ?_
   refine S0 tok [] [4] ?_
   obtain rfl:=oi H
   refine Kp [4] ?_
   refine Wr ?_
   exact⟨[.agg [.int .i64 p0.Op,.int .i64 p0.Dst,.int .i64 v3,.int .i64 v4,.int .i64 p0.N]],by simp,4,by simp[eN]⟩
  replace H:=ifF C2 H
  refine Wsk (Jn hK1 ?_)
  refine S0 tok [] [4] ?_
  obtain rfl:=oi H
  refine Kp [4] ?_
  refine Wr ?_
  exact⟨[.agg [.int .i64 p0.Op,.int .i64 p0.Dst,.int .i64 p0.A,.int .i64 p0.B,.int .i64 p0.N]],by simp,4,by simp[eN]⟩
 replace H:=hj1
 refine S0 tok [] [1,2,4,6,7] ?_
 refine Cd (fun C3=>?_) fun C3=>?_
 ·replace H:=ifT C3 H
  refine Wsk ?_
  show K2 _ _
  refine kE [1,2,4,6,7] fun a' ha=>?_
  obtain rfl:=oi H
  refine hJ1 _ _ ?_;rw[ha]
  exact Rf ⟨N0+6,(by omega),(by omega),(by omega),rfl,rfl⟩
 replace H:=ifF C3 H
 refine S0 tok [] [1,2,4,6,7] ?_
 refine Cd (fun C4=>?_) fun C4=>?_
 ·replace H:=ifT C4 H
  refine Wsk ?_
  show K2 _ _
  refine kE [1,2,4,6,7] fun a' ha=>?_
  obtain rfl:=oi H
  refine hJ1 _ _ ?_;rw[ha]
  exact Rf ⟨N0+8,(by omega),(by omega),(by omega),rfl,rfl⟩
 replace H:=ifF C4 H
 refine S0 tok [] [1,2,4,6,7] ?_
 refine Cd (fun C5=>?_) fun C5=>?_
 ·replace H:=ifT C5 H
  refine Wsk ?_
  show K2 _ _
  refine kE [1,2,4,6,7] fun a' ha=>?_
  obtain rfl:=oi H
  refine hJ1 _ _ ?_;rw[ha]
  exact Rf ⟨N0+10,(by omega),(by omega),(by omega),rfl,rfl⟩
 replace H:=ifF C5 H
 refine Rt0 tok [] [1,2,4,6,7] fun a ha=>?_
 obtain rfl:=oi H
 refine hJ1 _ _ ?_;rw[ha]
 exact Rf ⟨N0+12,(by omega),(by omega),(by omega),rfl,rfl⟩

theorem c164 {p0:(List gQuad)}{r:(List gQuad)×Bool}(H:s_CopyCode p0=some r):APure Tryz.prog G 164 [.fsl (eL rQuad p0)] (.tup [.fsl (eL rQuad r.1),.bool r.2]):=by
 refine zB (fun N0=>?_) (by simp)
 refine fnK tok Tryz.func164 Tryz.ntmps164 Tryz.results164 ?_
 simp only[argsA,Nat.reduceAdd,hpN]
 unfold s_CopyCode at H
 refine S0 tok [] [0] ?_
 have q0:∀σ i,bsA T 23 true i 0 [] σ=some (.esl,σ):=fun _ _=>rfl
 refine Sx tok [0] [0,4] (by intro K k;simp -dsimp -implicitDefEqProofs [q0];exact k) ?_
 refine Wsq [0,4] fun K1 hK1=>?_
 obtain⟨r1,hr1,H⟩:=bE H
 refine Sx tok [] [0,4,10] (by intro K k;(repeat first|simp -dsimp -implicitDefEqProofs|refine(c117 hr1).app ?_);exact k) ?_
 refine Cd (fun C1=>?_) fun C1=>?_
 ·replace H:=ifT C1 H
  refine S0 tok [] [2,3] ?_
  obtain rfl:=oi H;exact Wr ⟨_,rfl,4,by simp[eN]⟩
 replace H:=ifF C1 H
 refine Wsk (Jn hK1 ?_)
 obtain⟨r2,hr2,H⟩:=bE H
 refine Sx tok [] [0,4,5] (by intro K k;(repeat first|simp -dsimp -implicitDefEqProofs|refine(c180 hr2).app ?_);exact k) ?_
 refine Wsq [4] fun K2 hK2=>?_
 refine S0 tok [] [0,4,5,6] ?_
 refine Wbl (Wth ?_)
 obtain⟨e1,hse1,H⟩:=bE H
 refine zU [0,4,5,6] (fun s a σ=>∃M1 o1:Nat,N0≤M1∧N0≤o1∧o1<M1∧a=[(0,.fsl (eL rQuad p0)),(4,.sl o1 0 s.2.length),(5,.fsl (eL rL_I r2)),(6,.int .i64 s.1)]∧σ=hp E0 [(o1,some ⟨36,5,eL rQuad s.2⟩)] M1) (fun s x a σ=>x=.exit 0∧Rc G 33 N0 (fun a σ=>∃M2 o2:Nat,N0≤M2∧N0≤o2∧o2<M2∧a=[(4,.sl o2 0 s.length)]∧σ=hp E0 [(o2,some ⟨36,5,eL rQuad s⟩)] M2) (AAct.keep a [4]) σ) hse1 ?_ ?_ ?_
 ·refine Rc.kp [0,4,5,6] [(0,.fsl (eL rQuad p0)),(4,.esl),(5,.fsl (eL rL_I r2)),(6,.int .i64 0)] rfl ?_
  refine gNilS zL 4 36 5 [(N0+11,some ⟨36,5,eL rQuad ([]:List gQuad)⟩)] [(0,.fsl (eL rQuad p0)),(4,.sl (N0+11) 0 ([]:List gQuad).length),(5,.fsl (eL rL_I r2)),(6,.int .i64 0)] (by simp(disch:=omega)) (by simp(disch:=omega) [eN]) [0,4,5,6] rfl ?_
  exact Rf ⟨N0+12,(N0+11),(by omega),(by omega),(by omega),rfl,rfl⟩
 ·clear H hse1
  rintro⟨s3,s4⟩ fl a σ H ⟨M1,o1,fM1_0,fM1_1,fM1_2,rfl,rfl⟩ K3 O3 hK3 hO3
  unfold s_CopyCode_L1 at H;dsimp only at H
  refine Wsq [0,4,5,6] fun K4 hK4=>?_
  refine S0 tok [] [0,4,5,6,17] ?_
  refine Cd (fun C2=>?_) fun C2=>?_
  ·replace H:=ifT C2 H
   refine Wsk (Jn hK4 ?_)
   refine Wsq [0,4,5,6] fun K5 hK5=>?_
   refine Wbl (Wth ?_)
   obtain⟨v6,hv6,H⟩:=bE H
   obtain⟨v7,hv7,H⟩:=bE H
   obtain⟨r8,hr8,H⟩:=bE H
   obtain⟨l9,hl9,H⟩:=bE H
   have q1:∀σ i,bsA T 23 true i 1 [(0,.agg [.int .i64 r8.Op,.int .i64 r8.Dst,.int .i64 r8.A,.int .i64 r8.B,.int .i64 r8.N])] σ=some (.fsl (eL rQuad ([r8]:List gQuad)),σ):=fun _ _=>rfl
   refine AWP_rd tok tokM [10] [11] [0,1,2,3,4,5,6,7,8,9,10,11,12] [0,4,5,6] (fun a σ=>a=[(0,.fsl (eL rQuad p0)),(4,.sl (M1+15) 0 l9.length),(5,.fsl (eL rL_I r2)),(6,.int .i64 s3)]∧σ=hp E0 [(M1+15,some ⟨36,5,eL rQuad l9⟩)] (M1+17)) (by decide) (fun K hK=>?_) ?_
   ·simp only[pickL,zH,zJ]
    have e0:=nQ o1 (M1+15)
    simp -dsimp -implicitDefEqProofs [e0,ix23 hv6,ix120 hv7,q1,app23 hl9]
    refine Pc.mk (c181 hr8) ?_;try simp -dsimp -implicitDefEqProofs [e0,ix23 hv6,ix120 hv7,q1,app23 hl9]
    exact hK _ _ ⟨rfl,rfl⟩
   rintro a σ ⟨ha,rfl⟩
   refine hK5 _ _ ?_;rw[ha]
   refine Rc.mk ?_
   refine Rt0 tok [] [0,4,5,6] fun a ha=>?_
   obtain rfl:=oi H
   refine hK3 _ _ _ rfl ?_;rw[ha]
   exact Rf ⟨M1+20,(M1+15),(by omega),(by omega),(by omega),rfl,rfl⟩
  obtain rfl:=oi (ifF C2 H)
  refine zM (hO3 _ _ _ _ rfl ⟨rfl,?_⟩)
  refine Rc.rw (l:=[4]) (X:=[(4,.sl o1 0 s4.length)]) rfl ?_
  exact Rf ⟨M1+4,o1,(by omega),(by omega),(by omega),rfl,rfl⟩
 intro x a σ hx
 obtain⟨y5,rfl⟩:∃x,x=e1:=⟨_,rfl⟩
 obtain⟨rfl,b,τ,hr,M2,o2,fM2_0,fM2_1,fM2_2,rfl,rfl⟩:=hx
 (try dsimp only at H)
 show K2 _ _
 refine hK2 _ _ (zL hr ?_)
 refine Rc.mk ?_
 refine S0 tok [] [2,3] ?_
 obtain rfl:=oi H;exact Wr ⟨_,rfl,4,by simp[eN]⟩

theorem c182 {p0:(List gQuad)}{p1:Int}{r:Int}(H:s_l36Target p0 p1=some r):APure Tryz.prog G 182 [.fsl (eL rQuad p0),.int .i64 p1] (.int .i64 r):=by
 refine zB (fun N0=>?_) (by simp)
 refine fnK tok Tryz.func182 Tryz.ntmps182 Tryz.results182 ?_
 simp only[argsA,Nat.reduceAdd,hpN]
 unfold s_l36Target at H
 refine S0 tok [] [0,1] ?_
 refine S0 tok [] [0,1,5] ?_
 refine Wsq [1] fun K1 hK1=>?_
 refine S0 tok [] [0,1,5,6] ?_
 refine Wbl (Wth ?_)
 obtain⟨e1,hse1,H⟩:=bE H
 refine zU [0,1,5,6] (fun s a σ=>∃M1:Nat,N0≤M1∧a=[(0,.fsl (eL rQuad p0)),(1,.int .i64 p1),(5,.int .i64 s.1),(6,.int .i64 s.2)]∧σ=hp E0 [] M1) (fun e x a σ=>match e with|.inl s=>x=.exit 0∧Rc G 27 N0 (fun a σ=>∃M2:Nat,N0≤M2∧a=[(1,.int .i64 p1)]∧σ=hp E0 [] M2) (AAct.keep a [1]) σ|.inr s=>x=.ret∧∃vs,resA T σ a [.tmp 4]=some vs∧∃d,thawA (fun _=>true) σ d (tupA vs)=.int .i64 s) hse1 ?_ ?_ ?_
 ·refine Rc.kp [0,1,5,6] [(0,.fsl (eL rQuad p0)),(1,.int .i64 p1),(5,.int .i64 p1),(6,.int .i64 0)] rfl ?_
  exact Rf ⟨N0+4,(by omega),rfl,rfl⟩
 ·clear H hse1
  rintro⟨s1,s2⟩ fl a σ H ⟨M1,fM1_0,rfl,rfl⟩ K2 O2 hK2 hO2
  unfold s_l36Target_L1 at H;dsimp only at H
  refine Wsq [0,1,5,6] fun K3 hK3=>?_
  refine S0 tok [] [0,1,5,6,11] ?_
  refine Cd (fun C1=>?_) fun C1=>?_
  ·replace H:=ifT C1 H
   refine Wsk (Jn hK3 ?_)
   refine Wsq [0,1,5,6] fun K4 hK4=>?_
   refine Wbl (Wth ?_)
   refine Wsq [0,1,5,6] fun K5 hK5=>?_
   obtain⟨v3,hv3,H⟩:=bE H
   refine Sx tok [] [0,1,5,6,19] (by intro K k;simp -dsimp -implicitDefEqProofs [ix23 hv3];exact k) ?_
   refine Cd (fun C2=>?_) fun C2=>?_
   ·replace H:=ifT C2 H
    refine S0 tok [] [4] ?_
    obtain rfl:=oi H
    refine Kp [4] ?_
    refine Wr (hO2 _ _ _ _ rfl ⟨rfl,?_⟩)
    exact⟨[.int .i64 s1],by simp,4,by simp[eN]⟩
   replace H:=ifF C2 H
   refine Wsk (Jn hK5 ?_)
   refine Rt tok [] [0,1,5,6] (by intro K k;simp -dsimp -implicitDefEqProofs [ix23 hv3];exact k) fun a ha=>?_
   refine hK4 _ _ ?_;rw[ha]
   refine Rc.mk ?_
   refine Rt0 tok [] [0,1,5,6] fun a ha=>?_
   obtain rfl:=oi H
   refine hK2 _ _ _ rfl ?_;rw[ha]
   exact Rf ⟨M1+19,(by omega),rfl,rfl⟩
  obtain rfl:=oi (ifF C1 H)
  refine zM (hO2 _ _ _ _ rfl ⟨rfl,?_⟩)
  refine Rc.rw (l:=[1]) (X:=[(1,.int .i64 p1)]) rfl ?_
  exact Rf ⟨M1+4,(by omega),rfl,rfl⟩
 intro x a σ hx
 rcases e1 with⟨⟩|r0
 ·obtain⟨rfl,b,τ,hr,M2,fM2_0,rfl,rfl⟩:=hx
  (try dsimp only at H)
  show K1 _ _
  refine hK1 _ _ (zL hr ?_)
  refine Rc.mk ?_
  refine S0 tok [] [4] ?_
  obtain rfl:=oi H;exact Wr ⟨_,rfl,4,by simp[eN]⟩
 obtain⟨rfl,hx2⟩:=hx
 (try dsimp only at H)
 obtain rfl:=oi H;first|exact hx2|(simp only[List.set_set] at hx2 ⊢;exact hx2)

theorem c165 {p0:(List gQuad)}{r:(List gQuad)×Bool}(H:s_JumpCode p0=some r):APure Tryz.prog G 165 [.fsl (eL rQuad p0)] (.tup [.fsl (eL rQuad r.1),.bool r.2]):=by
 refine zB (fun N0=>?_) (by simp)
 refine fnK tok Tryz.func165 Tryz.ntmps165 Tryz.results165 ?_
 simp only[argsA,Nat.reduceAdd,hpN]
 unfold s_JumpCode at H
 refine S0 tok [] [0] ?_
 have q0:∀σ i,bsA T 23 true i 0 [] σ=some (.esl,σ):=fun _ _=>rfl
 refine Sx tok [0] [0,4] (by intro K k;simp -dsimp -implicitDefEqProofs [q0];exact k) ?_
 refine Wsq [0,4] fun K1 hK1=>?_
 obtain⟨r1,hr1,H⟩:=bE H
 refine Sx tok [] [0,4,10] (by intro K k;(repeat first|simp -dsimp -implicitDefEqProofs|refine(c117 hr1).app ?_);exact k) ?_
 refine Cd (fun C1=>?_) fun C1=>?_
 ·replace H:=ifT C1 H
  refine S0 tok [] [2,3] ?_
  obtain rfl:=oi H;exact Wr ⟨_,rfl,4,by simp[eN]⟩
 replace H:=ifF C1 H
 refine Wsk (Jn hK1 ?_)
 refine Wsq [4] fun K2 hK2=>?_
 refine S0 tok [] [0,4,5] ?_
 refine Wbl (Wth ?_)
 obtain⟨e2,hse2,H⟩:=bE H
 refine zU [0,4,5] (fun s a σ=>∃M1 o1:Nat,N0≤M1∧N0≤o1∧o1<M1∧a=[(0,.fsl (eL rQuad p0)),(4,.sl o1 0 s.2.length),(5,.int .i64 s.1)]∧σ=hp E0 [(o1,some ⟨36,5,eL rQuad s.2⟩)] M1) (fun s x a σ=>x=.exit 0∧Rc G 40 N0 (fun a σ=>∃M2 o2:Nat,N0≤M2∧N0≤o2∧o2<M2∧a=[(4,.sl o2 0 s.length)]∧σ=hp E0 [(o2,some ⟨36,5,eL rQuad s⟩)] M2) (AAct.keep a [4]) σ) hse2 ?_ ?_ ?_
 ·refine Rc.kp [0,4,5] [(0,.fsl (eL rQuad p0)),(4,.esl),(5,.int .i64 0)] rfl ?_
  refine gNilS zL 4 36 5 [(N0+8,some ⟨36,5,eL rQuad ([]:List gQuad)⟩)] [(0,.fsl (eL rQuad p0)),(4,.sl (N0+8) 0 ([]:List gQuad).length),(5,.int .i64 0)] (by simp(disch:=omega)) (by simp(disch:=omega) [eN]) [0,4,5] rfl ?_
  exact Rf ⟨N0+9,(N0+8),(by omega),(by omega),(by omega),rfl,rfl⟩
 ·clear H hse2
  rintro⟨s2,s3⟩ fl a σ H ⟨M1,o1,fM1_0,fM1_1,fM1_2,rfl,rfl⟩ K3 O3 hK3 hO3
  unfold s_JumpCode_L1 at H;dsimp only at H
  refine Wsq [0,4,5] fun K4 hK4=>?_
  refine S0 tok [] [0,4,5,15] ?_
  refine Cd (fun C2=>?_) fun C2=>?_
  ·replace H:=ifT C2 H
   refine Wsk (Jn hK4 ?_)
   refine Wsq [0,4,5] fun K5 hK5=>?_
   refine Wbl (Wth ?_)
   obtain⟨v5,hv5,H⟩:=bE H
   refine Sx tok [] [0,4,5,6] (by
    intro K k
    have e0:=nQ o1 (M1+8)
    simp -dsimp -implicitDefEqProofs [e0,ix23 hv5]
    exact k) ?_
   obtain⟨j1,hj1,H⟩:=bE H
   refine kL (kI fun K6 hK6=>?_)
   have hJ1:∀a σ,Rc G 40 N0 (fun a σ=>∃M3:Nat,N0≤M3∧o1<M3∧M1+8<M3∧a=[(0,.fsl (eL rQuad p0)),(4,.sl o1 0 s3.length),(5,.int .i64 s2),(6,.ptr (M1+8) 0 0)]∧σ=hp E0 [(o1,some ⟨36,5,eL rQuad s3⟩),(M1+8,some ⟨36,5,[[.int .i64 j1.Op,.int .i64 j1.Dst,.int .i64 j1.A,.int .i64 j1.B,.int .i64 j1.N]]⟩)] M3) (a.keep [0,4,5,6]) σ→K6 a σ:=by
    rintro a σ ⟨b,τ,hr,M3,fM3_0,fM3_1,fM3_2,rfl,rfl⟩
    refine hK6 _ _ (kA [0,4,5,6] (Wre hr ?_))
    obtain⟨l7,hl7,H⟩:=bE H
    have q1:∀σ i,bsA T 23 true i 1 [(0,.agg [.int .i64 j1.Op,.int .i64 j1.Dst,.int .i64 j1.A,.int .i64 j1.B,.int .i64 j1.N])] σ=some (.fsl (eL rQuad ([j1]:List gQuad)),σ):=fun _ _=>rfl
    refine Rt tok [2] [0,4,5] (by
     intro K k
     have e0:=nQ o1 (M1+8)
     have e1:=nQ o1 (M3+3)
     have e2:=nQ (M1+8) (M3+3)
     have e3:=nQ (M1+5) M3
     simp -dsimp -implicitDefEqProofs [e0,e1,e2,e3,q1,app23 hl7]
     exact k) fun a ha=>?_
    refine hK5 _ _ ?_;rw[ha]
    refine Rc.mk ?_
    refine Rt tok [] [0,4,5] (by
     intro K k
     have e0:=nQ (M1+8) (M3+3)
     have e1:=nQ (M1+5) M3
     simp -dsimp -implicitDefEqProofs [e0,e1]
     exact k) fun a ha=>?_
    obtain rfl:=oi H
    refine hK3 _ _ _ rfl ?_;rw[ha]
    exact Rc.fin (AHeap.Sub.trans (zK (AHeap.Sub.refl _)) (zR rfl (by simp;try omega))) ⟨M3+8,(M3+3),(by omega),(by omega),(by omega),rfl,rfl⟩
   replace H:=hj1
   obtain⟨g8,hg8,H⟩:=bE H
   refine Sx tok [] [0,4,5,6,29] (X:=[(0,.fsl (eL rQuad p0)),(4,.sl o1 0 s3.length),(5,.int .i64 s2),(6,.ptr (M1+8) 0 0),(29,.bool g8)]) (Y:=hp E0 [(o1,some ⟨36,5,eL rQuad s3⟩),(M1+8,some ⟨36,5,[[.int .i64 v5.Op,.int .i64 v5.Dst,.int .i64 v5.A,.int .i64 v5.B,.int .i64 v5.N]]⟩)] (M1+18)) (by
    intro K k
    have e0:=nQ o1 (M1+8)
    simp -dsimp -implicitDefEqProofs [e0]
    cases hbg8:ieq v5.Op 4
    ·obtain rfl:=oi (ifF hbg8 hg8)
     try simp -dsimp -implicitDefEqProofs [e0,hbg8]
     exact k
    obtain rfl:=oi (ifT hbg8 hg8)
    try simp -dsimp -implicitDefEqProofs [e0,hbg8]
    exact k) ?_
   refine Cd (fun C3=>?_) fun C3=>?_
   ·replace H:=ifT C3 H
    obtain⟨r9,hr9,H⟩:=bE H
    refine Rt tok [] [0,4,5,6] (by
     intro K k
     have e0:=nQ o1 (M1+8)
     repeat first|simp -dsimp -implicitDefEqProofs [e0]|refine(c182 hr9).app ?_
     exact k) fun a ha=>?_
    obtain rfl:=oi H
    refine hJ1 _ _ ?_;rw[ha]
    exact Rf ⟨M1+24,(by omega),(by omega),(by omega),rfl,rfl⟩
   replace H:=ifF C3 H
   refine Wsk ?_
   show K6 _ _
   refine kE [0,4,5,6] fun a' ha=>?_
   obtain rfl:=oi H
   refine hJ1 _ _ ?_;rw[ha]
   exact Rf ⟨M1+18,(by omega),(by omega),(by omega),rfl,rfl⟩
  obtain rfl:=oi (ifF C2 H)
  refine zM (hO3 _ _ _ _ rfl ⟨rfl,?_⟩)
  refine Rc.rw (l:=[4]) (X:=[(4,.sl o1 0 s3.length)]) rfl ?_
  exact Rf ⟨M1+4,o1,(by omega),(by omega),(by omega),rfl,rfl⟩
 intro x a σ hx
 obtain⟨y4,rfl⟩:∃x,x=e2:=⟨_,rfl⟩
 obtain⟨rfl,b,τ,hr,M2,o2,fM2_0,fM2_1,fM2_2,rfl,rfl⟩:=hx
 (try dsimp only at H)
 show K2 _ _
 refine hK2 _ _ (zL hr ?_)
 refine Rc.mk ?_
 refine S0 tok [] [2,3] ?_
 obtain rfl:=oi H;exact Wr ⟨_,rfl,4,by simp[eN]⟩

theorem c185 {p0:(List gQuad)}{p1:(List (List Bool))}{p2:Int}{r:(List Bool)}(H:s_l32After p0 p1 p2=some r):APure Tryz.prog G 185 [.fsl (eL rQuad p0),.fsl (eL rL_B p1),.int .i64 p2] (.fsl (eL rB r)):=by
 refine zB (fun N0=>?_) (by simp)
 refine fnK tok Tryz.func185 Tryz.ntmps185 Tryz.results185 ?_
 simp only[argsA,Nat.reduceAdd,hpN]
 unfold s_l32After at H
 refine S0 tok [] [0,1,2] ?_
 obtain⟨l1,hl1,H⟩:=bE H
 refine Sx tok [] [0,1,2,7] (by intro K k;simp -dsimp -implicitDefEqProofs [mak66 hl1];exact k) ?_
 obtain⟨r2,hr2,H⟩:=bE H
 refine Sx tok [] [1,7,8] (by intro K k;(repeat first|simp -dsimp -implicitDefEqProofs|refine(c202 hr2).app ?_);exact k) ?_
 refine Wsq [7] fun K1 hK1=>?_
 refine S0 tok [] [1,7,8,9] ?_
 refine Wbl (Wth ?_)
 obtain⟨e2,hse2,H⟩:=bE H
 refine zU [1,7,8,9] (fun s a σ=>∃M1 o1:Nat,N0≤M1∧N0≤o1∧o1<M1∧a=[(1,.fsl (eL rL_B p1)),(7,.sl o1 0 s.2.length),(8,.fsl (eL rI r2)),(9,.int .i64 s.1)]∧σ=hp E0 [(o1,some ⟨4,1,eL rB s.2⟩)] M1) (fun s x a σ=>x=.exit 0∧Rc G 45 N0 (fun a σ=>∃M2 o2:Nat,N0≤M2∧N0≤o2∧o2<M2∧a=[(7,.sl o2 0 s.length)]∧σ=hp E0 [(o2,some ⟨4,1,eL rB s⟩)] M2) (AAct.keep a [7]) σ) hse2 ?_ ?_ ?_
 ·refine Rc.kp [1,7,8,9] [(1,.fsl (eL rL_B p1)),(7,.sl (N0+1) 0 l1.length),(8,.fsl (eL rI r2)),(9,.int .i64 0)] rfl ?_
  exact Rf ⟨N0+8,(N0+1),(by omega),(by omega),(by omega),rfl,rfl⟩
 ·clear H hse2
  rintro⟨s3,s4⟩ fl a σ H ⟨M1,o1,fM1_0,fM1_1,fM1_2,rfl,rfl⟩ K2 O2 hK2 hO2
  unfold xM at H;dsimp only at H
  refine Wsq [1,7,8,9] fun K3 hK3=>?_
  refine S0 tok [] [1,7,8,9,18] ?_
  refine Cd (fun C1=>?_) fun C1=>?_
  ·replace H:=ifT C1 H
   refine Wsk (Jn hK3 ?_)
   refine Wsq [1,7,8,9] fun K4 hK4=>?_
   refine Wbl (Wth ?_)
   refine S0 tok [] [1,7,8,9,10] ?_
   refine Wbl (Wth ?_)
   obtain⟨e1,hse1,H⟩:=bE H
   refine zU [1,7,8,9,10] (fun s a σ=>∃M3 o3:Nat,N0≤M3∧N0≤o3∧o3<M3∧a=[(1,.fsl (eL rL_B p1)),(7,.sl o3 0 s.2.length),(8,.fsl (eL rI r2)),(9,.int .i64 s3),(10,.int .i64 s.1)]∧σ=hp E0 [(o3,some ⟨4,1,eL rB s.2⟩)] M3) (fun s x a σ=>x=.exit 2∧Rc G 45 N0 (fun a σ=>∃M4 o4:Nat,N0≤M4∧N0≤o4∧o4<M4∧a=[(1,.fsl (eL rL_B p1)),(7,.sl o4 0 s.length),(8,.fsl (eL rI r2)),(9,.int .i64 s3)]∧σ=hp E0 [(o4,some ⟨4,1,eL rB s⟩)] M4) (AAct.keep a [1,7,8,9]) σ) hse1 ?_ ?_ ?_
   ·refine Rc.kp [1,7,8,9,10] [(1,.fsl (eL rL_B p1)),(7,.sl o1 0 s4.length),(8,.fsl (eL rI r2)),(9,.int .i64 s3),(10,.int .i64 0)] rfl ?_
    exact Rf ⟨M1+5,o1,(by omega),(by omega),(by omega),rfl,rfl⟩
   ·clear H hse1
    rintro⟨s6,s7⟩ fl a σ H ⟨M3,o3,fM3_0,fM3_1,fM3_2,rfl,rfl⟩ K5 O5 hK5 hO5
    unfold xL at H;dsimp only at H
    refine Wsq [1,7,8,9,10] fun K6 hK6=>?_
    refine S0 tok [] [1,7,8,9,10,22] ?_
    refine Cd (fun C2=>?_) fun C2=>?_
    ·replace H:=ifT C2 H
     refine Wsk (Jn hK6 ?_)
     refine Wsq [1,7,8,9,10] fun K7 hK7=>?_
     refine Wbl (Wth ?_)
     obtain⟨v9,hv9,H⟩:=bE H
     obtain⟨g13,hg13,H⟩:=bE H
     obtain⟨l14,hl14,H⟩:=bE H
     refine AWP_rt tok [] [1,7,8,9,10] (fun a σ=>a=[(1,.fsl (eL rL_B p1)),(7,.sl o3 0 s7.length),(8,.fsl (eL rI r2)),(9,.int .i64 s3),(10,.int .i64 s6)]∧σ=hp E0 [(o3,some ⟨4,1,eL rB l14⟩)] (M3+22)) (fun K hK=>?_) ?_
     ·skip
      simp -dsimp -implicitDefEqProofs [ixo66 hv9,(zE hv9).2.2,(setx_iff.1 hl14).2.symm]
      cases hbg13:v9
      ·replace hg13:=ifF hbg13 hg13
       obtain⟨v10,hv10,hg13⟩:=bE hg13
       obtain⟨v11,hv11,hg13⟩:=bE hg13
       obtain⟨v12,hv12,hg13⟩:=bE hg13
       obtain rfl:=oi hg13
       try simp -dsimp -implicitDefEqProofs [ixo66 hv9,(zE hv9).2.2,(setx_iff.1 hl14).2.symm,hbg13,ix24 hv10,ix76 hv11,ix66 hv12]
       exact hK _ _ ⟨rfl,rfl⟩
      obtain rfl:=oi (ifT hbg13 hg13)
      try simp -dsimp -implicitDefEqProofs [ixo66 hv9,(zE hv9).2.2,(setx_iff.1 hl14).2.symm,hbg13]
      exact hK _ _ ⟨rfl,rfl⟩
     rintro a σ ⟨ha,rfl⟩
     (try rw[← zD hl14] at ha);(try rw[← zD hl14])
     refine hK7 _ _ ?_;rw[ha]
     refine Rc.mk ?_
     refine Rt0 tok [] [1,7,8,9,10] fun a ha=>?_
     obtain rfl:=oi H
     refine hK5 _ _ _ rfl ?_;rw[ha]
     exact Rf ⟨M3+25,o3,(by omega),(by omega),(by omega),rfl,rfl⟩
    obtain rfl:=oi (ifF C2 H)
    refine zM (hO5 _ _ _ _ rfl ⟨rfl,?_⟩)
    refine Rc.rw (l:=[1,7,8,9]) (X:=[(1,.fsl (eL rL_B p1)),(7,.sl o3 0 s7.length),(8,.fsl (eL rI r2)),(9,.int .i64 s3)]) rfl ?_
    exact Rf ⟨M3+2,o3,(by omega),(by omega),(by omega),rfl,rfl⟩
   intro x a σ hx
   obtain⟨y8,rfl⟩:∃x,x=e1:=⟨_,rfl⟩
   obtain⟨rfl,b,τ,hr,M4,o4,fM4_0,fM4_1,fM4_2,rfl,rfl⟩:=hx
   (try dsimp only at H)
   show K4 _ _
   refine hK4 _ _ (zL hr ?_)
   refine Rc.mk ?_
   refine Rt0 tok [] [1,7,8,9] fun a ha=>?_
   obtain rfl:=oi H
   refine hK2 _ _ _ rfl ?_;rw[ha]
   exact Rf ⟨M4+3,o4,(by omega),(by omega),(by omega),rfl,rfl⟩
  obtain rfl:=oi (ifF C1 H)
  refine zM (hO2 _ _ _ _ rfl ⟨rfl,?_⟩)
  refine Rc.rw (l:=[7]) (X:=[(7,.sl o1 0 s4.length)]) rfl ?_
  exact Rf ⟨M1+4,o1,(by omega),(by omega),(by omega),rfl,rfl⟩
 intro x a σ hx
 obtain⟨y5,rfl⟩:∃x,x=e2:=⟨_,rfl⟩
 obtain⟨rfl,b,τ,hr,M2,o2,fM2_0,fM2_1,fM2_2,rfl,rfl⟩:=hx
 (try dsimp only at H)
 show K1 _ _
 refine hK1 _ _ (zL hr ?_)
 refine Rc.mk ?_
 refine S0 tok [] [6] ?_
 obtain rfl:=oi H;exact Wr ⟨_,rfl,4,by simp[eN]⟩

theorem c218 {p0:gQuad}{r:(List Int)}(H:s_QuadUses p0=some r):APure Tryz.prog G 218 [.agg [.int .i64 p0.Op,.int .i64 p0.Dst,.int .i64 p0.A,.int .i64 p0.B,.int .i64 p0.N]] (.fsl (eL rI r)):=by
 refine zB (fun N0=>?_) (by simp)
 refine fnK tok Tryz.func218 Tryz.ntmps218 Tryz.results218 ?_
 simp only[argsA,Nat.reduceAdd,hpN]
 unfold s_QuadUses at H
 refine S0 tok [0] [1] ?_
 refine Wsq [1] fun K1 hK1=>?_
 obtain⟨r1,hr1,H⟩:=bE H
 refine Sx tok [] [1,5] (by intro K k;(repeat first|simp -dsimp -implicitDefEqProofs|refine(c139 hr1).app ?_);exact k) ?_
 refine Cd (fun C1=>?_) fun C1=>?_
 ·replace H:=ifT C1 H
  have q0:∀σ i,bsA T 24 true i 0 [] σ=some (.esl,σ):=fun _ _=>rfl
  refine Sx tok [0] [2] (by intro K k;simp -dsimp -implicitDefEqProofs [q0];exact k) ?_
  obtain rfl:=oi H;exact Wr ⟨_,rfl,4,by simp[eN]⟩
 replace H:=ifF C1 H
 refine Wsk (Jn hK1 ?_)
 refine Wsq [] fun K2 hK2=>?_
 refine S0 tok [] [1,8] ?_
 refine Wbl (Wth ?_)
 obtain⟨j1,hj1,H⟩:=bE H
 refine kL (kI fun K4 hK4=>?_)
 have hJ1:∀a σ,Rc G 39 N0 (fun a σ=>∃M1:Nat,N0≤M1∧a=[(1,.fptr [.int .i64 p0.Op,.int .i64 p0.Dst,.int .i64 p0.A,.int .i64 p0.B,.int .i64 p0.N] 0),(8,.int .i64 p0.Op),(9,.bool j1)]∧σ=hp E0 [] M1) (a.keep [1,8,9]) σ→K4 a σ:=by
  rintro a σ ⟨b,τ,hr,M1,fM1_0,rfl,rfl⟩
  refine hK4 _ _ (kA [1,8,9] (Wre hr ?_))
  refine Cd (fun C2=>?_) fun C2=>?_
  ·replace H:=ifT C2 H
   have q1:∀σ i,bsA T 24 true i 1 [(0,.int .i64 p0.A)] σ=some (.fsl (eL rI ([p0.A]:List Int)),σ):=fun _ _=>rfl
   refine Sx tok [2] [2] (by intro K k;simp -dsimp -implicitDefEqProofs [q1];exact k) ?_
   obtain rfl:=oi H;exact Wr ⟨_,rfl,4,by simp[eN]⟩
  replace H:=ifF C2 H
  refine S0 tok [] [1,17] ?_
  refine Cd (fun C3=>?_) fun C3=>?_
  ·replace H:=ifT C3 H
   refine Wsq [1] fun K3 hK3=>?_
   refine S0 tok [] [1,23] ?_
   refine Cd (fun C4=>?_) fun C4=>?_
   ·replace H:=ifT C4 H
    have q2:∀σ i,bsA T 24 true i 1 [(0,.int .i64 p0.A)] σ=some (.fsl (eL rI ([p0.A]:List Int)),σ):=fun _ _=>rfl
    refine Sx tok [2] [2] (by intro K k;simp -dsimp -implicitDefEqProofs [q2];exact k) ?_
    obtain rfl:=oi H;exact Wr ⟨_,rfl,4,by simp[eN]⟩
   replace H:=ifF C4 H
   refine Wsk (Jn hK3 ?_)
   have q3:∀σ i,bsA T 24 true i 2 [(0,.int .i64 (imin p0.A p0.B)),(1,.int .i64 (imax p0.A p0.B))] σ=some (.fsl (eL rI ([imin p0.A p0.B,imax p0.A p0.B]:List Int)),σ):=fun _ _=>rfl
   refine Sx tok [10] [2] (by intro K k;simp -dsimp -implicitDefEqProofs [q3];exact k) ?_
   obtain rfl:=oi H;exact Wr ⟨_,rfl,4,by simp[eN]⟩
  replace H:=ifF C3 H
  refine Wsk (Jn hK2 ?_)
  have q4:∀σ i,bsA T 24 true i 0 [] σ=some (.esl,σ):=fun _ _=>rfl
  refine Sx tok [0] [2] (by intro K k;simp -dsimp -implicitDefEqProofs [q4];exact k) ?_
  obtain rfl:=oi H;exact Wr ⟨_,rfl,4,by simp[eN]⟩
 replace H:=hj1
 refine S0 tok [] [1,8,9] ?_
 refine Cd (fun C5=>?_) fun C5=>?_
 ·replace H:=ifT C5 H
  refine Wsk ?_
  show K4 _ _
  refine kE [1,8,9] fun a' ha=>?_
  obtain rfl:=oi H
  refine hJ1 _ _ ?_;rw[ha]
  exact Rf ⟨N0+9,(by omega),rfl,rfl⟩
 replace H:=ifF C5 H
 refine S0 tok [] [1,8,9] ?_
 refine Cd (fun C6=>?_) fun C6=>?_
 ·replace H:=ifT C6 H
  refine Wsk ?_
  show K4 _ _
  refine kE [1,8,9] fun a' ha=>?_
  obtain rfl:=oi H
  refine hJ1 _ _ ?_;rw[ha]
  exact Rf ⟨N0+11,(by omega),rfl,rfl⟩
 replace H:=ifF C6 H
 refine S0 tok [] [1,8,9] ?_
 refine Cd (fun C7=>?_) fun C7=>?_
 ·replace H:=ifT C7 H
  refine Wsk ?_
  show K4 _ _
  refine kE [1,8,9] fun a' ha=>?_
  obtain rfl:=oi H
  refine hJ1 _ _ ?_;rw[ha]
  exact Rf ⟨N0+13,(by omega),rfl,rfl⟩
 replace H:=ifF C7 H
 refine Rt0 tok [] [1,8,9] fun a ha=>?_
 obtain rfl:=oi H
 refine hJ1 _ _ ?_;rw[ha]
 exact Rf ⟨N0+15,(by omega),rfl,rfl⟩

theorem c214 {p0:(List Bool)}{p1:(List Bool)}{r:Bool}(H:s_l32Same p0 p1=some r):APure Tryz.prog G 214 [.fsl (eL rB p0),.fsl (eL rB p1)] (.bool r):=by
 refine zB (fun N0=>?_) (by simp)
 refine fnK tok Tryz.func214 Tryz.ntmps214 Tryz.results214 ?_
 simp only[argsA,Nat.reduceAdd,hpN]
 unfold s_l32Same at H
 refine S0 tok [] [0,1] ?_
 refine Wsq [0,1] fun K1 hK1=>?_
 refine S0 tok [] [0,1,5] ?_
 refine Wbl (Wth ?_)
 obtain⟨e1,hse1,H⟩:=bE H
 refine zU [0,1,5] (fun s a σ=>∃M1:Nat,N0≤M1∧a=[(0,.fsl (eL rB p0)),(1,.fsl (eL rB p1)),(5,.int .i64 s)]∧σ=hp E0 [] M1) (fun e x a σ=>match e with|.inl s=>x=.exit 0∧Rc G 26 N0 (fun a σ=>∃M2:Nat,N0≤M2∧a=[(0,.fsl (eL rB p0)),(1,.fsl (eL rB p1))]∧σ=hp E0 [] M2) (AAct.keep a [0,1]) σ|.inr s=>x=.ret∧∃vs,resA T σ a [.tmp 4]=some vs∧∃d,thawA (fun _=>true) σ d (tupA vs)=.bool s) hse1 ?_ ?_ ?_
 ·refine Rc.kp [0,1,5] [(0,.fsl (eL rB p0)),(1,.fsl (eL rB p1)),(5,.int .i64 0)] rfl ?_
  exact Rf ⟨N0+2,(by omega),rfl,rfl⟩
 ·clear H hse1
  rintro s1 fl a σ H ⟨M1,fM1_0,rfl,rfl⟩ K2 O2 hK2 hO2
  unfold s_l32Same_L1 at H;dsimp only at H
  refine Wsq [0,1,5] fun K3 hK3=>?_
  refine S0 tok [] [0,1,5,9] ?_
  refine Cd (fun C1=>?_) fun C1=>?_
  ·replace H:=ifT C1 H
   refine Wsk (Jn hK3 ?_)
   refine Wsq [0,1,5] fun K4 hK4=>?_
   refine Wbl (Wth ?_)
   obtain⟨v2,hv2,H⟩:=bE H
   obtain⟨v3,hv3,H⟩:=bE H
   refine Sd tok tokM [] [] [0,1,2,3,4,5,6,7,8] [0,1,5,20] (by
    intro K k
    simp only[pickL,zH,zJ]
    simp -dsimp -implicitDefEqProofs [ix66 hv2,ix66 hv3]
    exact k) ?_
   refine Cd (fun C2=>?_) fun C2=>?_
   ·replace H:=ifT C2 H
    refine S0 tok [] [4] ?_
    obtain rfl:=oi H
    refine Kp [4] ?_
    refine Wr (hO2 _ _ _ _ rfl ⟨rfl,?_⟩)
    exact⟨[.bool false],by simp,4,by simp[eN]⟩
   replace H:=ifF C2 H
   refine Wsk (Jn hK4 ?_)
   refine Rt0 tok [] [0,1,5] fun a ha=>?_
   obtain rfl:=oi H
   refine hK2 _ _ _ rfl ?_;rw[ha]
   exact Rf ⟨M1+16,(by omega),rfl,rfl⟩
  obtain rfl:=oi (ifF C1 H)
  refine zM (hO2 _ _ _ _ rfl ⟨rfl,?_⟩)
  refine Rc.rw (l:=[0,1]) (X:=[(0,.fsl (eL rB p0)),(1,.fsl (eL rB p1))]) rfl ?_
  exact Rf ⟨M1+4,(by omega),rfl,rfl⟩
 intro x a σ hx
 rcases e1 with⟨⟩|r0
 ·obtain⟨rfl,b,τ,hr,M2,fM2_0,rfl,rfl⟩:=hx
  (try dsimp only at H)
  show K1 _ _
  refine hK1 _ _ (zL hr ?_)
  refine Rc.mk ?_
  refine S0 tok [] [4] ?_
  obtain rfl:=oi H;exact Wr ⟨_,rfl,4,by simp[eN]⟩
 obtain⟨rfl,hx2⟩:=hx
 (try dsimp only at H)
 obtain rfl:=oi H;first|exact hx2|(simp only[List.set_set] at hx2 ⊢;exact hx2)

theorem c185_o {p0:(List gQuad)}{p1:(List (List Bool))}{p2:Int}{r:(List Bool)}(H:s_l32After_o p0 p1 p2=some r){σ:AHeap}:ACalls Tryz.prog G 185 [.fsl (eL rQuad p0),.fsl (eL rL_B p1),.int .i64 p2] σ (fun v σ'=>∃M n0:Nat,σ.next≤M∧σ.next≤n0∧n0<M∧v=.sl n0 0 r.length∧σ'=hp σ.objs [(n0,some ⟨4,1,eL rB r⟩)] M):=by
 refine zP (L:=[]) (Q1:=fun v σ'=>∃M n0:Nat,σ.next≤M∧σ.next≤n0∧n0<M∧v=.sl n0 0 r.length∧σ'=hp E0 [(n0,some ⟨4,1,eL rB r⟩)] M) (by simp) (fun hlt=>?_) ?_ ⟨_,Tryz.func185,rfl,rfl⟩
 rotate_left
 ·rintro v σ1 ⟨M,n0,h0,h1,h2,rfl,rfl⟩
  exact⟨_,M,rfl,by simp,by simp;try omega,M,n0,h0,h1,h2,rfl,rfl⟩
 generalize σ.next=N0 at hlt ⊢
 refine fnK tok Tryz.func185 Tryz.ntmps185 Tryz.results185 ?_
 simp only[argsA,Nat.reduceAdd,hpN]
 unfold s_l32After_o at H
 refine S0 tok [] [0,1,2] ?_
 obtain⟨l1,hl1,H⟩:=bE H
 refine Sx tok [] [0,1,2,7] (by intro K k;simp -dsimp -implicitDefEqProofs [mak66 hl1];exact k) ?_
 obtain⟨r2,hr2,H⟩:=bE H
 refine Sx tok [] [1,7,8] (by intro K k;(repeat first|simp -dsimp -implicitDefEqProofs|refine(c202 hr2).app ?_);exact k) ?_
 refine Wsq [7] fun K1 hK1=>?_
 refine S0 tok [] [1,7,8,9] ?_
 refine Wbl (Wth ?_)
 obtain⟨e2,hse2,H⟩:=bE H
 refine zU [1,7,8,9] (fun s a σ=>∃M1 o1:Nat,N0≤M1∧N0≤o1∧o1<M1∧a=[(1,.fsl (eL rL_B p1)),(7,.sl o1 0 s.2.length),(8,.fsl (eL rI r2)),(9,.int .i64 s.1)]∧σ=hp E0 [(o1,some ⟨4,1,eL rB s.2⟩)] M1) (fun s x a σ=>x=.exit 0∧Rc G 45 N0 (fun a σ=>∃M2 o2:Nat,N0≤M2∧N0≤o2∧o2<M2∧a=[(7,.sl o2 0 s.length)]∧σ=hp E0 [(o2,some ⟨4,1,eL rB s⟩)] M2) (AAct.keep a [7]) σ) hse2 ?_ ?_ ?_
 ·refine Rc.kp [1,7,8,9] [(1,.fsl (eL rL_B p1)),(7,.sl (N0+1) 0 l1.length),(8,.fsl (eL rI r2)),(9,.int .i64 0)] rfl ?_
  exact Rf ⟨N0+8,(N0+1),(by omega),(by omega),(by omega),rfl,rfl⟩
 ·clear H hse2
  rintro⟨s3,s4⟩ fl a σ H ⟨M1,o1,fM1_0,fM1_1,fM1_2,rfl,rfl⟩ K2 O2 hK2 hO2
  unfold s_l32After_o_L1 at H;dsimp only at H
  refine Wsq [1,7,8,9] fun K3 hK3=>?_
  refine S0 tok [] [1,7,8,9,18] ?_
  refine Cd (fun C1=>?_) fun C1=>?_
  ·replace H:=ifT C1 H
   refine Wsk (Jn hK3 ?_)
   refine Wsq [1,7,8,9] fun K4 hK4=>?_
   refine Wbl (Wth ?_)
   refine S0 tok [] [1,7,8,9,10] ?_
   refine Wbl (Wth ?_)
   obtain⟨e1,hse1,H⟩:=bE H
   refine zU [1,7,8,9,10] (fun s a σ=>∃M3 o3:Nat,N0≤M3∧N0≤o3∧o3<M3∧a=[(1,.fsl (eL rL_B p1)),(7,.sl o3 0 s.2.length),(8,.fsl (eL rI r2)),(9,.int .i64 s3),(10,.int .i64 s.1)]∧σ=hp E0 [(o3,some ⟨4,1,eL rB s.2⟩)] M3) (fun s x a σ=>x=.exit 2∧Rc G 45 N0 (fun a σ=>∃M4 o4:Nat,N0≤M4∧N0≤o4∧o4<M4∧a=[(1,.fsl (eL rL_B p1)),(7,.sl o4 0 s.length),(8,.fsl (eL rI r2)),(9,.int .i64 s3)]∧σ=hp E0 [(o4,some ⟨4,1,eL rB s⟩)] M4) (AAct.keep a [1,7,8,9]) σ) hse1 ?_ ?_ ?_
   ·refine Rc.kp [1,7,8,9,10] [(1,.fsl (eL rL_B p1)),(7,.sl o1 0 s4.length),(8,.fsl (eL rI r2)),(9,.int .i64 s3),(10,.int .i64 0)] rfl ?_
    exact Rf ⟨M1+5,o1,(by omega),(by omega),(by omega),rfl,rfl⟩
   ·clear H hse1
    rintro⟨s6,s7⟩ fl a σ H ⟨M3,o3,fM3_0,fM3_1,fM3_2,rfl,rfl⟩ K5 O5 hK5 hO5
    unfold s_l32After_o_L2 at H;dsimp only at H
    refine Wsq [1,7,8,9,10] fun K6 hK6=>?_
    refine S0 tok [] [1,7,8,9,10,22] ?_
    refine Cd (fun C2=>?_) fun C2=>?_
    ·replace H:=ifT C2 H
     refine Wsk (Jn hK6 ?_)
     refine Wsq [1,7,8,9,10] fun K7 hK7=>?_
     refine Wbl (Wth ?_)
     obtain⟨v9,hv9,H⟩:=bE H
     obtain⟨g13,hg13,H⟩:=bE H
     obtain⟨l14,hl14,H⟩:=bE H
     refine AWP_rt tok [] [1,7,8,9,10] (fun a σ=>a=[(1,.fsl (eL rL_B p1)),(7,.sl o3 0 s7.length),(8,.fsl (eL rI r2)),(9,.int .i64 s3),(10,.int .i64 s6)]∧σ=hp E0 [(o3,some ⟨4,1,eL rB l14⟩)] (M3+22)) (fun K hK=>?_) ?_
     ·skip
      simp -dsimp -implicitDefEqProofs [ixo66 hv9,(zE hv9).2.2,(setx_iff.1 hl14).2.symm]
      cases hbg13:v9
      ·replace hg13:=ifF hbg13 hg13
       obtain⟨v10,hv10,hg13⟩:=bE hg13
       obtain⟨v11,hv11,hg13⟩:=bE hg13
       obtain⟨v12,hv12,hg13⟩:=bE hg13
       obtain rfl:=oi hg13
       try simp -dsimp -implicitDefEqProofs [ixo66 hv9,(zE hv9).2.2,(setx_iff.1 hl14).2.symm,hbg13,ix24 hv10,ix76 hv11,ix66 hv12]
       exact hK _ _ ⟨rfl,rfl⟩
      obtain rfl:=oi (ifT hbg13 hg13)
      try simp -dsimp -implicitDefEqProofs [ixo66 hv9,(zE hv9).2.2,(setx_iff.1 hl14).2.symm,hbg13]
      exact hK _ _ ⟨rfl,rfl⟩
     rintro a σ ⟨ha,rfl⟩
     (try rw[← zD hl14] at ha);(try rw[← zD hl14])
     refine hK7 _ _ ?_;rw[ha]
     refine Rc.mk ?_
     refine Rt0 tok [] [1,7,8,9,10] fun a ha=>?_
     obtain rfl:=oi H
     refine hK5 _ _ _ rfl ?_;rw[ha]
     exact Rf ⟨M3+25,o3,(by omega),(by omega),(by omega),rfl,rfl⟩
    obtain rfl:=oi (ifF C2 H)
    refine zM (hO5 _ _ _ _ rfl ⟨rfl,?_⟩)
    refine Rc.rw (l:=[1,7,8,9]) (X:=[(1,.fsl (eL rL_B p1)),(7,.sl o3 0 s7.length),(8,.fsl (eL rI r2)),(9,.int .i64 s3)]) rfl ?_
    exact Rf ⟨M3+2,o3,(by omega),(by omega),(by omega),rfl,rfl⟩
   intro x a σ hx
   obtain⟨y8,rfl⟩:∃x,x=e1:=⟨_,rfl⟩
   obtain⟨rfl,b,τ,hr,M4,o4,fM4_0,fM4_1,fM4_2,rfl,rfl⟩:=hx
   (try dsimp only at H)
   show K4 _ _
   refine hK4 _ _ (zL hr ?_)
   refine Rc.mk ?_
   refine Rt0 tok [] [1,7,8,9] fun a ha=>?_
   obtain rfl:=oi H
   refine hK2 _ _ _ rfl ?_;rw[ha]
   exact Rf ⟨M4+3,o4,(by omega),(by omega),(by omega),rfl,rfl⟩
  obtain rfl:=oi (ifF C1 H)
  refine zM (hO2 _ _ _ _ rfl ⟨rfl,?_⟩)
  refine Rc.rw (l:=[7]) (X:=[(7,.sl o1 0 s4.length)]) rfl ?_
  exact Rf ⟨M1+4,o1,(by omega),(by omega),(by omega),rfl,rfl⟩
 intro x a σ hx
 obtain⟨y5,rfl⟩:∃x,x=e2:=⟨_,rfl⟩
 obtain⟨rfl,b,τ,hr,M2,o2,fM2_0,fM2_1,fM2_2,rfl,rfl⟩:=hx
 (try dsimp only at H)
 show K1 _ _
 refine hK1 _ _ (zL hr ?_)
 refine Rc.mk ?_
 refine S0 tok [] [6] ?_
 obtain rfl:=oi H
 refine Kp [6] ?_
 refine Wr ?_
 refine⟨[.sl o2 0 y5.length],by simp,M2+2,o2,by omega,by omega,by omega,?_,?_⟩
 ·simp[eN]
 first|rfl|simp

theorem c185_o_b {p0:(List gQuad)}{p1:(List (List Bool))}{p2:Int}{r:(List Bool)}(H:s_l32After_o p0 p1 p2=some r){σ:AHeap}{args:List AV}(hy:args.map (thawA (fun _=>true) σ 8)=[.fsl (eL rQuad p0),.fsl (eL rL_B p1),.int .i64 p2]):ACalls Tryz.prog G 185 args σ (fun v σ'=>∃M n0:Nat,σ.next≤M∧σ.next≤n0∧n0<M∧v=.sl n0 0 r.length∧σ'=hp σ.objs [(n0,some ⟨4,1,eL rB r⟩)] M):=by
 refine borrowQ 8 8 (c185_o (σ:=⟨E0,σ.next⟩) H) hy ?_
 rintro _ _ ⟨M,n0,h0,h1,h2,rfl,rfl⟩
 refine⟨_,M,rfl,by simp[AV.rnf,AV.simp1],fun p hp ob ho=>?_,by simp,M,n0,h0,h1,h2,rfl,rfl⟩
 simp only[List.mem_cons,List.not_mem_nil,or_false] at hp
 rcases hp with rfl<;>(cases ho;first|exact encL_nf (fun x=>nf_rB 7 x) _|simp[AV.nf,AV.simp1])

theorem c213_o {p0:gQuad}{p1:(List Bool)}{r:(List Bool)}(H:xK p0 p1=some r){σ:AHeap}:ACalls Tryz.prog G 213 [.agg [.int .i64 p0.Op,.int .i64 p0.Dst,.int .i64 p0.A,.int .i64 p0.B,.int .i64 p0.N],.fsl (eL rB p1)] σ (fun v σ'=>∃M n0:Nat,σ.next≤M∧σ.next≤n0∧n0<M∧v=.sl n0 0 r.length∧σ'=hp σ.objs [(n0,some ⟨4,1,eL rB r⟩)] M):=by
 refine zP (L:=[]) (Q1:=fun v σ'=>∃M n0:Nat,σ.next≤M∧σ.next≤n0∧n0<M∧v=.sl n0 0 r.length∧σ'=hp E0 [(n0,some ⟨4,1,eL rB r⟩)] M) (by simp) (fun hlt=>?_) ?_ ⟨_,Tryz.func213,rfl,rfl⟩
 rotate_left
 ·rintro v σ1 ⟨M,n0,h0,h1,h2,rfl,rfl⟩
  exact⟨_,M,rfl,by simp,by simp;try omega,M,n0,h0,h1,h2,rfl,rfl⟩
 generalize σ.next=N0 at hlt ⊢
 refine fnK tok Tryz.func213 Tryz.ntmps213 Tryz.results213 ?_
 simp only[argsA,Nat.reduceAdd,hpN]
 unfold xK at H
 refine S0 tok [0] [1,2] ?_
 obtain⟨l1,hl1,H⟩:=bE H
 have q0:∀σ i,bsA T 66 true i 0 [] σ=some (.esl,σ):=fun _ _=>rfl
 refine Sx tok [0] [2,5] (by intro K k;simp -dsimp -implicitDefEqProofs [q0,appe66 hl1];exact k) ?_
 obtain⟨j1,hj1,H⟩:=bE H
 refine kL (kI fun K5 hK5=>?_)
 have hJ1:∀a σ,Rc G 33 N0 (fun a σ=>∃M1:Nat,N0≤M1∧N0+4<M1∧a=[(2,.fptr [.int .i64 p0.Op,.int .i64 p0.Dst,.int .i64 p0.A,.int .i64 p0.B,.int .i64 p0.N] 0),(5,.sl (N0+4) 0 j1.length)]∧σ=hp E0 [(N0+4,some ⟨4,1,eL rB j1⟩)] M1) (a.keep [2,5]) σ→K5 a σ:=by
  rintro a σ ⟨b,τ,hr,M1,fM1_0,fM1_1,rfl,rfl⟩
  refine hK5 _ _ (kA [2,5] (Wre hr ?_))
  obtain⟨r3,hr3,H⟩:=bE H
  refine Sx tok [] [5,6] (by intro K k;(repeat first|simp -dsimp -implicitDefEqProofs|refine(c218 hr3).app ?_);exact k) ?_
  refine Wsq [5] fun K1 hK1=>?_
  refine S0 tok [] [5,6,7] ?_
  refine Wbl (Wth ?_)
  obtain⟨e2,hse2,H⟩:=bE H
  refine zU [5,6,7] (fun s a σ=>∃M2 o1:Nat,N0≤M2∧N0≤o1∧o1<M2∧a=[(5,.sl o1 0 s.2.length),(6,.fsl (eL rI r3)),(7,.int .i64 s.1)]∧σ=hp E0 [(o1,some ⟨4,1,eL rB s.2⟩)] M2) (fun s x a σ=>x=.exit 0∧Rc G 33 N0 (fun a σ=>∃M3 o2:Nat,N0≤M3∧N0≤o2∧o2<M3∧a=[(5,.sl o2 0 s.length)]∧σ=hp E0 [(o2,some ⟨4,1,eL rB s⟩)] M3) (AAct.keep a [5]) σ) hse2 ?_ ?_ ?_
  ·refine Rc.kp [5,6,7] [(5,.sl (N0+4) 0 j1.length),(6,.fsl (eL rI r3)),(7,.int .i64 0)] rfl ?_
   exact Rf ⟨M1+4,(N0+4),(by omega),(by omega),(by omega),rfl,rfl⟩
  ·clear H hse2
   rintro⟨s4,s5⟩ fl a σ H ⟨M2,o1,fM2_0,fM2_1,fM2_2,rfl,rfl⟩ K2 O2 hK2 hO2
   unfold s_l32Before_o_L1 at H;dsimp only at H
   refine Wsq [5,6,7] fun K3 hK3=>?_
   refine S0 tok [] [5,6,7,23] ?_
   refine Cd (fun C1=>?_) fun C1=>?_
   ·replace H:=ifT C1 H
    refine Wsk (Jn hK3 ?_)
    refine Wsq [5,6,7] fun K4 hK4=>?_
    refine Wbl (Wth ?_)
    obtain⟨v7,hv7,H⟩:=bE H
    obtain⟨v8,hv8,H⟩:=bE H
    obtain⟨l9,hl9,H⟩:=bE H
    refine Rt tok [] [5,6,7] (by intro K k;simp -dsimp -implicitDefEqProofs [ix24 hv7,ixo66 hv8,(zE hv8).2.2,(setx_iff.1 hl9).2.symm];exact k) fun a ha=>?_
    (try rw[← zD hl9] at ha);(try rw[← zD hl9])
    refine hK4 _ _ ?_;rw[ha]
    refine Rc.mk ?_
    refine Rt0 tok [] [5,6,7] fun a ha=>?_
    obtain rfl:=oi H
    refine hK2 _ _ _ rfl ?_;rw[ha]
    exact Rf ⟨M2+14,o1,(by omega),(by omega),(by omega),rfl,rfl⟩
   obtain rfl:=oi (ifF C1 H)
   refine zM (hO2 _ _ _ _ rfl ⟨rfl,?_⟩)
   refine Rc.rw (l:=[5]) (X:=[(5,.sl o1 0 s5.length)]) rfl ?_
   exact Rf ⟨M2+4,o1,(by omega),(by omega),(by omega),rfl,rfl⟩
  intro x a σ hx
  obtain⟨y6,rfl⟩:∃x,x=e2:=⟨_,rfl⟩
  obtain⟨rfl,b,τ,hr,M3,o2,fM3_0,fM3_1,fM3_2,rfl,rfl⟩:=hx
  (try dsimp only at H)
  show K1 _ _
  refine hK1 _ _ (zL hr ?_)
  refine Rc.mk ?_
  refine S0 tok [] [4] ?_
  obtain rfl:=oi H
  refine Kp [4] ?_
  refine Wr ?_
  refine⟨[.sl o2 0 y6.length],by simp,M3+2,o2,by omega,by omega,by omega,?_,?_⟩
  ·simp[eN]
  first|rfl|simp
 replace H:=hj1
 obtain⟨r10,hr10,H⟩:=bE H
 refine Sx tok [] [2,5,13] (by intro K k;(repeat first|simp -dsimp -implicitDefEqProofs|refine(c217 hr10).app ?_);exact k) ?_
 refine Cd (fun C2=>?_) fun C2=>?_
 ·replace H:=ifT C2 H
  obtain⟨v11,hv11,H⟩:=bE H
  obtain⟨l12,hl12,H⟩:=bE H
  refine Rt tok [] [2,5] (by intro K k;(repeat first|simp -dsimp -implicitDefEqProofs [ixo66 hv11,(zE hv11).2.2,(setx_iff.1 hl12).2.symm]|refine(c217 hr10).app ?_);exact k) fun a ha=>?_
  (try rw[← zD hl12] at ha);(try rw[← zD hl12])
  obtain rfl:=oi H
  refine hJ1 _ _ ?_;rw[ha]
  exact Rf ⟨N0+14,(by omega),(by omega),rfl,rfl⟩
 replace H:=ifF C2 H
 refine Wsk ?_
 show K5 _ _
 refine kE [2,5] fun a' ha=>?_
 obtain rfl:=oi H
 refine hJ1 _ _ ?_;rw[ha]
 exact Rf ⟨N0+9,(by omega),(by omega),rfl,rfl⟩

theorem c213_o_b {p0:gQuad}{p1:(List Bool)}{r:(List Bool)}(H:xK p0 p1=some r){σ:AHeap}{args:List AV}(hy:args.map (thawA (fun _=>true) σ 8)=[.agg [.int .i64 p0.Op,.int .i64 p0.Dst,.int .i64 p0.A,.int .i64 p0.B,.int .i64 p0.N],.fsl (eL rB p1)]):ACalls Tryz.prog G 213 args σ (fun v σ'=>∃M n0:Nat,σ.next≤M∧σ.next≤n0∧n0<M∧v=.sl n0 0 r.length∧σ'=hp σ.objs [(n0,some ⟨4,1,eL rB r⟩)] M):=by
 refine borrowQ 8 8 (c213_o (σ:=⟨E0,σ.next⟩) H) hy ?_
 rintro _ _ ⟨M,n0,h0,h1,h2,rfl,rfl⟩
 refine⟨_,M,rfl,by simp[AV.rnf,AV.simp1],fun p hp ob ho=>?_,by simp,M,n0,h0,h1,h2,rfl,rfl⟩
 simp only[List.mem_cons,List.not_mem_nil,or_false] at hp
 rcases hp with rfl<;>(cases ho;first|exact encL_nf (fun x=>nf_rB 7 x) _|simp[AV.nf,AV.simp1])

theorem c201 {p0:(List gQuad)}{p1:(List (List Bool))}{r:Bool×(List (List Bool))}(H:s_l32Round p0 p1=some r){σ:AHeap}{w1:Nat}(q1:σ.objs w1=some ⟨66,1,eL yG p1⟩):ACalls Tryz.prog G 201 [.fsl (eL rQuad p0),.sl w1 0 p1.length] σ (fun v σ'=>∃M:Nat,σ.next≤M∧r.2.length=p1.length∧v=.bool r.1∧σ'=hp σ.objs [(w1,some ⟨66,1,eL yG r.2⟩)] M):=by
 refine zP (L:=[(w1,some ⟨66,1,eL yG p1⟩)]) (Q1:=fun v σ'=>∃M:Nat,σ.next≤M∧r.2.length=p1.length∧v=.bool r.1∧σ'=hp E0 [(w1,some ⟨66,1,eL yG r.2⟩)] M) (by simp[q1]) (fun hlt=>?_) ?_ ⟨_,Tryz.func201,rfl,rfl⟩
 rotate_left
 ·rintro v σ1 ⟨M,h0,h1,rfl,rfl⟩
  exact⟨_,M,rfl,by simp,by simp;try omega,M,h0,h1,rfl,rfl⟩
 generalize σ.next=N0 at hlt ⊢
 have lw1:w1<N0:=hlt _ (.head _) rfl
 refine fnK tok Tryz.func201 Tryz.ntmps201 Tryz.results201 ?_
 simp only[argsA,Nat.reduceAdd,hpN]
 unfold s_l32Round at H
 refine S0 tok [] [0,1] ?_
 refine S0 tok [] [0,1,5] ?_
 refine Wsq [5] fun K1 hK1=>?_
 refine S0 tok [] [0,1,5,6] ?_
 refine Wbl (Wth ?_)
 obtain⟨e1,hse1,H⟩:=bE H
 refine zU [0,1,5,6] (fun s a σ=>∃M1:Nat,N0≤M1∧s.2.2.length=p1.length∧a=[(0,.fsl (eL rQuad p0)),(1,.sl w1 0 s.2.2.length),(5,.bool s.1),(6,.int .i64 s.2.1)]∧σ=hp E0 [(w1,some ⟨66,1,eL yG s.2.2⟩)] M1) (fun s x a σ=>x=.exit 0∧Rc G 36 N0 (fun a σ=>∃M2:Nat,N0≤M2∧s.2.length=p1.length∧a=[(5,.bool s.1)]∧σ=hp E0 [(w1,some ⟨66,1,eL yG s.2⟩)] M2) (AAct.keep a [5]) σ) hse1 ?_ ?_ ?_
 ·refine Rc.kp [0,1,5,6] [(0,.fsl (eL rQuad p0)),(1,.sl w1 0 p1.length),(5,.bool false),(6,.int .i64 (isub .i64 (ilen p0) 1))] rfl ?_
  exact Rf ⟨N0+6,(by omega),(by first|rfl|exact rfl|omega),rfl,rfl⟩
 ·clear H hse1
  rintro⟨s1,s2,s3⟩ fl a σ H ⟨M1,fM1_0,fM1_1,rfl,rfl⟩ K2 O2 hK2 hO2
  unfold s_l32Round_L1 at H;dsimp only at H
  refine Wsq [0,1,5,6] fun K3 hK3=>?_
  refine S0 tok [] [0,1,5,6,12] ?_
  refine Cd (fun C1=>?_) fun C1=>?_
  ·replace H:=ifT C1 H
   refine Wsk (Jn hK3 ?_)
   refine Wsq [0,1,5,6] fun K4 hK4=>?_
   refine Wbl (Wth ?_)
   obtain⟨v6,hv6,H⟩:=bE H
   obtain⟨r7,hr7,H⟩:=bE H
   obtain⟨r8,hr8,H⟩:=bE H
   refine AWP_sd tok tokM [] [7,8] [0,1,2,3,4,5,6,7,8,9] [0,1,5,6,7] (fun a σ=>∃M3 o1:Nat,∃M4 o2:Nat,M1+12≤M3∧M1+12≤o1∧o1<M3∧M3≤M4∧M3≤o2∧o2<M4∧a=[(0,.fsl (eL rQuad p0)),(1,.sl w1 0 s3.length),(5,.bool s1),(6,.int .i64 s2),(7,.sl o2 0 r8.length)]∧σ=hp E0 [(w1,some ⟨66,1,eL yG s3⟩),(o1,some ⟨4,1,eL rB r7⟩),(o2,some ⟨4,1,eL rB r8⟩)] M4) (by decide) (fun K hK=>?_) ?_
   ·simp only[pickL,zH,zJ]
    simp -dsimp -implicitDefEqProofs [ix23 hv6]
    refine(c185_o_b (H:=hr7) (by simp[ix23 hv6])).mono ?_;rintro _ _ ⟨M3,o1,fM3_0,fM3_1,fM3_2,rfl,rfl⟩;simp only[hpN] at fM3_0 fM3_1 fM3_2
    have eM3_0:=nQ o1 w1
    try simp -dsimp -implicitDefEqProofs [ix23 hv6,eM3_0,hoS,hoN]
    refine(c213_o_b (H:=hr8) (by simp[ix23 hv6,eM3_0,hoS,hoN])).mono ?_;rintro _ _ ⟨M4,o2,fM4_0,fM4_1,fM4_2,rfl,rfl⟩;simp only[hpN] at fM4_0 fM4_1 fM4_2
    have eM4_0:=nQ o2 w1
    have eM4_1:=nQ o2 o1
    try simp -dsimp -implicitDefEqProofs [ix23 hv6,eM3_0,hoS,hoN,eM4_0,eM4_1]
    exact hK _ _ ⟨M3,o1,M4,o2,(by omega),(by omega),(by omega),(by omega),(by omega),(by omega),rfl,rfl⟩
   rintro a σ ⟨M3,o1,M4,o2,fM3_0,fM3_1,fM3_2,fM4_0,fM4_1,fM4_2,rfl,rfl⟩
   obtain⟨v9,hv9,H⟩:=bE H
   refine gU Wre w1 s2.toNat 0 ?_ (hr:=by exact encL_at yG hv9)
   obtain⟨r10,hr10,H⟩:=bE H
   refine kX tok [] [0,1,5,6,7,30] (fun a σ=>a=[(0,.fsl (eL rQuad p0)),(1,.sl w1 0 s3.length),(5,.bool s1),(6,.int .i64 s2),(7,.sl o2 0 r8.length),(30,.bool (bnot r10))]∧σ=hp E0 [(w1,some ⟨66,1,(eL yG s3).set s2.toNat [.sl M4 0 v9.length]⟩),(o1,some ⟨4,1,eL rB r7⟩),(o2,some ⟨4,1,eL rB r8⟩),(M4,some ⟨4,1,eL rB v9⟩)] (M4+8)) (fun K hK=>?_) ?_
   ·skip
    have e0:=nQ w1 o1
    have e1:=nQ w1 o2
    have e2:=nQ w1 M4
    have e3:=nQ o1 o2
    have e4:=nQ o1 M4
    have e5:=nQ o2 M4
    simp -dsimp -implicitDefEqProofs [e0,e1,e2,e3,e4,e5,(gset hv9 _),ixo76 hv9,(zE hv9).2.2]
    refine(borrow 8 (c214 hr10) (by simp[e0,e1,e2,e3,e4,e5,(gset hv9 _),ixo76 hv9,(zE hv9).2.2]) rfl).mono ?_;rintro _ _ ⟨rfl,rfl⟩;try simp -dsimp -implicitDefEqProofs [e0,e1,e2,e3,e4,e5,(gset hv9 _),ixo76 hv9,(zE hv9).2.2]
    exact hK _ _ ⟨rfl,rfl⟩
   rintro a σ ⟨rfl,rfl⟩
   refine Cd (fun C2=>?_) fun C2=>?_
   ·replace H:=ifT C2 H
    refine Sx tok [] [0,1,6] (by
     intro K k
     have e0:=nQ w1 o1
     have e1:=nQ w1 o2
     have e2:=nQ w1 M4
     have e3:=nQ o1 o2
     have e4:=nQ o1 M4
     have e5:=nQ o2 M4
     simp -dsimp -implicitDefEqProofs [e0,e1,e2,e3,e4,e5,(gset hv9 _),ixo76 hv9,(zE hv9).2.2]
     exact k) ?_
    refine Rt tok [] [0,1,5,6] (by
     intro K k
     have e0:=nQ w1 o1
     have e1:=nQ w1 o2
     have e2:=nQ w1 M4
     have e3:=nQ o1 o2
     have e4:=nQ o1 M4
     have e5:=nQ o2 M4
     simp -dsimp -implicitDefEqProofs [e0,e1,e2,e3,e4,e5,(gset hv9 _)]
     exact k) fun a ha=>?_
    refine hK4 _ _ ?_;rw[ha]
    refine Rc.mk ?_
    refine Rt tok [] [0,1,5,6] (by
     intro K k
     have e0:=nQ w1 o1
     have e1:=nQ w1 o2
     have e2:=nQ w1 M4
     have e3:=nQ o1 o2
     have e4:=nQ o1 M4
     have e5:=nQ o2 M4
     simp -dsimp -implicitDefEqProofs [e0,e1,e2,e3,e4,e5,(gset hv9 _)]
     exact k) fun a ha=>?_
    obtain⟨l11,hl11,H⟩:=bE H
    obtain rfl:=oi H
    refine hK2 _ _ _ rfl ?_;rw[ha]
    refine gP zL w1 s2.toNat 0 ?_ (hr:=by exact gset hv9 _)
    rw[show hp E0 [(w1,some ⟨66,1,(eL yG s3).set s2.toNat [.osl 4 1 (eL rB r8)]⟩),(o1,some ⟨4,1,eL rB r7⟩),(M4,some ⟨4,1,eL rB v9⟩)] (M4+17)=hp E0 [(w1,some ⟨66,1,eL yG l11⟩),(o1,some ⟨4,1,eL rB r7⟩),(M4,some ⟨4,1,eL rB v9⟩)] (M4+17) from by rw[(setx_iff.1 hl11).2,← zY];rfl];(try rw[← zD hl11])
    exact Rc.fin (zK (AHeap.Sub.trans (AHeap.Sub.trans (AHeap.Sub.refl _) (zR rfl (by simp;try omega))) (zR rfl (by simp;try omega)))) ⟨M4+17,(by omega),(by first|rfl|exact((zD hl11).trans fM1_1)|omega),rfl,rfl⟩
   replace H:=ifF C2 H
   refine Wsk (Jn hK4 ?_)
   refine Rt tok [] [0,1,5,6] (by
    intro K k
    have e0:=nQ w1 o1
    have e1:=nQ w1 o2
    have e2:=nQ w1 M4
    have e3:=nQ o1 o2
    have e4:=nQ o1 M4
    have e5:=nQ o2 M4
    simp -dsimp -implicitDefEqProofs [e0,e1,e2,e3,e4,e5,(gset hv9 _)]
    exact k) fun a ha=>?_
   obtain⟨l12,hl12,H⟩:=bE H
   obtain rfl:=oi H
   refine hK2 _ _ _ rfl ?_;rw[ha]
   refine gP zL w1 s2.toNat 0 ?_ (hr:=by exact gset hv9 _)
   rw[show hp E0 [(w1,some ⟨66,1,(eL yG s3).set s2.toNat [.osl 4 1 (eL rB v9)]⟩),(o1,some ⟨4,1,eL rB r7⟩),(o2,some ⟨4,1,eL rB r8⟩)] (M4+11)=hp E0 [(w1,some ⟨66,1,eL yG l12⟩),(o1,some ⟨4,1,eL rB r7⟩),(o2,some ⟨4,1,eL rB r8⟩)] (M4+11) from by rw[(setx_iff.1 hl12).2,← zY];rfl];(try rw[← zD hl12])
   exact Rc.fin (zK (AHeap.Sub.trans (AHeap.Sub.trans (AHeap.Sub.refl _) (zR rfl (by simp;try omega))) (zR rfl (by simp;try omega)))) ⟨M4+11,(by omega),(by first|rfl|exact((zD hl12).trans fM1_1)|omega),rfl,rfl⟩
  obtain rfl:=oi (ifF C1 H)
  refine zM (hO2 _ _ _ _ rfl ⟨rfl,?_⟩)
  refine Rc.rw (l:=[5]) (X:=[(5,.bool s1)]) rfl ?_
  exact Rf ⟨M1+2,(by omega),(by first|rfl|exact fM1_1|omega),rfl,rfl⟩
 intro x a σ hx
 obtain⟨y4,y5⟩:=e1
 obtain⟨rfl,b,τ,hr,M2,fM2_0,fM2_1,rfl,rfl⟩:=hx
 (try dsimp only at H)
 show K1 _ _
 refine hK1 _ _ (zL hr ?_)
 refine Rc.mk ?_
 refine S0 tok [] [4] ?_
 obtain rfl:=oi H
 refine Kp [4] ?_
 refine Wr ?_
 refine⟨[.bool y4],by simp,M2+2,by omega,by first|rfl|exact fM2_1|omega,?_,?_⟩
 ·simp[eN]
 first|rfl|simp

theorem c183 {p0:(List gQuad)}{r:(List (List Bool))}(H:s_LiveOf p0=some r):APure Tryz.prog G 183 [.fsl (eL rQuad p0)] (.fsl (eL rL_B r)):=by
 refine zB (fun N0=>?_) (by simp)
 refine fnK tok Tryz.func183 Tryz.ntmps183 Tryz.results183 ?_
 simp only[argsA,Nat.reduceAdd,hpN]
 unfold s_LiveOf at H
 refine S0 tok [] [0] ?_
 have q0:∀σ i,bsA T 76 true i 0 [] σ=some (.esl,σ):=fun _ _=>rfl
 refine Sx tok [0] [0,3] (by intro K k;simp -dsimp -implicitDefEqProofs [q0];exact k) ?_
 refine Wsq [0,3] fun K1 hK1=>?_
 obtain⟨r1,hr1,H⟩:=bE H
 refine Sx tok [] [0,3,8] (by intro K k;(repeat first|simp -dsimp -implicitDefEqProofs|refine(c117 hr1).app ?_);exact k) ?_
 refine Cd (fun C1=>?_) fun C1=>?_
 ·replace H:=ifT C1 H
  refine S0 tok [] [2] ?_
  obtain rfl:=oi H;exact Wr ⟨_,rfl,4,by simp[eN]⟩
 replace H:=ifF C1 H
 refine Wsk (Jn hK1 ?_)
 refine Wsq [0,3] fun K2 hK2=>?_
 refine S0 tok [] [0,3,4] ?_
 refine Wbl (Wth ?_)
 obtain⟨e1,hse1,H⟩:=bE H
 refine zU [0,3,4] (fun s a σ=>∃M1 o1:Nat,N0≤M1∧N0≤o1∧o1<M1∧a=[(0,.fsl (eL rQuad p0)),(3,.sl o1 0 s.2.length),(4,.int .i64 s.1)]∧σ=hp E0 [(o1,some ⟨66,1,eL yG s.2⟩)] M1) (fun s x a σ=>x=.exit 0∧Rc G 24 N0 (fun a σ=>∃M2 o2:Nat,N0≤M2∧N0≤o2∧o2<M2∧a=[(0,.fsl (eL rQuad p0)),(3,.sl o2 0 s.length)]∧σ=hp E0 [(o2,some ⟨66,1,eL yG s⟩)] M2) (AAct.keep a [0,3]) σ) hse1 ?_ ?_ ?_
 ·refine Rc.kp [0,3,4] [(0,.fsl (eL rQuad p0)),(3,.esl),(4,.int .i64 0)] rfl ?_
  refine gNilS zL 3 66 1 [(N0+7,some ⟨66,1,eL yG ([]:List (List Bool))⟩)] [(0,.fsl (eL rQuad p0)),(3,.sl (N0+7) 0 ([]:List (List Bool)).length),(4,.int .i64 0)] (by simp(disch:=omega)) (by simp(disch:=omega) [eN]) [0,3,4] rfl ?_
  exact Rf ⟨N0+8,(N0+7),(by omega),(by omega),(by omega),rfl,rfl⟩
 ·clear H hse1
  rintro⟨s2,s3⟩ fl a σ H ⟨M1,o1,fM1_0,fM1_1,fM1_2,rfl,rfl⟩ K3 O3 hK3 hO3
  unfold s_LiveOf_L1 at H;dsimp only at H
  refine Wsq [0,3,4] fun K4 hK4=>?_
  refine S0 tok [] [0,3,4,13] ?_
  refine Cd (fun C2=>?_) fun C2=>?_
  ·replace H:=ifT C2 H
   refine Wsk (Jn hK4 ?_)
   refine Wsq [0,3,4] fun K5 hK5=>?_
   refine Wbl (Wth ?_)
   obtain⟨l5,hl5,H⟩:=bE H
   obtain⟨l6,hl6,H⟩:=bE H
   have q1:∀(a0:Nat) (a1:Nat) σ i,bsA T 76 true i 1 [(0,.sl a0 0 a1)] σ=some (.fsl [[.sl a0 0 a1]],σ):=fun _ _ _ _=>rfl
   refine Rt tok [2] [0,3,4] (by
    intro K k
    have e0:=nQ o1 (M1+5)
    have e1:=nQ o1 (M1+7)
    simp -dsimp -implicitDefEqProofs [e0,e1,mak66 hl5,q1,apr76 yG hl6]
    exact k) fun a ha=>?_
   refine hK5 _ _ ?_;rw[ha]
   refine Rc.mk ?_
   refine gP Wre (M1+7) s3.length 0 ?_ (hr:=by exact app_get _ _ _)
   rw[show hp E0 [(M1+7,some ⟨66,1,eL yG s3++[[.osl 4 1 (eL rB l5)]]⟩)] (M1+9)=hp E0 [(M1+7,some ⟨66,1,eL yG l6⟩)] (M1+9) from by rw[← app_enc (f:=yG) (c:=[.osl 4 1 (eL rB l5)]) hl6 rfl]]
   refine Rt0 tok [] [0,3,4] fun a ha=>?_
   obtain rfl:=oi H
   refine hK3 _ _ _ rfl ?_;rw[ha]
   exact Rf ⟨M1+12,(M1+7),(by omega),(by omega),(by omega),rfl,rfl⟩
  obtain rfl:=oi (ifF C2 H)
  refine zM (hO3 _ _ _ _ rfl ⟨rfl,?_⟩)
  refine Rc.rw (l:=[0,3]) (X:=[(0,.fsl (eL rQuad p0)),(3,.sl o1 0 s3.length)]) rfl ?_
  exact Rf ⟨M1+4,o1,(by omega),(by omega),(by omega),rfl,rfl⟩
 intro x a σ hx
 obtain⟨y4,rfl⟩:∃x,x=e1:=⟨_,rfl⟩
 obtain⟨rfl,b,τ,hr,M2,o2,fM2_0,fM2_1,fM2_2,rfl,rfl⟩:=hx
 (try dsimp only at H)
 show K2 _ _
 refine hK2 _ _ (zL hr ?_)
 refine Rc.mk ?_
 refine Wsq [3] fun K6 hK6=>?_
 refine Wbl (Wth ?_)
 obtain⟨e2,hse2,H⟩:=bE H
 refine zU [0,3] (fun s a σ=>∃M3 o3:Nat,N0≤M3∧N0≤o3∧o3<M3∧a=[(0,.fsl (eL rQuad p0)),(3,.sl o3 0 s.length)]∧σ=hp E0 [(o3,some ⟨66,1,eL yG s⟩)] M3) (fun s x a σ=>x=.exit 2∧Rc G 24 N0 (fun a σ=>∃M4 o4:Nat,N0≤M4∧N0≤o4∧o4<M4∧a=[(3,.sl o4 0 s.length)]∧σ=hp E0 [(o4,some ⟨66,1,eL yG s⟩)] M4) (AAct.keep a [3]) σ) hse2 ?_ ?_ ?_
 ·refine Rc.kp [0,3] [(0,.fsl (eL rQuad p0)),(3,.sl o2 0 y4.length)] rfl ?_
  exact Rf ⟨M2,o2,(by omega),(by omega),(by omega),rfl,rfl⟩
 ·clear H hse2
  rintro s7 fl a σ H ⟨M3,o3,fM3_0,fM3_1,fM3_2,rfl,rfl⟩ K7 O7 hK7 hO7
  unfold s_LiveOf_L2 at H;dsimp only at H
  refine Wsq [0,3] fun K8 hK8=>?_
  obtain⟨r9,hr9,H⟩:=bE H
  refine kX tok [] [0,3,22] (fun a σ=>∃M5:Nat,M3+3≤M5∧r9.2.length=s7.length∧a=[(0,.fsl (eL rQuad p0)),(3,.sl o3 0 s7.length),(22,.bool r9.1)]∧σ=hp E0 [(o3,some ⟨66,1,eL yG r9.2⟩)] M5) (fun K hK=>?_) ?_
  ·skip
   simp -dsimp -implicitDefEqProofs
   refine(c201 (H:=hr9) (by simp)).mono ?_;rintro _ _ ⟨M5,fM5_0,fM5_1,rfl,rfl⟩;simp only[hpN] at fM5_0
   try simp -dsimp -implicitDefEqProofs [hoS,hoN]
   exact hK _ _ ⟨M5,(by omega),fM5_1,rfl,rfl⟩
  rintro a σ ⟨M5,fM5_0,fM5_1,rfl,rfl⟩
  try rw[← fM5_1]
  refine Cd (fun C3=>?_) fun C3=>?_
  ·replace H:=ifT C3 H
   refine Wsk (Jn hK8 ?_)
   refine Wbl (Wth ?_)
   refine Wsk ?_
   show K7 _ _
   refine kE [0,3] fun a' ha=>?_
   obtain rfl:=oi H
   refine hK7 _ _ _ rfl ?_;rw[ha]
   exact Rf ⟨M5,o3,(by omega),(by omega),(by omega),rfl,rfl⟩
  obtain rfl:=oi (ifF C3 H)
  refine zM (hO7 _ _ _ _ rfl ⟨rfl,?_⟩)
  refine Rc.rw (l:=[3]) (X:=[(3,.sl o3 0 r9.2.length)]) rfl ?_
  exact Rf ⟨M5,o3,(by omega),(by omega),(by omega),rfl,rfl⟩
 intro x a σ hx
 obtain⟨y8,rfl⟩:∃x,x=e2:=⟨_,rfl⟩
 obtain⟨rfl,b,τ,hr,M4,o4,fM4_0,fM4_1,fM4_2,rfl,rfl⟩:=hx
 (try dsimp only at H)
 show K6 _ _
 refine hK6 _ _ (zL hr ?_)
 refine Rc.mk ?_
 refine S0 tok [] [2] ?_
 obtain rfl:=oi H;exact Wr ⟨_,rfl,4,by simp[eN]⟩

theorem c184 {p0:gQuad}{p1:(List Bool)}{r:Bool}(H:s_l35Dead p0 p1=some r):APure Tryz.prog G 184 [.agg [.int .i64 p0.Op,.int .i64 p0.Dst,.int .i64 p0.A,.int .i64 p0.B,.int .i64 p0.N],.fsl (eL rB p1)] (.bool r):=by
 refine zB (fun N0=>?_) (by simp)
 refine fnK tok Tryz.func184 Tryz.ntmps184 Tryz.results184 ?_
 simp only[argsA,Nat.reduceAdd,hpN]
 unfold s_l35Dead at H
 refine S0 tok [0] [1,2] ?_
 refine Wsq [] fun K1 hK1=>?_
 refine S0 tok [] [1,2,6] ?_
 refine Wbl (Wth ?_)
 obtain⟨j1,hj1,H⟩:=bE H
 refine kL (kI fun K2 hK2=>?_)
 have hJ1:∀a σ,Rc G 17 N0 (fun a σ=>∃M1:Nat,N0≤M1∧a=[(1,.fsl (eL rB p1)),(2,.fptr [.int .i64 p0.Op,.int .i64 p0.Dst,.int .i64 p0.A,.int .i64 p0.B,.int .i64 p0.N] 0),(7,.bool j1)]∧σ=hp E0 [] M1) (a.keep [1,2,7]) σ→K2 a σ:=by
  rintro a σ ⟨b,τ,hr,M1,fM1_0,rfl,rfl⟩
  refine hK2 _ _ (kA [1,2,7] (Wre hr ?_))
  refine Cd (fun C1=>?_) fun C1=>?_
  ·replace H:=ifT C1 H
   obtain⟨v2,hv2,H⟩:=bE H
   refine Sx tok [] [4] (by intro K k;simp -dsimp -implicitDefEqProofs [ix66 hv2];exact k) ?_
   obtain rfl:=oi H;exact Wr ⟨_,rfl,4,by simp[eN]⟩
  replace H:=ifF C1 H
  refine Wsk (Jn hK1 ?_)
  refine S0 tok [] [4] ?_
  obtain rfl:=oi H;exact Wr ⟨_,rfl,4,by simp[eN]⟩
 replace H:=hj1
 refine S0 tok [] [1,2,6,7] ?_
 refine Cd (fun C2=>?_) fun C2=>?_
 ·replace H:=ifT C2 H
  refine Wsk ?_
  show K2 _ _
  refine kE [1,2,7] fun a' ha=>?_
  obtain rfl:=oi H
  refine hJ1 _ _ ?_;rw[ha]
  exact Rf ⟨N0+6,(by omega),rfl,rfl⟩
 replace H:=ifF C2 H
 refine S0 tok [] [1,2,6,7] ?_
 refine Cd (fun C3=>?_) fun C3=>?_
 ·replace H:=ifT C3 H
  refine Wsk ?_
  show K2 _ _
  refine kE [1,2,7] fun a' ha=>?_
  obtain rfl:=oi H
  refine hJ1 _ _ ?_;rw[ha]
  exact Rf ⟨N0+8,(by omega),rfl,rfl⟩
 replace H:=ifF C3 H
 refine Rt0 tok [] [1,2,7] fun a ha=>?_
 obtain rfl:=oi H
 refine hJ1 _ _ ?_;rw[ha]
 exact Rf ⟨N0+10,(by omega),rfl,rfl⟩

theorem c166 {p0:(List gQuad)}{r:(List gQuad)×Bool}(H:s_DeadCode p0=some r):APure Tryz.prog G 166 [.fsl (eL rQuad p0)] (.tup [.fsl (eL rQuad r.1),.bool r.2]):=by
 refine zB (fun N0=>?_) (by simp)
 refine fnK tok Tryz.func166 Tryz.ntmps166 Tryz.results166 ?_
 simp only[argsA,Nat.reduceAdd,hpN]
 unfold s_DeadCode at H
 refine S0 tok [] [0] ?_
 have q0:∀σ i,bsA T 23 true i 0 [] σ=some (.esl,σ):=fun _ _=>rfl
 refine Sx tok [0] [0,4] (by intro K k;simp -dsimp -implicitDefEqProofs [q0];exact k) ?_
 refine Wsq [0,4] fun K1 hK1=>?_
 obtain⟨r1,hr1,H⟩:=bE H
 refine Sx tok [] [0,4,11] (by intro K k;(repeat first|simp -dsimp -implicitDefEqProofs|refine(c117 hr1).app ?_);exact k) ?_
 refine Cd (fun C1=>?_) fun C1=>?_
 ·replace H:=ifT C1 H
  refine S0 tok [] [2,3] ?_
  obtain rfl:=oi H;exact Wr ⟨_,rfl,4,by simp[eN]⟩
 replace H:=ifF C1 H
 refine Wsk (Jn hK1 ?_)
 obtain⟨r2,hr2,H⟩:=bE H
 refine Sx tok [] [0,4,5] (by intro K k;(repeat first|simp -dsimp -implicitDefEqProofs|refine(c183 hr2).app ?_);exact k) ?_
 refine Wsq [4] fun K2 hK2=>?_
 refine S0 tok [] [0,4,5,6] ?_
 refine Wbl (Wth ?_)
 obtain⟨e2,hse2,H⟩:=bE H
 refine zU [0,4,5,6] (fun s a σ=>∃M1 o1:Nat,N0≤M1∧N0≤o1∧o1<M1∧a=[(0,.fsl (eL rQuad p0)),(4,.sl o1 0 s.2.length),(5,.fsl (eL rL_B r2)),(6,.int .i64 s.1)]∧σ=hp E0 [(o1,some ⟨36,5,eL rQuad s.2⟩)] M1) (fun s x a σ=>x=.exit 0∧Rc G 39 N0 (fun a σ=>∃M2 o2:Nat,N0≤M2∧N0≤o2∧o2<M2∧a=[(4,.sl o2 0 s.length)]∧σ=hp E0 [(o2,some ⟨36,5,eL rQuad s⟩)] M2) (AAct.keep a [4]) σ) hse2 ?_ ?_ ?_
 ·refine Rc.kp [0,4,5,6] [(0,.fsl (eL rQuad p0)),(4,.esl),(5,.fsl (eL rL_B r2)),(6,.int .i64 0)] rfl ?_
  refine gNilS zL 4 36 5 [(N0+11,some ⟨36,5,eL rQuad ([]:List gQuad)⟩)] [(0,.fsl (eL rQuad p0)),(4,.sl (N0+11) 0 ([]:List gQuad).length),(5,.fsl (eL rL_B r2)),(6,.int .i64 0)] (by simp(disch:=omega)) (by simp(disch:=omega) [eN]) [0,4,5,6] rfl ?_
  exact Rf ⟨N0+12,(N0+11),(by omega),(by omega),(by omega),rfl,rfl⟩
 ·clear H hse2
  rintro⟨s3,s4⟩ fl a σ H ⟨M1,o1,fM1_0,fM1_1,fM1_2,rfl,rfl⟩ K3 O3 hK3 hO3
  unfold s_DeadCode_L1 at H;dsimp only at H
  refine Wsq [0,4,5,6] fun K4 hK4=>?_
  refine S0 tok [] [0,4,5,6,18] ?_
  refine Cd (fun C2=>?_) fun C2=>?_
  ·replace H:=ifT C2 H
   refine Wsk (Jn hK4 ?_)
   refine Wsq [0,4,5,6] fun K5 hK5=>?_
   refine Wbl (Wth ?_)
   obtain⟨v6,hv6,H⟩:=bE H
   refine Sx tok [] [0,4,5,6,7] (by
    intro K k
    have e0:=nQ o1 (M1+8)
    simp -dsimp -implicitDefEqProofs [e0,ix23 hv6]
    exact k) ?_
   obtain⟨j1,hj1,H⟩:=bE H
   refine kL (kI fun K6 hK6=>?_)
   have hJ1:∀a σ,Rc G 39 N0 (fun a σ=>∃M3:Nat,N0≤M3∧o1<M3∧M1+8<M3∧a=[(0,.fsl (eL rQuad p0)),(4,.sl o1 0 s4.length),(5,.fsl (eL rL_B r2)),(6,.int .i64 s3),(7,.ptr (M1+8) 0 0)]∧σ=hp E0 [(o1,some ⟨36,5,eL rQuad s4⟩),(M1+8,some ⟨36,5,[[.int .i64 j1.Op,.int .i64 j1.Dst,.int .i64 j1.A,.int .i64 j1.B,.int .i64 j1.N]]⟩)] M3) (a.keep [0,4,5,6,7]) σ→K6 a σ:=by
    rintro a σ ⟨b,τ,hr,M3,fM3_0,fM3_1,fM3_2,rfl,rfl⟩
    refine hK6 _ _ (kA [0,4,5,6,7] (Wre hr ?_))
    obtain⟨l8,hl8,H⟩:=bE H
    have q1:∀σ i,bsA T 23 true i 1 [(0,.agg [.int .i64 j1.Op,.int .i64 j1.Dst,.int .i64 j1.A,.int .i64 j1.B,.int .i64 j1.N])] σ=some (.fsl (eL rQuad ([j1]:List gQuad)),σ):=fun _ _=>rfl
    refine Rt tok [2] [0,4,5,6] (by
     intro K k
     have e0:=nQ o1 (M1+8)
     have e1:=nQ o1 (M3+3)
     have e2:=nQ (M1+8) (M3+3)
     have e3:=nQ (M1+5) M3
     simp -dsimp -implicitDefEqProofs [e0,e1,e2,e3,q1,app23 hl8]
     exact k) fun a ha=>?_
    refine hK5 _ _ ?_;rw[ha]
    refine Rc.mk ?_
    refine Rt tok [] [0,4,5,6] (by
     intro K k
     have e0:=nQ (M1+8) (M3+3)
     have e1:=nQ (M1+5) M3
     simp -dsimp -implicitDefEqProofs [e0,e1]
     exact k) fun a ha=>?_
    obtain rfl:=oi H
    refine hK3 _ _ _ rfl ?_;rw[ha]
    exact Rc.fin (AHeap.Sub.trans (zK (AHeap.Sub.refl _)) (zR rfl (by simp;try omega))) ⟨M3+8,(M3+3),(by omega),(by omega),(by omega),rfl,rfl⟩
   replace H:=hj1
   obtain⟨r9,hr9,H⟩:=bE H
   obtain⟨r10,hr10,H⟩:=bE H
   refine Sd tok tokM [] [0] [1,2,3,4,0,5] [0,4,5,6,7,30] (by
    intro K k
    have e0:=nQ o1 (M1+8)
    simp only[pickL,zH,zJ]
    repeat first|simp -dsimp -implicitDefEqProofs [e0]|refine Pc.mk (c185 hr9) ?_|refine Pc.mk (c184 hr10) ?_
    exact k) ?_
   refine Cd (fun C3=>?_) fun C3=>?_
   ·replace H:=ifT C3 H
    refine Rt tok [] [0,4,5,6,7] (by
     intro K k
     have e0:=nQ o1 (M1+8)
     simp -dsimp -implicitDefEqProofs [e0]
     exact k) fun a ha=>?_
    obtain rfl:=oi H
    refine hJ1 _ _ ?_;rw[ha]
    exact Rf ⟨M1+20,(by omega),(by omega),(by omega),rfl,rfl⟩
   replace H:=ifF C3 H
   refine Wsk ?_
   show K6 _ _
   refine kE [0,4,5,6,7] fun a' ha=>?_
   obtain rfl:=oi H
   refine hJ1 _ _ ?_;rw[ha]
   exact Rf ⟨M1+16,(by omega),(by omega),(by omega),rfl,rfl⟩
  obtain rfl:=oi (ifF C2 H)
  refine zM (hO3 _ _ _ _ rfl ⟨rfl,?_⟩)
  refine Rc.rw (l:=[4]) (X:=[(4,.sl o1 0 s4.length)]) rfl ?_
  exact Rf ⟨M1+4,o1,(by omega),(by omega),(by omega),rfl,rfl⟩
 intro x a σ hx
 obtain⟨y5,rfl⟩:∃x,x=e2:=⟨_,rfl⟩
 obtain⟨rfl,b,τ,hr,M2,o2,fM2_0,fM2_1,fM2_2,rfl,rfl⟩:=hx
 (try dsimp only at H)
 show K2 _ _
 refine hK2 _ _ (zL hr ?_)
 refine Rc.mk ?_
 refine S0 tok [] [2,3] ?_
 obtain rfl:=oi H;exact Wr ⟨_,rfl,4,by simp[eN]⟩

theorem c203 {p0:(List gQuad)}{p1:(List Bool)}{r:Bool×(List Bool)}(H:wI p0 p1=some r){σ:AHeap}{w1:Nat}(q1:σ.objs w1=some ⟨4,1,eL rB p1⟩):ACalls Tryz.prog G 203 [.fsl (eL rQuad p0),.sl w1 0 p1.length] σ (fun v σ'=>∃M:Nat,σ.next≤M∧r.2.length=p1.length∧v=.bool r.1∧σ'=hp σ.objs [(w1,some ⟨4,1,eL rB r.2⟩)] M):=by
 refine zP (L:=[(w1,some ⟨4,1,eL rB p1⟩)]) (Q1:=fun v σ'=>∃M:Nat,σ.next≤M∧r.2.length=p1.length∧v=.bool r.1∧σ'=hp E0 [(w1,some ⟨4,1,eL rB r.2⟩)] M) (by simp[q1]) (fun hlt=>?_) ?_ ⟨_,Tryz.func203,rfl,rfl⟩
 rotate_left
 ·rintro v σ1 ⟨M,h0,h1,rfl,rfl⟩
  exact⟨_,M,rfl,by simp,by simp;try omega,M,h0,h1,rfl,rfl⟩
 generalize σ.next=N0 at hlt ⊢
 have lw1:w1<N0:=hlt _ (.head _) rfl
 refine fnK tok Tryz.func203 Tryz.ntmps203 Tryz.results203 ?_
 simp only[argsA,Nat.reduceAdd,hpN]
 unfold wI at H
 refine S0 tok [] [0,1] ?_
 refine S0 tok [] [0,1,5] ?_
 refine Wsq [5] fun K1 hK1=>?_
 refine S0 tok [] [0,1,5,6] ?_
 refine Wbl (Wth ?_)
 obtain⟨e2,hse2,H⟩:=bE H
 refine zU [0,1,5,6] (fun s a σ=>∃M1:Nat,N0≤M1∧s.2.2.length=p1.length∧a=[(0,.fsl (eL rQuad p0)),(1,.sl w1 0 s.2.2.length),(5,.bool s.1),(6,.int .i64 s.2.1)]∧σ=hp E0 [(w1,some ⟨4,1,eL rB s.2.2⟩)] M1) (fun s x a σ=>x=.exit 0∧Rc G 44 N0 (fun a σ=>∃M2:Nat,N0≤M2∧s.2.length=p1.length∧a=[(5,.bool s.1)]∧σ=hp E0 [(w1,some ⟨4,1,eL rB s.2⟩)] M2) (AAct.keep a [5]) σ) hse2 ?_ ?_ ?_
 ·refine Rc.kp [0,1,5,6] [(0,.fsl (eL rQuad p0)),(1,.sl w1 0 p1.length),(5,.bool false),(6,.int .i64 0)] rfl ?_
  exact Rf ⟨N0+3,(by omega),(by first|rfl|exact rfl|omega),rfl,rfl⟩
 ·clear H hse2
  rintro⟨s1,s2,s3⟩ fl a σ H ⟨M1,fM1_0,fM1_1,rfl,rfl⟩ K2 O2 hK2 hO2
  unfold s_l31Spread_L1 at H;dsimp only at H
  refine Wsq [0,1,5,6] fun K3 hK3=>?_
  refine S0 tok [] [0,1,5,6,12] ?_
  refine Cd (fun C1=>?_) fun C1=>?_
  ·replace H:=ifT C1 H
   refine Wsk (Jn hK3 ?_)
   refine Wsq [0,1,5,6] fun K4 hK4=>?_
   refine Wbl (Wth ?_)
   refine Wsq [0,1,5,6] fun K5 hK5=>?_
   obtain⟨v6,hv6,H⟩:=bE H
   refine Sx tok [] [0,1,5,6,19] (by intro K k;simp -dsimp -implicitDefEqProofs [ixo66 hv6,(zE hv6).2.2];exact k) ?_
   refine Cd (fun C2=>?_) fun C2=>?_
   ·replace H:=ifT C2 H
    refine zM ?_
    show K4 _ _
    refine kE [0,1,5,6] fun a' ha=>?_
    refine hK4 _ _ ?_;rw[ha]
    refine Rc.mk ?_
    refine Rt0 tok [] [0,1,5,6] fun a ha=>?_
    obtain rfl:=oi H
    refine hK2 _ _ _ rfl ?_;rw[ha]
    exact Rf ⟨M1+12,(by omega),(by first|rfl|exact fM1_1|omega),rfl,rfl⟩
   replace H:=ifF C2 H
   refine Wsk (Jn hK5 ?_)
   obtain⟨r7,hr7,H⟩:=bE H
   refine Sx tok [] [0,1,5,6,7] (by intro K k;(repeat first|simp -dsimp -implicitDefEqProofs|refine(c202 hr7).app ?_);exact k) ?_
   refine S0 tok [] [0,1,5,6,7,8] ?_
   refine Wbl (Wth ?_)
   obtain⟨e1,hse1,H⟩:=bE H
   refine zU [0,1,5,6,7,8] (fun s a σ=>∃M3:Nat,N0≤M3∧s.2.2.length=p1.length∧a=[(0,.fsl (eL rQuad p0)),(1,.sl w1 0 s.2.2.length),(5,.bool s.1),(6,.int .i64 s2),(7,.fsl (eL rI r7)),(8,.int .i64 s.2.1)]∧σ=hp E0 [(w1,some ⟨4,1,eL rB s.2.2⟩)] M3) (fun s x a σ=>x=.exit 2∧Rc G 44 N0 (fun a σ=>∃M4:Nat,N0≤M4∧s.2.length=p1.length∧a=[(0,.fsl (eL rQuad p0)),(1,.sl w1 0 s.2.length),(5,.bool s.1),(6,.int .i64 s2)]∧σ=hp E0 [(w1,some ⟨4,1,eL rB s.2⟩)] M4) (AAct.keep a [0,1,5,6]) σ) hse1 ?_ ?_ ?_
   ·refine Rc.kp [0,1,5,6,7,8] [(0,.fsl (eL rQuad p0)),(1,.sl w1 0 s3.length),(5,.bool s1),(6,.int .i64 s2),(7,.fsl (eL rI r7)),(8,.int .i64 0)] rfl ?_
    exact Rf ⟨M1+14,(by omega),(by first|rfl|exact fM1_1|omega),rfl,rfl⟩
   ·clear H hse1
    rintro⟨s8,s9,s10⟩ fl a σ H ⟨M3,fM3_0,fM3_1,rfl,rfl⟩ K6 O6 hK6 hO6
    unfold s_l31Spread_L2 at H;dsimp only at H
    refine Wsq [0,1,5,6,7,8] fun K7 hK7=>?_
    refine S0 tok [] [0,1,5,6,7,8,26] ?_
    refine Cd (fun C3=>?_) fun C3=>?_
    ·replace H:=ifT C3 H
     refine Wsk (Jn hK7 ?_)
     refine Wsq [0,1,5,6,7,8] fun K8 hK8=>?_
     refine Wbl (Wth ?_)
     obtain⟨v13,hv13,H⟩:=bE H
     obtain⟨v14,hv14,H⟩:=bE H
     refine Sx tok [] [0,1,5,6,7,8,36] (by intro K k;simp -dsimp -implicitDefEqProofs [ix24 hv13,ixo66 hv14,(zE hv14).2.2];exact k) ?_
     refine Cd (fun C4=>?_) fun C4=>?_
     ·replace H:=ifT C4 H
      obtain⟨l15,hl15,H⟩:=bE H
      refine Sx tok [] [0,1,6,7,8] (by intro K k;simp -dsimp -implicitDefEqProofs [ix24 hv13,ixo66 hv14,(zE hv14).2.2,(setx_iff.1 hl15).2.symm];exact k) ?_
      try rw[← zD hl15]
      refine Rt0 tok [] [0,1,5,6,7,8] fun a ha=>?_
      refine hK8 _ _ ?_;rw[ha]
      refine Rc.mk ?_
      refine Rt0 tok [] [0,1,5,6,7,8] fun a ha=>?_
      obtain rfl:=oi H
      refine hK6 _ _ _ rfl ?_;rw[ha]
      exact Rf ⟨M3+23,(by omega),(by first|rfl|exact((zD hl15).trans fM3_1)|omega),rfl,rfl⟩
     replace H:=ifF C4 H
     refine Wsk (Jn hK8 ?_)
     refine Rt0 tok [] [0,1,5,6,7,8] fun a ha=>?_
     obtain rfl:=oi H
     refine hK6 _ _ _ rfl ?_;rw[ha]
     exact Rf ⟨M3+15,(by omega),(by first|rfl|exact fM3_1|omega),rfl,rfl⟩
    obtain rfl:=oi (ifF C3 H)
    refine zM (hO6 _ _ _ _ rfl ⟨rfl,?_⟩)
    refine Rc.rw (l:=[0,1,5,6]) (X:=[(0,.fsl (eL rQuad p0)),(1,.sl w1 0 s10.length),(5,.bool s8),(6,.int .i64 s2)]) rfl ?_
    exact Rf ⟨M3+4,(by omega),(by first|rfl|exact fM3_1|omega),rfl,rfl⟩
   intro x a σ hx
   obtain⟨y11,y12⟩:=e1
   obtain⟨rfl,b,τ,hr,M4,fM4_0,fM4_1,rfl,rfl⟩:=hx
   (try dsimp only at H)
   show K4 _ _
   refine hK4 _ _ (zL hr ?_)
   refine Rc.mk ?_
   refine Rt0 tok [] [0,1,5,6] fun a ha=>?_
   obtain rfl:=oi H
   refine hK2 _ _ _ rfl ?_;rw[ha]
   exact Rf ⟨M4+3,(by omega),(by first|rfl|exact fM4_1|omega),rfl,rfl⟩
  obtain rfl:=oi (ifF C1 H)
  refine zM (hO2 _ _ _ _ rfl ⟨rfl,?_⟩)
  refine Rc.rw (l:=[5]) (X:=[(5,.bool s1)]) rfl ?_
  exact Rf ⟨M1+4,(by omega),(by first|rfl|exact fM1_1|omega),rfl,rfl⟩
 intro x a σ hx
 obtain⟨y4,y5⟩:=e2
 obtain⟨rfl,b,τ,hr,M2,fM2_0,fM2_1,rfl,rfl⟩:=hx
 (try dsimp only at H)
 show K1 _ _
 refine hK1 _ _ (zL hr ?_)
 refine Rc.mk ?_
 refine S0 tok [] [4] ?_
 obtain rfl:=oi H
 refine Kp [4] ?_
 refine Wr ?_
 refine⟨[.bool y4],by simp,M2+2,by omega,by first|rfl|exact fM2_1|omega,?_,?_⟩
 ·simp[eN]
 first|rfl|simp

theorem c187 {p0:gQuad}{p1:Int}{r:Bool}(H:s_l36Idle p0 p1=some r):APure Tryz.prog G 187 [.agg [.int .i64 p0.Op,.int .i64 p0.Dst,.int .i64 p0.A,.int .i64 p0.B,.int .i64 p0.N],.int .i64 p1] (.bool r):=by
 refine zB (fun N0=>?_) (by simp)
 refine fnK tok Tryz.func187 Tryz.ntmps187 Tryz.results187 ?_
 simp only[argsA,Nat.reduceAdd,hpN]
 unfold s_l36Idle at H
 refine S0 tok [0] [1,2] ?_
 refine Wsq [] fun K1 hK1=>?_
 refine S0 tok [] [1,2,6] ?_
 refine Wbl (Wth ?_)
 obtain⟨j1,hj1,H⟩:=bE H
 refine kL (kI fun K2 hK2=>?_)
 have hJ1:∀a σ,Rc G 22 N0 (fun a σ=>∃M1:Nat,N0≤M1∧a=[(1,.int .i64 p1),(2,.fptr [.int .i64 p0.Op,.int .i64 p0.Dst,.int .i64 p0.A,.int .i64 p0.B,.int .i64 p0.N] 0),(6,.int .i64 p0.Op),(7,.bool j1)]∧σ=hp E0 [] M1) (a.keep [1,2,6,7]) σ→K2 a σ:=by
  rintro a σ ⟨b,τ,hr,M1,fM1_0,rfl,rfl⟩
  refine hK2 _ _ (kA [1,2,6,7] (Wre hr ?_))
  refine Cd (fun C1=>?_) fun C1=>?_
  ·replace H:=ifT C1 H
   refine S0 tok [] [4] ?_
   obtain rfl:=oi H;exact Wr ⟨_,rfl,4,by simp[eN]⟩
  replace H:=ifF C1 H
  refine S0 tok [] [2,15] ?_
  refine Cd (fun C2=>?_) fun C2=>?_
  ·replace H:=ifT C2 H
   refine S0 tok [] [4] ?_
   obtain rfl:=oi H;exact Wr ⟨_,rfl,4,by simp[eN]⟩
  replace H:=ifF C2 H
  refine Wsk (Jn hK1 ?_)
  refine S0 tok [] [4] ?_
  obtain rfl:=oi H;exact Wr ⟨_,rfl,4,by simp[eN]⟩
 replace H:=hj1
 refine S0 tok [] [1,2,6,7] ?_
 refine Cd (fun C3=>?_) fun C3=>?_
 ·replace H:=ifT C3 H
  refine Wsk ?_
  show K2 _ _
  refine kE [1,2,6,7] fun a' ha=>?_
  obtain rfl:=oi H
  refine hJ1 _ _ ?_;rw[ha]
  exact Rf ⟨N0+6,(by omega),rfl,rfl⟩
 replace H:=ifF C3 H
 refine Rt0 tok [] [1,2,6,7] fun a ha=>?_
 obtain rfl:=oi H
 refine hJ1 _ _ ?_;rw[ha]
 exact Rf ⟨N0+8,(by omega),rfl,rfl⟩

theorem c186_o {p0:(List gQuad)}{r:(List Bool)}(H:xW p0=some r){σ:AHeap}:ACalls Tryz.prog G 186 [.fsl (eL rQuad p0)] σ (fun v σ'=>∃M n0:Nat,σ.next≤M∧σ.next≤n0∧n0<M∧v=.sl n0 0 r.length∧σ'=hp σ.objs [(n0,some ⟨4,1,eL rB r⟩)] M):=by
 refine zP (L:=[]) (Q1:=fun v σ'=>∃M n0:Nat,σ.next≤M∧σ.next≤n0∧n0<M∧v=.sl n0 0 r.length∧σ'=hp E0 [(n0,some ⟨4,1,eL rB r⟩)] M) (by simp) (fun hlt=>?_) ?_ ⟨_,Tryz.func186,rfl,rfl⟩
 rotate_left
 ·rintro v σ1 ⟨M,n0,h0,h1,h2,rfl,rfl⟩
  exact⟨_,M,rfl,by simp,by simp;try omega,M,n0,h0,h1,h2,rfl,rfl⟩
 generalize σ.next=N0 at hlt ⊢
 refine fnK tok Tryz.func186 Tryz.ntmps186 Tryz.results186 ?_
 simp only[argsA,Nat.reduceAdd,hpN]
 unfold xW at H
 refine S0 tok [] [0] ?_
 refine Wsq [0] fun K1 hK1=>?_
 obtain⟨r1,hr1,H⟩:=bE H
 refine Sx tok [] [0,6] (by intro K k;(repeat first|simp -dsimp -implicitDefEqProofs|refine(c117 hr1).app ?_);exact k) ?_
 refine Cd (fun C1=>?_) fun C1=>?_
 ·replace H:=ifT C1 H
  have q0:∀σ i,bsA T 66 true i 0 [] σ=some (.esl,σ):=fun _ _=>rfl
  refine Sx tok [0] [2] (by intro K k;simp -dsimp -implicitDefEqProofs [q0];exact k) ?_
  obtain rfl:=oi H
  refine Kp [2] ?_
  refine gNilS Wre 2 4 1 [(N0+6,some ⟨4,1,eL rB ([]:List Bool)⟩)] [(2,.sl (N0+6) 0 ([]:List Bool).length)] (by simp(disch:=omega)) (by simp(disch:=omega) [eN]) [2] rfl ?_
  refine Wr ?_
  refine⟨[.sl (N0+6) 0 ([]:List Bool).length],by simp,N0+7,N0+6,by omega,by omega,by omega,?_,?_⟩
  ·simp[eN]
  first|rfl|simp
 replace H:=ifF C1 H
 refine Wsk (Jn hK1 ?_)
 obtain⟨l2,hl2,H⟩:=bE H
 refine Sx tok [] [0,3] (by intro K k;simp -dsimp -implicitDefEqProofs [mak66 hl2];exact k) ?_
 obtain⟨v3,hv3,H⟩:=bE H
 obtain⟨l4,hl4,H⟩:=bE H
 refine Sx tok [] [0,3] (by intro K k;simp -dsimp -implicitDefEqProofs [ixo66 hv3,(show _[0]? =some v3 from(zE hv3).2.2),(show List.set _ 0 _=l4 from(setx_iff.1 hl4).2.symm)];exact k) ?_
 try rw[← zD hl4]
 refine Wsq [3] fun K2 hK2=>?_
 refine Wbl (Wth ?_)
 obtain⟨e1,hse1,H⟩:=bE H
 refine zU [0,3] (fun s a σ=>∃M1 o1:Nat,N0≤M1∧N0≤o1∧o1<M1∧a=[(0,.fsl (eL rQuad p0)),(3,.sl o1 0 s.length)]∧σ=hp E0 [(o1,some ⟨4,1,eL rB s⟩)] M1) (fun s x a σ=>x=.exit 0∧Rc G 17 N0 (fun a σ=>∃M2 o2:Nat,N0≤M2∧N0≤o2∧o2<M2∧a=[(3,.sl o2 0 s.length)]∧σ=hp E0 [(o2,some ⟨4,1,eL rB s⟩)] M2) (AAct.keep a [3]) σ) hse1 ?_ ?_ ?_
 ·refine Rc.kp [0,3] [(0,.fsl (eL rQuad p0)),(3,.sl (N0+6) 0 l4.length)] rfl ?_
  exact Rf ⟨N0+11,(N0+6),(by omega),(by omega),(by omega),rfl,rfl⟩
 ·clear H hse1
  rintro s5 fl a σ H ⟨M1,o1,fM1_0,fM1_1,fM1_2,rfl,rfl⟩ K3 O3 hK3 hO3
  unfold s_CodeReach_o_L1 at H;dsimp only at H
  refine Wsq [0,3] fun K4 hK4=>?_
  obtain⟨r7,hr7,H⟩:=bE H
  refine kX tok [] [0,3,15] (fun a σ=>∃M3:Nat,M1+3≤M3∧r7.2.length=s5.length∧a=[(0,.fsl (eL rQuad p0)),(3,.sl o1 0 s5.length),(15,.bool r7.1)]∧σ=hp E0 [(o1,some ⟨4,1,eL rB r7.2⟩)] M3) (fun K hK=>?_) ?_
  ·skip
   simp -dsimp -implicitDefEqProofs
   refine(c203 (H:=hr7) (by simp)).mono ?_;rintro _ _ ⟨M3,fM3_0,fM3_1,rfl,rfl⟩;simp only[hpN] at fM3_0
   try simp -dsimp -implicitDefEqProofs [hoS,hoN]
   exact hK _ _ ⟨M3,(by omega),fM3_1,rfl,rfl⟩
  rintro a σ ⟨M3,fM3_0,fM3_1,rfl,rfl⟩
  try rw[← fM3_1]
  refine Cd (fun C2=>?_) fun C2=>?_
  ·replace H:=ifT C2 H
   refine Wsk (Jn hK4 ?_)
   refine Wbl (Wth ?_)
   refine Wsk ?_
   show K3 _ _
   refine kE [0,3] fun a' ha=>?_
   obtain rfl:=oi H
   refine hK3 _ _ _ rfl ?_;rw[ha]
   exact Rf ⟨M3,o1,(by omega),(by omega),(by omega),rfl,rfl⟩
  obtain rfl:=oi (ifF C2 H)
  refine zM (hO3 _ _ _ _ rfl ⟨rfl,?_⟩)
  refine Rc.rw (l:=[3]) (X:=[(3,.sl o1 0 r7.2.length)]) rfl ?_
  exact Rf ⟨M3,o1,(by omega),(by omega),(by omega),rfl,rfl⟩
 intro x a σ hx
 obtain⟨y6,rfl⟩:∃x,x=e1:=⟨_,rfl⟩
 obtain⟨rfl,b,τ,hr,M2,o2,fM2_0,fM2_1,fM2_2,rfl,rfl⟩:=hx
 (try dsimp only at H)
 show K2 _ _
 refine hK2 _ _ (zL hr ?_)
 refine Rc.mk ?_
 refine S0 tok [] [2] ?_
 obtain rfl:=oi H
 refine Kp [2] ?_
 refine Wr ?_
 refine⟨[.sl o2 0 y6.length],by simp,M2+2,o2,by omega,by omega,by omega,?_,?_⟩
 ·simp[eN]
 first|rfl|simp

theorem c188 {p0:(List Bool)}{p1:Int}{r:Int}(H:s_l36Place p0 p1=some r):APure Tryz.prog G 188 [.fsl (eL rB p0),.int .i64 p1] (.int .i64 r):=by
 refine zB (fun N0=>?_) (by simp)
 refine fnK tok Tryz.func188 Tryz.ntmps188 Tryz.results188 ?_
 simp only[argsA,Nat.reduceAdd,hpN]
 unfold s_l36Place at H
 refine S0 tok [] [0,1] ?_
 refine S0 tok [] [0,1,5] ?_
 refine Wsq [5] fun K1 hK1=>?_
 refine S0 tok [] [0,1,5,6] ?_
 refine Wbl (Wth ?_)
 obtain⟨e1,hse1,H⟩:=bE H
 refine zU [0,1,5,6] (fun s a σ=>∃M1:Nat,N0≤M1∧a=[(0,.fsl (eL rB p0)),(1,.int .i64 p1),(5,.int .i64 s.1),(6,.int .i64 s.2)]∧σ=hp E0 [] M1) (fun s x a σ=>x=.exit 0∧Rc G 19 N0 (fun a σ=>∃M2:Nat,N0≤M2∧a=[(5,.int .i64 s)]∧σ=hp E0 [] M2) (AAct.keep a [5]) σ) hse1 ?_ ?_ ?_
 ·refine Rc.kp [0,1,5,6] [(0,.fsl (eL rB p0)),(1,.int .i64 p1),(5,.int .i64 0),(6,.int .i64 0)] rfl ?_
  exact Rf ⟨N0+3,(by omega),rfl,rfl⟩
 ·clear H hse1
  rintro⟨s1,s2⟩ fl a σ H ⟨M1,fM1_0,rfl,rfl⟩ K2 O2 hK2 hO2
  unfold xJ at H;dsimp only at H
  refine Wsq [0,1,5,6] fun K3 hK3=>?_
  refine S0 tok [] [0,1,5,6,9] ?_
  refine Cd (fun C1=>?_) fun C1=>?_
  ·replace H:=ifT C1 H
   refine Wsk (Jn hK3 ?_)
   refine Wsq [0,1,5,6] fun K4 hK4=>?_
   refine Wbl (Wth ?_)
   obtain⟨v4,hv4,H⟩:=bE H
   refine Sx tok [] [0,1,5,6,15] (by intro K k;simp -dsimp -implicitDefEqProofs [ix66 hv4];exact k) ?_
   refine Cd (fun C2=>?_) fun C2=>?_
   ·replace H:=ifT C2 H
    refine Rt0 tok [] [0,1,5,6] fun a ha=>?_
    refine hK4 _ _ ?_;rw[ha]
    refine Rc.mk ?_
    refine Rt0 tok [] [0,1,5,6] fun a ha=>?_
    obtain rfl:=oi H
    refine hK2 _ _ _ rfl ?_;rw[ha]
    exact Rf ⟨M1+13,(by omega),rfl,rfl⟩
   replace H:=ifF C2 H
   refine Wsk (Jn hK4 ?_)
   refine Rt0 tok [] [0,1,5,6] fun a ha=>?_
   obtain rfl:=oi H
   refine hK2 _ _ _ rfl ?_;rw[ha]
   exact Rf ⟨M1+10,(by omega),rfl,rfl⟩
  obtain rfl:=oi (ifF C1 H)
  refine zM (hO2 _ _ _ _ rfl ⟨rfl,?_⟩)
  refine Rc.rw (l:=[5]) (X:=[(5,.int .i64 s1)]) rfl ?_
  exact Rf ⟨M1+3,(by omega),rfl,rfl⟩
 intro x a σ hx
 obtain⟨y3,rfl⟩:∃x,x=e1:=⟨_,rfl⟩
 obtain⟨rfl,b,τ,hr,M2,fM2_0,rfl,rfl⟩:=hx
 (try dsimp only at H)
 show K1 _ _
 refine hK1 _ _ (zL hr ?_)
 refine Rc.mk ?_
 refine S0 tok [] [4] ?_
 obtain rfl:=oi H;exact Wr ⟨_,rfl,4,by simp[eN]⟩

theorem c134_o {p0:gL6Rd}{r:(List gQuad)×gL6Rd}(H:xH p0=some r){σ:AHeap}{w0:Nat}{W0:List (List AV)}{r0_:Nat}(q0:σ.objs w0=some ⟨127,2,W0⟩)(g0:W0[r0_]? =some [.fsl (eL rU8 p0.b),.int .i64 p0.p]):ACalls Tryz.prog G 134 [.ptr w0 r0_ 0] σ (fun v σ'=>∃M n0:Nat,σ.next≤M∧σ.next≤n0∧n0<M∧v=.sl n0 0 r.1.length∧σ'=hp σ.objs [(w0,some ⟨127,2,W0.set r0_ [.fsl (eL rU8 r.2.b),.int .i64 r.2.p]⟩),(n0,some ⟨36,5,eL rQuad r.1⟩)] M):=by
 refine zP (L:=[(w0,some ⟨127,2,W0⟩)]) (Q1:=fun v σ'=>∃M n0:Nat,σ.next≤M∧σ.next≤n0∧n0<M∧v=.sl n0 0 r.1.length∧σ'=hp E0 [(w0,some ⟨127,2,W0.set r0_ [.fsl (eL rU8 r.2.b),.int .i64 r.2.p]⟩),(n0,some ⟨36,5,eL rQuad r.1⟩)] M) (by simp[q0]) (fun hlt=>?_) ?_ ⟨_,Tryz.func134,rfl,rfl⟩
 rotate_left
 ·rintro v σ1 ⟨M,n0,h0,h1,h2,rfl,rfl⟩
  exact⟨_,M,rfl,by simp,by simp;try omega,M,n0,h0,h1,h2,rfl,rfl⟩
 generalize σ.next=N0 at hlt ⊢
 have lw0:w0<N0:=hlt _ (.head _) rfl
 have gs_W0:∀x,(W0.set r0_ x)[r0_]? =some x:=gsetW g0
 rw[← kB g0]
 refine fnK tok Tryz.func134 Tryz.ntmps134 Tryz.results134 ?_
 simp only[argsA,Nat.reduceAdd,hpN]
 unfold xH at H
 refine Sx tok [] [0] (by intro K k;simp -dsimp -implicitDefEqProofs [gs_W0];exact k) ?_
 obtain⟨r1,hr1,H⟩:=bE H
 refine Sm tok [] [0,3] (N0+5) (by
  intro K k
  simp -dsimp -implicitDefEqProofs [gs_W0]
  refine(c88 (W0:=W0.set r0_ [.fsl (eL rU8 p0.b),.int .i64 p0.p]) (r0_:=r0_) (H:=hr1) (by simp[gs_W0]) (by simp[gs_W0])).mono ?_;rintro _ _ ⟨M1,fM1_0,rfl,rfl⟩;simp only[hpN] at fM1_0
  try simp -dsimp -implicitDefEqProofs [gs_W0,hoS,hoN]
  exact k M1 (by omega)) fun M1 fM1_0=>?_
 have q0:∀σ i,bsA T 23 true i 0 [] σ=some (.esl,σ):=fun _ _=>rfl
 refine Sx tok [0] [0,3,4] (by intro K k;simp -dsimp -implicitDefEqProofs [gs_W0,q0];exact k) ?_
 refine Wsq [0,3,4] fun K1 hK1=>?_
 refine Sx tok [] [0,3,4,5] (by intro K k;simp -dsimp -implicitDefEqProofs [gs_W0];exact k) ?_
 refine Wbl (Wth ?_)
 obtain⟨e1,hse1,H⟩:=bE H
 refine zU [0,3,4,5] (fun s a σ=>∃M2 o1:Nat,N0≤M2∧N0≤o1∧o1<M2∧a=[(0,.ptr w0 r0_ 0),(3,.int .i64 (iadd .i64 1 r1.1)),(4,.sl o1 0 s.2.2.length),(5,.int .i64 s.1)]∧σ=hp E0 [(w0,some ⟨127,2,W0.set r0_ [.fsl (eL rU8 s.2.1.b),.int .i64 s.2.1.p]⟩),(o1,some ⟨36,5,eL rQuad s.2.2⟩)] M2) (fun s x a σ=>x=.exit 0∧Rc G 36 N0 (fun a σ=>∃M3 o2:Nat,N0≤M3∧N0≤o2∧o2<M3∧a=[(0,.ptr w0 r0_ 0),(3,.int .i64 (iadd .i64 1 r1.1)),(4,.sl o2 0 s.2.length)]∧σ=hp E0 [(w0,some ⟨127,2,W0.set r0_ [.fsl (eL rU8 s.1.b),.int .i64 s.1.p]⟩),(o2,some ⟨36,5,eL rQuad s.2⟩)] M3) (AAct.keep a [0,3,4]) σ) hse1 ?_ ?_ ?_
 ·refine Rc.kp [0,3,4,5] [(0,.ptr w0 r0_ 0),(3,.int .i64 (iadd .i64 1 r1.1)),(4,.esl),(5,.int .i64 0)] rfl ?_
  refine gNilS zL 4 36 5 [(w0,some ⟨127,2,W0.set r0_ [.fsl (eL rU8 r1.2.b),.int .i64 r1.2.p]⟩),(M1+3,some ⟨36,5,eL rQuad ([]:List gQuad)⟩)] [(0,.ptr w0 r0_ 0),(3,.int .i64 (iadd .i64 1 r1.1)),(4,.sl (M1+3) 0 ([]:List gQuad).length),(5,.int .i64 0)] (by simp(disch:=omega)) (by simp(disch:=omega) [eN]) [0,3,4,5] rfl ?_
  exact Rf ⟨M1+4,(M1+3),(by omega),(by omega),(by omega),rfl,rfl⟩
 ·clear H hse1
  rintro⟨s2,s3,s4⟩ fl a σ H ⟨M2,o1,fM2_0,fM2_1,fM2_2,rfl,rfl⟩ K2 O2 hK2 hO2
  unfold s_l93Random_o_L1 at H;dsimp only at H
  refine Wsq [0,3,4,5] fun K3 hK3=>?_
  refine Sx tok [] [0,3,4,5,13] (by
   intro K k
   have e0:=nQ w0 o1
   simp -dsimp -implicitDefEqProofs [e0,gs_W0]
   exact k) ?_
  refine Cd (fun C1=>?_) fun C1=>?_
  ·replace H:=ifT C1 H
   refine Wsk (Jn hK3 ?_)
   refine Wsq [0,3,4,5] fun K4 hK4=>?_
   refine Wbl (Wth ?_)
   obtain⟨r7,hr7,H⟩:=bE H
   obtain⟨l8,hl8,H⟩:=bE H
   have q1:∀σ i,bsA T 23 true i 1 [(0,.agg [.int .i64 r7.1.Op,.int .i64 r7.1.Dst,.int .i64 r7.1.A,.int .i64 r7.1.B,.int .i64 r7.1.N])] σ=some (.fsl (eL rQuad ([r7.1]:List gQuad)),σ):=fun _ _=>rfl
   refine AWP_rt tok [4] [0,3,4,5] (fun a σ=>∃M4:Nat,M2+11≤M4∧a=[(0,.ptr w0 r0_ 0),(3,.int .i64 (iadd .i64 1 r1.1)),(4,.sl (M2+9) 0 l8.length),(5,.int .i64 s2)]∧σ=hp E0 [(w0,some ⟨127,2,W0.set r0_ [.fsl (eL rU8 r7.2.b),.int .i64 r7.2.p]⟩),(M2+9,some ⟨36,5,eL rQuad l8⟩)] M4) (fun K hK=>?_) ?_
   ·skip
    have e0:=nQ w0 o1
    have e1:=nQ w0 (M2+9)
    have e2:=nQ o1 (M2+9)
    simp -dsimp -implicitDefEqProofs [e0,e1,e2,gs_W0,q1,app23 hl8]
    refine(c145 (W0:=W0.set r0_ [.fsl (eL rU8 s3.b),.int .i64 s3.p]) (r0_:=r0_) (H:=hr7) (by simp[e0,e1,e2,gs_W0,q1,app23 hl8]) (by simp[e0,e1,e2,gs_W0,q1,app23 hl8])).mono ?_;rintro _ _ ⟨M4,fM4_0,rfl,rfl⟩;simp only[hpN] at fM4_0
    try simp -dsimp -implicitDefEqProofs [e0,e1,e2,gs_W0,q1,app23 hl8,hoS,hoN]
    exact hK _ _ ⟨M4,(by omega),rfl,rfl⟩
   rintro a σ ⟨M4,fM4_0,ha,rfl⟩
   refine hK4 _ _ ?_;rw[ha]
   refine Rc.mk ?_
   refine Rt tok [] [0,3,4,5] (by
    intro K k
    have e0:=nQ w0 (M2+9)
    simp -dsimp -implicitDefEqProofs [e0,gs_W0]
    exact k) fun a ha=>?_
   obtain rfl:=oi H
   refine hK2 _ _ _ rfl ?_;rw[ha]
   exact Rf ⟨M4+3,(M2+9),(by omega),(by omega),(by omega),rfl,rfl⟩
  obtain rfl:=oi (ifF C1 H)
  refine zM (hO2 _ _ _ _ rfl ⟨rfl,?_⟩)
  refine Rc.rw (l:=[0,3,4]) (X:=[(0,.ptr w0 r0_ 0),(3,.int .i64 (iadd .i64 1 r1.1)),(4,.sl o1 0 s4.length)]) rfl ?_
  exact Rf ⟨M2+4,o1,(by omega),(by omega),(by omega),rfl,rfl⟩
 intro x a σ hx
 obtain⟨y5,y6⟩:=e1
 obtain⟨rfl,b,τ,hr,M3,o2,fM3_0,fM3_1,fM3_2,rfl,rfl⟩:=hx
 (try dsimp only at H)
 show K1 _ _
 refine hK1 _ _ (zL hr ?_)
 refine Rc.mk ?_
 refine Wsq [4] fun K5 hK5=>?_
 obtain⟨r9,hr9,H⟩:=bE H
 refine Sm tok [] [0,3,4,24] (M3+3) (by
  intro K k
  have e0:=nQ w0 o2
  simp -dsimp -implicitDefEqProofs [e0,gs_W0]
  refine(c88 (W0:=W0.set r0_ [.fsl (eL rU8 y5.b),.int .i64 y5.p]) (r0_:=r0_) (H:=hr9) (by simp[e0,gs_W0]) (by simp[e0,gs_W0])).mono ?_;rintro _ _ ⟨M5,fM5_0,rfl,rfl⟩;simp only[hpN] at fM5_0
  try simp -dsimp -implicitDefEqProofs [e0,gs_W0,hoS,hoN]
  exact k M5 (by omega)) fun M5 fM5_0=>?_
 refine Cd (fun C2=>?_) fun C2=>?_
 ·replace H:=ifT C2 H
  obtain⟨r10,hr10,H⟩:=bE H
  obtain⟨l11,hl11,H⟩:=bE H
  have q2:∀σ i,bsA T 23 true i 1 [(0,.agg [.int .i64 4,.int .i64 0,.int .i64 0,.int .i64 0,.int .i64 r10.1])] σ=some (.fsl (eL rQuad ([(⟨4,0,0,0,r10.1⟩:gQuad)]:List gQuad)),σ):=fun _ _=>rfl
  refine Sm tok [5] [2] (M5+8) (by
   intro K k
   have e0:=nQ w0 o2
   have e1:=nQ w0 (M5+6)
   have e2:=nQ o2 (M5+6)
   simp -dsimp -implicitDefEqProofs [e0,e1,e2,gs_W0,q2,app23 hl11]
   refine(c88 (W0:=W0.set r0_ [.fsl (eL rU8 r9.2.b),.int .i64 r9.2.p]) (r0_:=r0_) (H:=hr10) (by simp[e0,e1,e2,gs_W0,q2,app23 hl11]) (by simp[e0,e1,e2,gs_W0,q2,app23 hl11])).mono ?_;rintro _ _ ⟨M6,fM6_0,rfl,rfl⟩;simp only[hpN] at fM6_0
   try simp -dsimp -implicitDefEqProofs [e0,e1,e2,gs_W0,q2,app23 hl11,hoS,hoN]
   exact k M6 (by omega)) fun M6 fM6_0=>?_
  obtain rfl:=oi H
  refine Kp [2] ?_
  have z0:=nQ w0 (M5+6)
  refine Wr ?_
  refine⟨[.sl (M5+6) 0 l11.length],by simp[z0,gs_W0],M6,M5+6,by omega,by omega,by omega,?_,?_⟩
  ·simp[eN]
  first|rfl|simp
 replace H:=ifF C2 H
 refine Wsk (Jn hK5 ?_)
 obtain⟨l12,hl12,H⟩:=bE H
 have q3:∀σ i,bsA T 23 true i 1 [(0,.agg [.int .i64 10,.int .i64 0,.int .i64 0,.int .i64 0,.int .i64 0])] σ=some (.fsl (eL rQuad ([(⟨10,0,0,0,0⟩:gQuad)]:List gQuad)),σ):=fun _ _=>rfl
 refine Sx tok [2] [2] (by
  intro K k
  have e0:=nQ w0 o2
  have e1:=nQ w0 (M5+3)
  have e2:=nQ o2 (M5+3)
  simp -dsimp -implicitDefEqProofs [e0,e1,e2,gs_W0,q3,app23 hl12]
  exact k) ?_
 obtain rfl:=oi H
 refine Kp [2] ?_
 have z1:=nQ w0 (M5+3)
 refine Wr ?_
 refine⟨[.sl (M5+3) 0 l12.length],by simp[z1,gs_W0],M5+5,M5+3,by omega,by omega,by omega,?_,?_⟩
 ·simp[eN]
 first|rfl|simp

theorem c167_o {p0:(List gQuad)}{r:(List gQuad)×Bool}(H:s_SqueezeCode_o p0=some r){σ:AHeap}:ACalls Tryz.prog G 167 [.fsl (eL rQuad p0)] σ (fun v σ'=>∃M n0:Nat,σ.next≤M∧σ.next≤n0∧n0<M∧v=.tup [.sl n0 0 r.1.length,.bool r.2]∧σ'=hp σ.objs [(n0,some ⟨36,5,eL rQuad r.1⟩)] M):=by
 refine zP (L:=[]) (Q1:=fun v σ'=>∃M n0:Nat,σ.next≤M∧σ.next≤n0∧n0<M∧v=.tup [.sl n0 0 r.1.length,.bool r.2]∧σ'=hp E0 [(n0,some ⟨36,5,eL rQuad r.1⟩)] M) (by simp) (fun hlt=>?_) ?_ ⟨_,Tryz.func167,rfl,rfl⟩
 rotate_left
 ·rintro v σ1 ⟨M,n0,h0,h1,h2,rfl,rfl⟩
  exact⟨_,M,rfl,by simp,by simp;try omega,M,n0,h0,h1,h2,rfl,rfl⟩
 generalize σ.next=N0 at hlt ⊢
 refine fnK tok Tryz.func167 Tryz.ntmps167 Tryz.results167 ?_
 simp only[argsA,Nat.reduceAdd,hpN]
 unfold s_SqueezeCode_o at H
 refine S0 tok [] [0] ?_
 have q0:∀σ i,bsA T 23 true i 0 [] σ=some (.esl,σ):=fun _ _=>rfl
 refine Sx tok [0] [0,4] (by intro K k;simp -dsimp -implicitDefEqProofs [q0];exact k) ?_
 refine Wsq [0,4] fun K1 hK1=>?_
 obtain⟨r1,hr1,H⟩:=bE H
 refine Sx tok [] [0,4,12] (by intro K k;(repeat first|simp -dsimp -implicitDefEqProofs|refine(c117 hr1).app ?_);exact k) ?_
 refine Cd (fun C1=>?_) fun C1=>?_
 ·replace H:=ifT C1 H
  refine S0 tok [] [2,3] ?_
  obtain rfl:=oi H
  refine Kp [2,3] ?_
  refine gNilS Wre 2 36 5 [(N0+10,some ⟨36,5,eL rQuad ([]:List gQuad)⟩)] [(2,.sl (N0+10) 0 ([]:List gQuad).length),(3,.bool false)] (by simp(disch:=omega)) (by simp(disch:=omega) [eN]) [2,3] rfl ?_
  refine Wr ?_
  refine⟨[.sl (N0+10) 0 ([]:List gQuad).length,.bool false],by simp,N0+11,N0+10,by omega,by omega,by omega,?_,?_⟩
  ·simp[eN]
  first|rfl|simp
 replace H:=ifF C1 H
 refine Wsk (Jn hK1 ?_)
 obtain⟨r2,hr2,H⟩:=bE H
 refine kX tok [] [0,4,5] (fun a σ=>∃M1 o1:Nat,N0+10≤M1∧N0+10≤o1∧o1<M1∧a=[(0,.fsl (eL rQuad p0)),(4,.esl),(5,.sl o1 0 r2.length)]∧σ=hp E0 [(o1,some ⟨4,1,eL rB r2⟩)] M1) (fun K hK=>?_) ?_
 ·skip
  simp -dsimp -implicitDefEqProofs
  refine(c186_o (H:=hr2)).mono ?_;rintro _ _ ⟨M1,o1,fM1_0,fM1_1,fM1_2,rfl,rfl⟩;simp only[hpN] at fM1_0 fM1_1 fM1_2
  try simp -dsimp -implicitDefEqProofs [hoS,hoN]
  exact hK _ _ ⟨M1,o1,(by omega),(by omega),(by omega),rfl,rfl⟩
 rintro a σ ⟨M1,o1,fM1_0,fM1_1,fM1_2,rfl,rfl⟩
 refine Wsq [0,4,5] fun K2 hK2=>?_
 refine S0 tok [] [0,4,5,6] ?_
 refine Wbl (Wth ?_)
 obtain⟨e1,hse1,H⟩:=bE H
 refine zU [0,4,5,6] (fun s a σ=>∃M2 o2:Nat,N0≤M2∧N0≤o2∧o2<M2∧a=[(0,.fsl (eL rQuad p0)),(4,.esl),(5,.sl o2 0 s.2.length),(6,.int .i64 s.1)]∧σ=hp E0 [(o2,some ⟨4,1,eL rB s.2⟩)] M2) (fun s x a σ=>x=.exit 0∧Rc G 71 N0 (fun a σ=>∃M3 o3:Nat,N0≤M3∧N0≤o3∧o3<M3∧a=[(0,.fsl (eL rQuad p0)),(4,.esl),(5,.sl o3 0 s.length)]∧σ=hp E0 [(o3,some ⟨4,1,eL rB s⟩)] M3) (AAct.keep a [0,4,5]) σ) hse1 ?_ ?_ ?_
 ·refine Rc.kp [0,4,5,6] [(0,.fsl (eL rQuad p0)),(4,.esl),(5,.sl o1 0 r2.length),(6,.int .i64 0)] rfl ?_
  exact Rf ⟨M1+1,o1,(by omega),(by omega),(by omega),rfl,rfl⟩
 ·clear H hse1
  rintro⟨s3,s4⟩ fl a σ H ⟨M2,o2,fM2_0,fM2_1,fM2_2,rfl,rfl⟩ K3 O3 hK3 hO3
  unfold s_SqueezeCode_o_L1 at H;dsimp only at H
  refine Wsq [0,4,5,6] fun K4 hK4=>?_
  refine S0 tok [] [0,4,5,6,19] ?_
  refine Cd (fun C2=>?_) fun C2=>?_
  ·replace H:=ifT C2 H
   refine Wsk (Jn hK4 ?_)
   refine Wsq [0,4,5,6] fun K5 hK5=>?_
   refine Wbl (Wth ?_)
   obtain⟨v6,hv6,H⟩:=bE H
   obtain⟨g9,hg9,H⟩:=bE H
   obtain⟨l10,hl10,H⟩:=bE H
   refine AWP_rt tok [] [0,4,5,6] (fun a σ=>a=[(0,.fsl (eL rQuad p0)),(4,.esl),(5,.sl o2 0 s4.length),(6,.int .i64 s3)]∧σ=hp E0 [(o2,some ⟨4,1,eL rB l10⟩)] (M2+21)) (fun K hK=>?_) ?_
   ·skip
    simp -dsimp -implicitDefEqProofs [ixo66 hv6,(zE hv6).2.2,(setx_iff.1 hl10).2.symm]
    cases hbg9:v6
    ·obtain rfl:=oi (ifF hbg9 hg9)
     try simp -dsimp -implicitDefEqProofs [ixo66 hv6,(zE hv6).2.2,(setx_iff.1 hl10).2.symm,hbg9]
     exact hK _ _ ⟨rfl,rfl⟩
    replace hg9:=ifT hbg9 hg9
    obtain⟨v7,hv7,hg9⟩:=bE hg9
    obtain⟨r8,hr8,hg9⟩:=bE hg9
    obtain rfl:=oi hg9
    try simp -dsimp -implicitDefEqProofs [ixo66 hv6,(zE hv6).2.2,(setx_iff.1 hl10).2.symm,hbg9,ix23 hv7]
    refine(c187 hr8).app ?_;try simp -dsimp -implicitDefEqProofs [ixo66 hv6,(zE hv6).2.2,(setx_iff.1 hl10).2.symm,hbg9,ix23 hv7]
    exact hK _ _ ⟨rfl,rfl⟩
   rintro a σ ⟨ha,rfl⟩
   (try rw[← zD hl10] at ha);(try rw[← zD hl10])
   refine hK5 _ _ ?_;rw[ha]
   refine Rc.mk ?_
   refine Rt0 tok [] [0,4,5,6] fun a ha=>?_
   obtain rfl:=oi H
   refine hK3 _ _ _ rfl ?_;rw[ha]
   exact Rf ⟨M2+24,o2,(by omega),(by omega),(by omega),rfl,rfl⟩
  obtain rfl:=oi (ifF C2 H)
  refine zM (hO3 _ _ _ _ rfl ⟨rfl,?_⟩)
  refine Rc.rw (l:=[0,4,5]) (X:=[(0,.fsl (eL rQuad p0)),(4,.esl),(5,.sl o2 0 s4.length)]) rfl ?_
  exact Rf ⟨M2+4,o2,(by omega),(by omega),(by omega),rfl,rfl⟩
 intro x a σ hx
 obtain⟨y5,rfl⟩:∃x,x=e1:=⟨_,rfl⟩
 obtain⟨rfl,b,τ,hr,M3,o3,fM3_0,fM3_1,fM3_2,rfl,rfl⟩:=hx
 (try dsimp only at H)
 show K2 _ _
 refine hK2 _ _ (zL hr ?_)
 refine Rc.mk ?_
 refine Wsq [4] fun K6 hK6=>?_
 refine S0 tok [] [0,4,5,7] ?_
 refine Wbl (Wth ?_)
 obtain⟨e3,hse3,H⟩:=bE H
 refine zU [0,4,5,7] (fun s a σ=>∃M4 o4 o5:Nat,N0≤M4∧N0≤o4∧o4<M4∧N0≤o5∧o5<M4∧¬o4=o5∧a=[(0,.fsl (eL rQuad p0)),(4,.sl o5 0 s.2.2.length),(5,.sl o4 0 s.2.1.length),(7,.int .i64 s.1)]∧σ=hp E0 [(o4,some ⟨4,1,eL rB s.2.1⟩),(o5,some ⟨36,5,eL rQuad s.2.2⟩)] M4) (fun s x a σ=>x=.exit 2∧Rc G 71 N0 (fun a σ=>∃M5 o6:Nat,N0≤M5∧N0≤o6∧o6<M5∧a=[(4,.sl o6 0 s.length)]∧σ=hp E0 [(o6,some ⟨36,5,eL rQuad s⟩)] M5) (AAct.keep a [4]) σ) hse3 ?_ ?_ ?_
 ·refine Rc.kp [0,4,5,7] [(0,.fsl (eL rQuad p0)),(4,.esl),(5,.sl o3 0 y5.length),(7,.int .i64 0)] rfl ?_
  refine gNilS zL 4 36 5 [(o3,some ⟨4,1,eL rB y5⟩),(M3+1,some ⟨36,5,eL rQuad ([]:List gQuad)⟩)] [(0,.fsl (eL rQuad p0)),(4,.sl (M3+1) 0 ([]:List gQuad).length),(5,.sl o3 0 y5.length),(7,.int .i64 0)] (by simp(disch:=omega)) (by simp(disch:=omega) [eN]) [0,4,5,7] rfl ?_
  exact Rf ⟨M3+2,o3,(M3+1),(by omega),(by omega),(by omega),(by omega),(by omega),(by omega),rfl,rfl⟩
 ·clear H hse3
  rintro⟨s11,s12,s13⟩ fl a σ H ⟨M4,o4,o5,fM4_0,fM4_1,fM4_2,fM4_3,fM4_4,fM4_5,rfl,rfl⟩ K7 O7 hK7 hO7
  unfold s_SqueezeCode_o_L2 at H;dsimp only at H
  refine Wsq [0,4,5,7] fun K8 hK8=>?_
  refine Sx tok [] [0,4,5,7,41] (by
   intro K k
   have e0:=nQ o4 o5
   simp -dsimp -implicitDefEqProofs [e0]
   exact k) ?_
  refine Cd (fun C3=>?_) fun C3=>?_
  ·replace H:=ifT C3 H
   refine Wsk (Jn hK8 ?_)
   refine Wsq [0,4,5,7] fun K9 hK9=>?_
   refine Wbl (Wth ?_)
   obtain⟨v15,hv15,H⟩:=bE H
   refine Sx tok [] [0,4,5,7,8] (by
    intro K k
    have e0:=nQ o4 o5
    have e1:=nQ o4 (M4+8)
    have e2:=nQ o5 (M4+8)
    simp -dsimp -implicitDefEqProofs [e0,e1,e2,ix23 hv15]
    exact k) ?_
   refine Wsq [0,4,5,7,8] fun K10 hK10=>?_
   obtain⟨v16,hv16,H⟩:=bE H
   refine Sx tok [] [0,4,5,7,8,52] (by
    intro K k
    have e0:=nQ o4 o5
    have e1:=nQ o4 (M4+8)
    have e2:=nQ o5 (M4+8)
    simp -dsimp -implicitDefEqProofs [e0,e1,e2,ixo66 hv16,(zE hv16).2.2]
    exact k) ?_
   refine Cd (fun C4=>?_) fun C4=>?_
   ·replace H:=ifT C4 H
    refine zM ?_
    show K9 _ _
    refine kE [0,4,5,7] fun a' ha=>?_
    refine hK9 _ _ ?_;rw[ha]
    refine Rc.mk ?_
    refine Rt tok [] [0,4,5,7] (by
     intro K k
     have e0:=nQ o4 o5
     have e1:=nQ o4 (M4+8)
     have e2:=nQ o5 (M4+8)
     simp -dsimp -implicitDefEqProofs [e0,e1,e2]
     exact k) fun a ha=>?_
    obtain rfl:=oi H
    refine hK7 _ _ _ rfl ?_;rw[ha]
    exact Rc.fin (zK (zK (AHeap.Sub.trans (AHeap.Sub.refl _) (zR rfl (by simp;try omega))))) ⟨M4+18,o4,o5,(by omega),(by omega),(by omega),(by omega),(by omega),(by omega),rfl,rfl⟩
   replace H:=ifF C4 H
   refine Wsk (Jn hK10 ?_)
   obtain⟨j2,hj2,H⟩:=bE H
   refine kL (kI fun K11 hK11=>?_)
   have hJ1:∀a σ,Rc G 71 N0 (fun a σ=>∃M6:Nat,N0≤M6∧o4<M6∧o5<M6∧M4+8<M6∧a=[(0,.fsl (eL rQuad p0)),(4,.sl o5 0 s13.length),(5,.sl o4 0 s12.length),(7,.int .i64 s11),(8,.ptr (M4+8) 0 0)]∧σ=hp E0 [(o4,some ⟨4,1,eL rB s12⟩),(o5,some ⟨36,5,eL rQuad s13⟩),(M4+8,some ⟨36,5,[[.int .i64 j2.Op,.int .i64 j2.Dst,.int .i64 j2.A,.int .i64 j2.B,.int .i64 j2.N]]⟩)] M6) (a.keep [0,4,5,7,8]) σ→K11 a σ:=by
    rintro a σ ⟨b,τ,hr,M6,fM6_0,fM6_1,fM6_2,fM6_3,rfl,rfl⟩
    refine hK11 _ _ (kA [0,4,5,7,8] (Wre hr ?_))
    obtain⟨l18,hl18,H⟩:=bE H
    have q1:∀σ i,bsA T 23 true i 1 [(0,.agg [.int .i64 j2.Op,.int .i64 j2.Dst,.int .i64 j2.A,.int .i64 j2.B,.int .i64 j2.N])] σ=some (.fsl (eL rQuad ([j2]:List gQuad)),σ):=fun _ _=>rfl
    refine Rt tok [2] [0,4,5,7] (by
     intro K k
     have e0:=nQ o4 o5
     have e1:=nQ o4 (M4+8)
     have e2:=nQ o4 (M6+3)
     have e3:=nQ o5 (M4+8)
     have e4:=nQ o5 (M6+3)
     have e5:=nQ (M4+8) (M6+3)
     have e6:=nQ (M4+5) M6
     simp -dsimp -implicitDefEqProofs [e0,e1,e2,e3,e4,e5,e6,q1,app23 hl18]
     exact k) fun a ha=>?_
    refine hK9 _ _ ?_;rw[ha]
    refine Rc.mk ?_
    refine Rt tok [] [0,4,5,7] (by
     intro K k
     have e0:=nQ o4 (M4+8)
     have e1:=nQ o4 (M6+3)
     have e2:=nQ (M4+8) (M6+3)
     have e3:=nQ (M4+5) M6
     simp -dsimp -implicitDefEqProofs [e0,e1,e2,e3]
     exact k) fun a ha=>?_
    obtain rfl:=oi H
    refine hK7 _ _ _ rfl ?_;rw[ha]
    exact Rc.fin (zK (AHeap.Sub.trans (zK (AHeap.Sub.refl _)) (zR rfl (by simp;try omega)))) ⟨M6+8,o4,(M6+3),(by omega),(by omega),(by omega),(by omega),(by omega),(by omega),rfl,rfl⟩
   replace H:=hj2
   obtain⟨g19,hg19,H⟩:=bE H
   refine Sx tok [] [0,4,5,7,8,60] (X:=[(0,.fsl (eL rQuad p0)),(4,.sl o5 0 s13.length),(5,.sl o4 0 s12.length),(7,.int .i64 s11),(8,.ptr (M4+8) 0 0),(60,.bool g19)]) (Y:=hp E0 [(o4,some ⟨4,1,eL rB s12⟩),(o5,some ⟨36,5,eL rQuad s13⟩),(M4+8,some ⟨36,5,[[.int .i64 v15.Op,.int .i64 v15.Dst,.int .i64 v15.A,.int .i64 v15.B,.int .i64 v15.N]]⟩)] (M4+23)) (by
    intro K k
    have e0:=nQ o4 o5
    have e1:=nQ o4 (M4+8)
    have e2:=nQ o5 (M4+8)
    simp -dsimp -implicitDefEqProofs [e0,e1,e2]
    cases hbg19:ieq v15.Op 4
    ·obtain rfl:=oi (ifF hbg19 hg19)
     try simp -dsimp -implicitDefEqProofs [e0,e1,e2,hbg19]
     exact k
    obtain rfl:=oi (ifT hbg19 hg19)
    try simp -dsimp -implicitDefEqProofs [e0,e1,e2,hbg19]
    exact k) ?_
   refine Cd (fun C5=>?_) fun C5=>?_
   ·replace H:=ifT C5 H
    obtain⟨r20,hr20,H⟩:=bE H
    refine AWP_rt tok [] [0,4,5,7,8] (fun a σ=>a=[(0,.fsl (eL rQuad p0)),(4,.sl o5 0 s13.length),(5,.sl o4 0 s12.length),(7,.int .i64 s11),(8,.ptr (M4+8) 0 0)]∧σ=hp E0 [(o4,some ⟨4,1,eL rB s12⟩),(o5,some ⟨36,5,eL rQuad s13⟩),(M4+8,some ⟨36,5,[[.int .i64 v15.Op,.int .i64 v15.Dst,.int .i64 v15.A,.int .i64 v15.B,.int .i64 r20]]⟩)] (M4+29)) (fun K hK=>?_) ?_
    ·skip
     have e0:=nQ o4 o5
     have e1:=nQ o4 (M4+8)
     have e2:=nQ o5 (M4+8)
     simp -dsimp -implicitDefEqProofs [e0,e1,e2]
     refine(borrow 8 (c188 hr20) (by simp[e0,e1,e2]) rfl).mono ?_;rintro _ _ ⟨rfl,rfl⟩;try simp -dsimp -implicitDefEqProofs [e0,e1,e2]
     exact hK _ _ ⟨rfl,rfl⟩
    rintro a σ ⟨ha,rfl⟩
    obtain rfl:=oi H
    refine hJ1 _ _ ?_;rw[ha]
    exact Rf ⟨M4+29,(by omega),(by omega),(by omega),(by omega),rfl,rfl⟩
   replace H:=ifF C5 H
   refine Wsk ?_
   show K11 _ _
   refine kE [0,4,5,7,8] fun a' ha=>?_
   obtain rfl:=oi H
   refine hJ1 _ _ ?_;rw[ha]
   exact Rf ⟨M4+23,(by omega),(by omega),(by omega),(by omega),rfl,rfl⟩
  obtain rfl:=oi (ifF C3 H)
  refine zM (hO7 _ _ _ _ rfl ⟨rfl,?_⟩)
  refine Rc.rw (l:=[4]) (X:=[(4,.sl o5 0 s13.length)]) rfl ?_
  exact Rc.fin (AHeap.Sub.trans (zK (AHeap.Sub.refl _)) (zR rfl (by simp;try omega))) ⟨M4+4,o5,(by omega),(by omega),(by omega),rfl,rfl⟩
 intro x a σ hx
 obtain⟨y14,rfl⟩:∃x,x=e3:=⟨_,rfl⟩
 obtain⟨rfl,b,τ,hr,M5,o6,fM5_0,fM5_1,fM5_2,rfl,rfl⟩:=hx
 (try dsimp only at H)
 show K6 _ _
 refine hK6 _ _ (zL hr ?_)
 refine Rc.mk ?_
 refine S0 tok [] [2,3] ?_
 obtain rfl:=oi H
 refine Kp [2,3] ?_
 refine Wr ?_
 refine⟨[.sl o6 0 y14.length,.bool true],by simp,M5+3,o6,by omega,by omega,by omega,?_,?_⟩
 ·simp[eN]
 first|rfl|simp

theorem c150_o {p0:(List gQuad)}{r:(List gQuad)}(H:s_l37Once_o p0=some r){σ:AHeap}:ACalls Tryz.prog G 150 [.fsl (eL rQuad p0)] σ (fun v σ'=>∃M n0:Nat,σ.next≤M∧σ.next≤n0∧n0<M∧v=.sl n0 0 r.length∧σ'=hp σ.objs [(n0,some ⟨36,5,eL rQuad r⟩)] M):=by
 refine zP (L:=[]) (Q1:=fun v σ'=>∃M n0:Nat,σ.next≤M∧σ.next≤n0∧n0<M∧v=.sl n0 0 r.length∧σ'=hp E0 [(n0,some ⟨36,5,eL rQuad r⟩)] M) (by simp) (fun hlt=>?_) ?_ ⟨_,Tryz.func150,rfl,rfl⟩
 rotate_left
 ·rintro v σ1 ⟨M,n0,h0,h1,h2,rfl,rfl⟩
  exact⟨_,M,rfl,by simp,by simp;try omega,M,n0,h0,h1,h2,rfl,rfl⟩
 generalize σ.next=N0 at hlt ⊢
 refine fnK tok Tryz.func150 Tryz.ntmps150 Tryz.results150 ?_
 simp only[argsA,Nat.reduceAdd,hpN]
 unfold s_l37Once_o at H
 refine S0 tok [] [0] ?_
 obtain⟨r1,hr1,H⟩:=bE H
 refine Sx tok [] [3] (by intro K k;(repeat first|simp -dsimp -implicitDefEqProofs|refine(c163 hr1).app ?_);exact k) ?_
 obtain⟨r2,hr2,H⟩:=bE H
 refine Sx tok [] [5] (by intro K k;(repeat first|simp -dsimp -implicitDefEqProofs|refine(c164 hr2).app ?_);exact k) ?_
 obtain⟨r3,hr3,H⟩:=bE H
 refine Sx tok [] [7] (by intro K k;(repeat first|simp -dsimp -implicitDefEqProofs|refine(c165 hr3).app ?_);exact k) ?_
 obtain⟨r4,hr4,H⟩:=bE H
 refine Sx tok [] [9] (by intro K k;(repeat first|simp -dsimp -implicitDefEqProofs|refine(c166 hr4).app ?_);exact k) ?_
 obtain⟨r5,hr5,H⟩:=bE H
 refine kX tok [] [11] (fun a σ=>∃M1 o1:Nat,N0+36≤M1∧N0+36≤o1∧o1<M1∧a=[(11,.sl o1 0 r5.1.length)]∧σ=hp E0 [(o1,some ⟨36,5,eL rQuad r5.1⟩)] M1) (fun K hK=>?_) ?_
 ·skip
  simp -dsimp -implicitDefEqProofs
  refine(c167_o (H:=hr5)).mono ?_;rintro _ _ ⟨M1,o1,fM1_0,fM1_1,fM1_2,rfl,rfl⟩;simp only[hpN] at fM1_0 fM1_1 fM1_2
  try simp -dsimp -implicitDefEqProofs [hoS,hoN]
  exact hK _ _ ⟨M1,o1,(by omega),(by omega),(by omega),rfl,rfl⟩
 rintro a σ ⟨M1,o1,fM1_0,fM1_1,fM1_2,rfl,rfl⟩
 refine S0 tok [] [2] ?_
 obtain rfl:=oi H
 refine Kp [2] ?_
 refine Wr ?_
 refine⟨[.sl o1 0 r5.1.length],by simp,M1+2,o1,by omega,by omega,by omega,?_,?_⟩
 ·simp[eN]
 first|rfl|simp

theorem c150_o_b {p0:(List gQuad)}{r:(List gQuad)}(H:s_l37Once_o p0=some r){σ:AHeap}{args:List AV}(hy:args.map (thawA (fun _=>true) σ 8)=[.fsl (eL rQuad p0)]):ACalls Tryz.prog G 150 args σ (fun v σ'=>∃M n0:Nat,σ.next≤M∧σ.next≤n0∧n0<M∧v=.sl n0 0 r.length∧σ'=hp σ.objs [(n0,some ⟨36,5,eL rQuad r⟩)] M):=by
 refine borrowQ 8 8 (c150_o (σ:=⟨E0,σ.next⟩) H) hy ?_
 rintro _ _ ⟨M,n0,h0,h1,h2,rfl,rfl⟩
 refine⟨_,M,rfl,by simp[AV.rnf,AV.simp1],fun p hp ob ho=>?_,by simp,M,n0,h0,h1,h2,rfl,rfl⟩
 simp only[List.mem_cons,List.not_mem_nil,or_false] at hp
 rcases hp with rfl<;>(cases ho;first|exact encL_nf (fun x=>nf_rQuad 7 x) _|simp[AV.nf,AV.simp1])

theorem c137_o {p0:(List gQuad)}{p1:Int}{r:(List gQuad)×Bool}(H:yS p0 p1=some r){σ:AHeap}:ACalls Tryz.prog G 137 [.fsl (eL rQuad p0),.int .i64 p1] σ (fun v σ'=>∃M n0:Nat,σ.next≤M∧σ.next≤n0∧n0<M∧v=.tup [.sl n0 0 r.1.length,.bool r.2]∧σ'=hp σ.objs [(n0,some ⟨36,5,eL rQuad r.1⟩)] M):=by
 refine zP (L:=[]) (Q1:=fun v σ'=>∃M n0:Nat,σ.next≤M∧σ.next≤n0∧n0<M∧v=.tup [.sl n0 0 r.1.length,.bool r.2]∧σ'=hp E0 [(n0,some ⟨36,5,eL rQuad r.1⟩)] M) (by simp) (fun hlt=>?_) ?_ ⟨_,Tryz.func137,rfl,rfl⟩
 rotate_left
 ·rintro v σ1 ⟨M,n0,h0,h1,h2,rfl,rfl⟩
  exact⟨_,M,rfl,by simp,by simp;try omega,M,n0,h0,h1,h2,rfl,rfl⟩
 generalize σ.next=N0 at hlt ⊢
 refine fnK tok Tryz.func137 Tryz.ntmps137 Tryz.results137 ?_
 simp only[argsA,Nat.reduceAdd,hpN]
 unfold yS at H
 refine S0 tok [] [0,1] ?_
 refine Wsq [0,1] fun K1 hK1=>?_
 obtain⟨r1,hr1,H⟩:=bE H
 obtain⟨g3,hg3,H⟩:=bE H
 refine Sx tok [] [0,1,15] (X:=[(0,.fsl (eL rQuad p0)),(1,.int .i64 p1),(15,.bool g3)]) (Y:=hp E0 [] (N0+10)) (by
  intro K k
  simp -dsimp -implicitDefEqProofs
  refine(c117 hr1).app ?_;try simp -dsimp -implicitDefEqProofs
  cases hbg3:bnot r1
  ·replace hg3:=ifF hbg3 hg3
   obtain⟨r2,hr2,hg3⟩:=bE hg3
   obtain rfl:=oi hg3
   try simp -dsimp -implicitDefEqProofs [hbg3]
   refine(c100 hr2).app ?_;try simp -dsimp -implicitDefEqProofs [hbg3]
   exact k
  obtain rfl:=oi (ifT hbg3 hg3)
  try simp -dsimp -implicitDefEqProofs [hbg3]
  exact k) ?_
 refine Cd (fun C1=>?_) fun C1=>?_
 ·replace H:=ifT C1 H
  have q0:∀σ i,bsA T 23 true i 0 [] σ=some (.esl,σ):=fun _ _=>rfl
  refine Sx tok [0] [4,5] (by intro K k;simp -dsimp -implicitDefEqProofs [q0];exact k) ?_
  obtain rfl:=oi H
  refine Kp [4,5] ?_
  refine gNilS Wre 4 36 5 [(N0+13,some ⟨36,5,eL rQuad ([]:List gQuad)⟩)] [(4,.sl (N0+13) 0 ([]:List gQuad).length),(5,.bool false)] (by simp(disch:=omega)) (by simp(disch:=omega) [eN]) [4,5] rfl ?_
  refine Wr ?_
  refine⟨[.sl (N0+13) 0 ([]:List gQuad).length,.bool false],by simp,N0+14,N0+13,by omega,by omega,by omega,?_,?_⟩
  ·simp[eN]
  first|rfl|simp
 replace H:=ifF C1 H
 refine Wsk (Jn hK1 ?_)
 obtain⟨l4,hl4,H⟩:=bE H
 have q1:∀σ i,bsA T 23 true i 0 [] σ=some (.esl,σ):=fun _ _=>rfl
 refine Sx tok [0] [1,6] (by intro K k;simp -dsimp -implicitDefEqProofs [q1,appe23 hl4];exact k) ?_
 refine Wsq [6] fun K2 hK2=>?_
 refine S0 tok [] [1,6,7] ?_
 refine Wbl (Wth ?_)
 obtain⟨e1,hse1,H⟩:=bE H
 refine zU [1,6,7] (fun s a σ=>∃M1 o1:Nat,N0≤M1∧N0≤o1∧o1<M1∧a=[(1,.int .i64 p1),(6,.sl o1 0 s.2.length),(7,.int .i64 s.1)]∧σ=hp E0 [(o1,some ⟨36,5,eL rQuad s.2⟩)] M1) (fun s x a σ=>x=.exit 0∧Rc G 28 N0 (fun a σ=>∃M2 o2:Nat,N0≤M2∧N0≤o2∧o2<M2∧a=[(6,.sl o2 0 s.length)]∧σ=hp E0 [(o2,some ⟨36,5,eL rQuad s⟩)] M2) (AAct.keep a [6]) σ) hse1 ?_ ?_ ?_
 ·refine Rc.kp [1,6,7] [(1,.int .i64 p1),(6,.sl (N0+12) 0 l4.length),(7,.int .i64 0)] rfl ?_
  exact Rf ⟨N0+15,(N0+12),(by omega),(by omega),(by omega),rfl,rfl⟩
 ·clear H hse1
  rintro⟨s5,s6⟩ fl a σ H ⟨M1,o1,fM1_0,fM1_1,fM1_2,rfl,rfl⟩ K3 O3 hK3 hO3
  unfold jX at H;dsimp only at H
  refine Wsq [1,6,7] fun K4 hK4=>?_
  refine S0 tok [] [1,6,7,22] ?_
  refine Cd (fun C2=>?_) fun C2=>?_
  ·replace H:=ifT C2 H
   refine Wsk (Jn hK4 ?_)
   refine Wsq [1,6,7] fun K5 hK5=>?_
   refine Wbl (Wth ?_)
   obtain⟨r8,hr8,H⟩:=bE H
   refine AWP_rt tok [] [1,6,7] (fun a σ=>∃M3 o3:Nat,M1+6≤M3∧M1+6≤o3∧o3<M3∧a=[(1,.int .i64 p1),(6,.sl o3 0 r8.length),(7,.int .i64 s5)]∧σ=hp E0 [(o1,some ⟨36,5,eL rQuad s6⟩),(o3,some ⟨36,5,eL rQuad r8⟩)] M3) (fun K hK=>?_) ?_
   ·skip
    simp -dsimp -implicitDefEqProofs
    refine(c150_o_b (H:=hr8) (by simp)).mono ?_;rintro _ _ ⟨M3,o3,fM3_0,fM3_1,fM3_2,rfl,rfl⟩;simp only[hpN] at fM3_0 fM3_1 fM3_2
    have eM3_0:=nQ o3 o1
    try simp -dsimp -implicitDefEqProofs [eM3_0,hoS,hoN]
    exact hK _ _ ⟨M3,o3,(by omega),(by omega),(by omega),rfl,rfl⟩
   rintro a σ ⟨M3,o3,fM3_0,fM3_1,fM3_2,ha,rfl⟩
   refine hK5 _ _ ?_;rw[ha]
   refine Rc.mk ?_
   refine Rt tok [] [1,6,7] (by
    intro K k
    have e0:=nQ o1 o3
    simp -dsimp -implicitDefEqProofs [e0]
    exact k) fun a ha=>?_
   obtain rfl:=oi H
   refine hK3 _ _ _ rfl ?_;rw[ha]
   exact Rc.fin (AHeap.Sub.trans (zK (AHeap.Sub.refl _)) (zR rfl (by simp;try omega))) ⟨M3+3,o3,(by omega),(by omega),(by omega),rfl,rfl⟩
  obtain rfl:=oi (ifF C2 H)
  refine zM (hO3 _ _ _ _ rfl ⟨rfl,?_⟩)
  refine Rc.rw (l:=[6]) (X:=[(6,.sl o1 0 s6.length)]) rfl ?_
  exact Rf ⟨M1+3,o1,(by omega),(by omega),(by omega),rfl,rfl⟩
 intro x a σ hx
 obtain⟨y7,rfl⟩:∃x,x=e1:=⟨_,rfl⟩
 obtain⟨rfl,b,τ,hr,M2,o2,fM2_0,fM2_1,fM2_2,rfl,rfl⟩:=hx
 (try dsimp only at H)
 show K2 _ _
 refine hK2 _ _ (zL hr ?_)
 refine Rc.mk ?_
 refine S0 tok [] [4,5] ?_
 obtain rfl:=oi H
 refine Kp [4,5] ?_
 refine Wr ?_
 refine⟨[.sl o2 0 y7.length,.bool true],by simp,M2+3,o2,by omega,by omega,by omega,?_,?_⟩
 ·simp[eN]
 first|rfl|simp

theorem c113_o {p0:gL6Rd}{r:(List gQuad)×gL6Rd}(H:s_l93Good_o p0=some r){σ:AHeap}{w0:Nat}{W0:List (List AV)}{r0_:Nat}(q0:σ.objs w0=some ⟨127,2,W0⟩)(g0:W0[r0_]? =some [.fsl (eL rU8 p0.b),.int .i64 p0.p]):ACalls Tryz.prog G 113 [.ptr w0 r0_ 0] σ (fun v σ'=>∃M n0:Nat,σ.next≤M∧σ.next≤n0∧n0<M∧v=.sl n0 0 r.1.length∧σ'=hp σ.objs [(w0,some ⟨127,2,W0.set r0_ [.fsl (eL rU8 r.2.b),.int .i64 r.2.p]⟩),(n0,some ⟨36,5,eL rQuad r.1⟩)] M):=by
 refine zP (L:=[(w0,some ⟨127,2,W0⟩)]) (Q1:=fun v σ'=>∃M n0:Nat,σ.next≤M∧σ.next≤n0∧n0<M∧v=.sl n0 0 r.1.length∧σ'=hp E0 [(w0,some ⟨127,2,W0.set r0_ [.fsl (eL rU8 r.2.b),.int .i64 r.2.p]⟩),(n0,some ⟨36,5,eL rQuad r.1⟩)] M) (by simp[q0]) (fun hlt=>?_) ?_ ⟨_,Tryz.func113,rfl,rfl⟩
 rotate_left
 ·rintro v σ1 ⟨M,n0,h0,h1,h2,rfl,rfl⟩
  exact⟨_,M,rfl,by simp,by simp;try omega,M,n0,h0,h1,h2,rfl,rfl⟩
 generalize σ.next=N0 at hlt ⊢
 have lw0:w0<N0:=hlt _ (.head _) rfl
 have gs_W0:∀x,(W0.set r0_ x)[r0_]? =some x:=gsetW g0
 rw[← kB g0]
 refine fnK tok Tryz.func113 Tryz.ntmps113 Tryz.results113 ?_
 simp only[argsA,Nat.reduceAdd,hpN]
 unfold s_l93Good_o at H
 refine Sx tok [] [0] (by intro K k;simp -dsimp -implicitDefEqProofs [gs_W0];exact k) ?_
 refine Wsq [0] fun K1 hK1=>?_
 obtain⟨r1,hr1,H⟩:=bE H
 refine Sm tok [] [0,9] (N0+4) (by
  intro K k
  simp -dsimp -implicitDefEqProofs [gs_W0]
  refine(c88 (W0:=W0.set r0_ [.fsl (eL rU8 p0.b),.int .i64 p0.p]) (r0_:=r0_) (H:=hr1) (by simp[gs_W0]) (by simp[gs_W0])).mono ?_;rintro _ _ ⟨M1,fM1_0,rfl,rfl⟩;simp only[hpN] at fM1_0
  try simp -dsimp -implicitDefEqProofs [gs_W0,hoS,hoN]
  exact k M1 (by omega)) fun M1 fM1_0=>?_
 refine Cd (fun C1=>?_) fun C1=>?_
 ·replace H:=ifT C1 H
  obtain⟨r2,hr2,H⟩:=bE H
  refine kX tok [] [2] (fun a σ=>∃M2 o1:Nat,M1+3≤M2∧M1+3≤o1∧o1<M2∧a=[(2,.sl o1 0 r2.1.length)]∧σ=hp E0 [(w0,some ⟨127,2,W0.set r0_ [.fsl (eL rU8 r2.2.b),.int .i64 r2.2.p]⟩),(o1,some ⟨36,5,eL rQuad r2.1⟩)] M2) (fun K hK=>?_) ?_
  ·skip
   simp -dsimp -implicitDefEqProofs [gs_W0]
   refine(c134_o (W0:=W0.set r0_ [.fsl (eL rU8 r1.2.b),.int .i64 r1.2.p]) (r0_:=r0_) (H:=hr2) (by simp[gs_W0]) (by simp[gs_W0])).mono ?_;rintro _ _ ⟨M2,o1,fM2_0,fM2_1,fM2_2,rfl,rfl⟩;simp only[hpN] at fM2_0 fM2_1 fM2_2
   have eM2_0:=nQ o1 w0
   try simp -dsimp -implicitDefEqProofs [gs_W0,eM2_0,hoS,hoN]
   exact hK _ _ ⟨M2,o1,(by omega),(by omega),(by omega),rfl,rfl⟩
  rintro a σ ⟨M2,o1,fM2_0,fM2_1,fM2_2,rfl,rfl⟩
  obtain rfl:=oi H
  refine Kp [2] ?_
  have z0:=nQ w0 o1
  refine Wr ?_
  refine⟨[.sl o1 0 r2.1.length],by simp[z0,gs_W0],M2,o1,by omega,by omega,by omega,?_,?_⟩
  ·simp[eN]
  first|rfl|simp
 replace H:=ifF C1 H
 refine Wsk (Jn hK1 ?_)
 obtain⟨r3,hr3,H⟩:=bE H
 obtain⟨r4,hr4,H⟩:=bE H
 refine Sm tok [] [0,3] (M1+8) (by
  intro K k
  simp -dsimp -implicitDefEqProofs [gs_W0]
  refine(c136 (W0:=W0.set r0_ [.fsl (eL rU8 r1.2.b),.int .i64 r1.2.p]) (r0_:=r0_) (H:=hr3) (by simp[gs_W0]) (by simp[gs_W0])).mono ?_;rintro _ _ ⟨M3,fM3_0,rfl,rfl⟩;simp only[hpN] at fM3_0
  try simp -dsimp -implicitDefEqProofs [gs_W0,hoS,hoN]
  refine(c135 hr4).app ?_;try simp -dsimp -implicitDefEqProofs [gs_W0,hoS,hoN]
  exact k M3 (by omega)) fun M3 fM3_0=>?_
 refine Wsq [0,3] fun K2 hK2=>?_
 refine Sx tok [] [0,3,20] (by intro K k;simp -dsimp -implicitDefEqProofs [gs_W0];exact k) ?_
 refine Cd (fun C2=>?_) fun C2=>?_
 ·replace H:=ifT C2 H
  obtain⟨r5,hr5,H⟩:=bE H
  refine kX tok [] [2] (fun a σ=>∃M4 o2:Nat,M3+6≤M4∧M3+6≤o2∧o2<M4∧a=[(2,.sl o2 0 r5.1.length)]∧σ=hp E0 [(w0,some ⟨127,2,W0.set r0_ [.fsl (eL rU8 r5.2.b),.int .i64 r5.2.p]⟩),(o2,some ⟨36,5,eL rQuad r5.1⟩)] M4) (fun K hK=>?_) ?_
  ·skip
   simp -dsimp -implicitDefEqProofs [gs_W0]
   refine(c134_o (W0:=W0.set r0_ [.fsl (eL rU8 r3.2.b),.int .i64 r3.2.p]) (r0_:=r0_) (H:=hr5) (by simp[gs_W0]) (by simp[gs_W0])).mono ?_;rintro _ _ ⟨M4,o2,fM4_0,fM4_1,fM4_2,rfl,rfl⟩;simp only[hpN] at fM4_0 fM4_1 fM4_2
   have eM4_0:=nQ o2 w0
   try simp -dsimp -implicitDefEqProofs [gs_W0,eM4_0,hoS,hoN]
   exact hK _ _ ⟨M4,o2,(by omega),(by omega),(by omega),rfl,rfl⟩
  rintro a σ ⟨M4,o2,fM4_0,fM4_1,fM4_2,rfl,rfl⟩
  obtain rfl:=oi H
  refine Kp [2] ?_
  have z1:=nQ w0 o2
  refine Wr ?_
  refine⟨[.sl o2 0 r5.1.length],by simp[z1,gs_W0],M4,o2,by omega,by omega,by omega,?_,?_⟩
  ·simp[eN]
  first|rfl|simp
 replace H:=ifF C2 H
 refine Wsk (Jn hK2 ?_)
 obtain⟨r6,hr6,H⟩:=bE H
 obtain⟨v7,hv7,H⟩:=bE H
 obtain⟨r8,hr8,H⟩:=bE H
 refine kX tok [] [5] (fun a σ=>∃M5:Nat,∃M6 o3:Nat,M3+13≤M5∧M5≤M6∧M5≤o3∧o3<M6∧a=[(5,.sl o3 0 r8.1.length)]∧σ=hp E0 [(w0,some ⟨127,2,W0.set r0_ [.fsl (eL rU8 r6.2.b),.int .i64 r6.2.p]⟩),(o3,some ⟨36,5,eL rQuad r8.1⟩)] M6) (fun K hK=>?_) ?_
 ·skip
  simp -dsimp -implicitDefEqProofs [gs_W0,hv7]
  refine(c88 (W0:=W0.set r0_ [.fsl (eL rU8 r3.2.b),.int .i64 r3.2.p]) (r0_:=r0_) (H:=hr6) (by simp[gs_W0,hv7]) (by simp[gs_W0,hv7])).mono ?_;rintro _ _ ⟨M5,fM5_0,rfl,rfl⟩;simp only[hpN] at fM5_0
  try simp -dsimp -implicitDefEqProofs [gs_W0,hv7,hoS,hoN]
  refine(c137_o (H:=hr8)).mono ?_;rintro _ _ ⟨M6,o3,fM6_0,fM6_1,fM6_2,rfl,rfl⟩;simp only[hpN] at fM6_0 fM6_1 fM6_2
  have eM6_0:=nQ o3 w0
  try simp -dsimp -implicitDefEqProofs [gs_W0,hv7,hoS,hoN,eM6_0]
  exact hK _ _ ⟨M5,M6,o3,(by omega),(by omega),(by omega),(by omega),rfl,rfl⟩
 rintro a σ ⟨M5,M6,o3,fM5_0,fM6_0,fM6_1,fM6_2,rfl,rfl⟩
 refine Sx tok [] [2] (by
  intro K k
  have e0:=nQ w0 o3
  simp -dsimp -implicitDefEqProofs [e0,gs_W0]
  exact k) ?_
 obtain rfl:=oi H
 refine Kp [2] ?_
 have z2:=nQ w0 o3
 refine Wr ?_
 refine⟨[.sl o3 0 r8.1.length],by simp[z2,gs_W0],M6+2,o3,by omega,by omega,by omega,?_,?_⟩
 ·simp[eN]
 first|rfl|simp

theorem c65 {p0:gL6Rd}{r:(List gQuad)×gL6Rd}(H:s_l93Code p0=some r){σ:AHeap}{w0:Nat}{W0:List (List AV)}{r0_:Nat}(q0:σ.objs w0=some ⟨127,2,W0⟩)(g0:W0[r0_]? =some [.fsl (eL rU8 p0.b),.int .i64 p0.p]):ACalls Tryz.prog G 65 [.ptr w0 r0_ 0] σ (fun v σ'=>∃M:Nat,σ.next≤M∧v=.fsl (eL rQuad r.1)∧σ'=hp σ.objs [(w0,some ⟨127,2,W0.set r0_ [.fsl (eL rU8 r.2.b),.int .i64 r.2.p]⟩)] M):=by
 refine zP (L:=[(w0,some ⟨127,2,W0⟩)]) (Q1:=fun v σ'=>∃M:Nat,σ.next≤M∧v=.fsl (eL rQuad r.1)∧σ'=hp E0 [(w0,some ⟨127,2,W0.set r0_ [.fsl (eL rU8 r.2.b),.int .i64 r.2.p]⟩)] M) (by simp[q0]) (fun hlt=>?_) ?_ ⟨_,Tryz.func65,rfl,rfl⟩
 rotate_left
 ·rintro v σ1 ⟨M,h0,rfl,rfl⟩
  exact⟨_,M,rfl,by simp,by simp;try omega,M,h0,rfl,rfl⟩
 generalize σ.next=N0 at hlt ⊢
 have lw0:w0<N0:=hlt _ (.head _) rfl
 have gs_W0:∀x,(W0.set r0_ x)[r0_]? =some x:=gsetW g0
 rw[← kB g0]
 refine fnK tok Tryz.func65 Tryz.ntmps65 Tryz.results65 ?_
 simp only[argsA,Nat.reduceAdd,hpN]
 unfold s_l93Code at H
 refine Sx tok [] [0] (by intro K k;simp -dsimp -implicitDefEqProofs [gs_W0];exact k) ?_
 obtain⟨r1,hr1,H⟩:=bE H
 refine kX tok [] [0,3] (fun a σ=>∃M1 o1:Nat,N0+4≤M1∧N0+4≤o1∧o1<M1∧a=[(0,.ptr w0 r0_ 0),(3,.sl o1 0 r1.1.length)]∧σ=hp E0 [(w0,some ⟨127,2,W0.set r0_ [.fsl (eL rU8 r1.2.b),.int .i64 r1.2.p]⟩),(o1,some ⟨36,5,eL rQuad r1.1⟩)] M1) (fun K hK=>?_) ?_
 ·skip
  simp -dsimp -implicitDefEqProofs [gs_W0]
  refine(c113_o (W0:=W0.set r0_ [.fsl (eL rU8 p0.b),.int .i64 p0.p]) (r0_:=r0_) (H:=hr1) (by simp[gs_W0]) (by simp[gs_W0])).mono ?_;rintro _ _ ⟨M1,o1,fM1_0,fM1_1,fM1_2,rfl,rfl⟩;simp only[hpN] at fM1_0 fM1_1 fM1_2
  have eM1_0:=nQ o1 w0
  try simp -dsimp -implicitDefEqProofs [gs_W0,eM1_0,hoS,hoN]
  exact hK _ _ ⟨M1,o1,(by omega),(by omega),(by omega),rfl,rfl⟩
 rintro a σ ⟨M1,o1,fM1_0,fM1_1,fM1_2,rfl,rfl⟩
 refine Wsq [3] fun K1 hK1=>?_
 obtain⟨r2,hr2,H⟩:=bE H
 refine Sm tok [] [3,7] (M1+2) (by
  intro K k
  have e0:=nQ w0 o1
  simp -dsimp -implicitDefEqProofs [e0,gs_W0]
  refine(c88 (W0:=W0.set r0_ [.fsl (eL rU8 r1.2.b),.int .i64 r1.2.p]) (r0_:=r0_) (H:=hr2) (by simp[e0,gs_W0]) (by simp[e0,gs_W0])).mono ?_;rintro _ _ ⟨M2,fM2_0,rfl,rfl⟩;simp only[hpN] at fM2_0
  try simp -dsimp -implicitDefEqProofs [e0,gs_W0,hoS,hoN]
  exact k M2 (by omega)) fun M2 fM2_0=>?_
 refine Wbl (Wth ?_)
 refine Sx tok [] [3,7,8] (by
  intro K k
  have e0:=nQ w0 o1
  simp -dsimp -implicitDefEqProofs [e0,gs_W0]
  exact k) ?_
 refine Cd (fun C1=>?_) fun C1=>?_
 ·replace H:=ifT C1 H
  obtain⟨v3,hv3,H⟩:=bE H
  obtain⟨l4,hl4,H⟩:=bE H
  refine Rt tok [] [3] (by
   intro K k
   have e0:=nQ w0 o1
   simp -dsimp -implicitDefEqProofs [e0,gs_W0,ixo23 hv3,(show _[0]? =some v3 from(zE hv3).2.2),(show List.set _ 0 _=l4 from(setx_iff.1 hl4).2.symm)]
   exact k) fun a ha=>?_
  (try rw[← zD hl4] at ha);(try rw[← zD hl4])
  refine hK1 _ _ ?_;rw[ha]
  refine Rc.mk ?_
  refine Sx tok [] [2] (by
   intro K k
   have e0:=nQ w0 o1
   simp -dsimp -implicitDefEqProofs [e0,gs_W0]
   exact k) ?_
  obtain rfl:=oi H
  refine Kp [2] ?_
  have z0:=nQ w0 o1
  refine gFrz Wre 4 [o1] [(w0,some ⟨127,2,W0.set r0_ [.fsl (eL rU8 r2.2.b),.int .i64 r2.2.p]⟩)] [(2,.fsl (eL rQuad l4))] (by simp[z0]) (cutD (by simp[z0])) ?_
  refine Wr ?_
  refine⟨[.fsl (eL rQuad l4)],by simp[gs_W0],M2+8,by omega,?_,?_⟩
  ·simp[eN]
  first|rfl|simp
 replace H:=ifF C1 H
 refine Sx tok [] [3,7,13] (by
  intro K k
  have e0:=nQ w0 o1
  simp -dsimp -implicitDefEqProofs [e0,gs_W0]
  exact k) ?_
 refine Cd (fun C2=>?_) fun C2=>?_
 ·replace H:=ifT C2 H
  obtain⟨l5,hl5,H⟩:=bE H
  have q0:∀σ i,bsA T 23 true i 1 [(0,.agg [.int .i64 9,.int .i64 0,.int .i64 0,.int .i64 0,.int .i64 0])] σ=some (.fsl (eL rQuad ([(⟨9,0,0,0,0⟩:gQuad)]:List gQuad)),σ):=fun _ _=>rfl
  refine Rt tok [2] [3] (by
   intro K k
   have e0:=nQ w0 o1
   have e1:=nQ w0 (M2+7)
   have e2:=nQ o1 (M2+7)
   simp -dsimp -implicitDefEqProofs [e0,e1,e2,gs_W0,q0,app23 hl5]
   exact k) fun a ha=>?_
  refine hK1 _ _ ?_;rw[ha]
  have z1:=nQ w0 (M2+7)
  refine gFrz zL 4 [M2+7] [(w0,some ⟨127,2,W0.set r0_ [.fsl (eL rU8 r2.2.b),.int .i64 r2.2.p]⟩)] [(3,.fsl (eL rQuad l5))] (by simp[z1]) (cutD (by simp[z1])) ?_
  refine Rc.mk ?_
  refine Sx tok [] [2] (by intro K k;simp -dsimp -implicitDefEqProofs [gs_W0];exact k) ?_
  obtain rfl:=oi H
  refine Kp [2] ?_
  refine Wr ?_
  refine⟨[.fsl (eL rQuad l5)],by simp[gs_W0],M2+11,by omega,?_,?_⟩
  ·simp[eN]
  first|rfl|simp
 replace H:=ifF C2 H
 refine Sx tok [] [3,7,19] (by
  intro K k
  have e0:=nQ w0 o1
  simp -dsimp -implicitDefEqProofs [e0,gs_W0]
  exact k) ?_
 refine Cd (fun C3=>?_) fun C3=>?_
 ·replace H:=ifT C3 H
  obtain⟨v6,hv6,H⟩:=bE H
  obtain⟨l7,hl7,H⟩:=bE H
  refine Rt tok [] [3] (by
   intro K k
   have e0:=nQ w0 o1
   simp -dsimp -implicitDefEqProofs [e0,gs_W0,ixo23 hv6,(show _[0]? =some v6 from(zE hv6).2.2),(show List.set _ 0 _=l7 from(setx_iff.1 hl7).2.symm)]
   exact k) fun a ha=>?_
  (try rw[← zD hl7] at ha);(try rw[← zD hl7])
  refine hK1 _ _ ?_;rw[ha]
  refine Rc.mk ?_
  refine Sx tok [] [2] (by
   intro K k
   have e0:=nQ w0 o1
   simp -dsimp -implicitDefEqProofs [e0,gs_W0]
   exact k) ?_
  obtain rfl:=oi H
  refine Kp [2] ?_
  have z2:=nQ w0 o1
  refine gFrz Wre 4 [o1] [(w0,some ⟨127,2,W0.set r0_ [.fsl (eL rU8 r2.2.b),.int .i64 r2.2.p]⟩)] [(2,.fsl (eL rQuad l7))] (by simp[z2]) (cutD (by simp[z2])) ?_
  refine Wr ?_
  refine⟨[.fsl (eL rQuad l7)],by simp[gs_W0],M2+14,by omega,?_,?_⟩
  ·simp[eN]
  first|rfl|simp
 replace H:=ifF C3 H
 refine Sx tok [] [3,26] (by
  intro K k
  have e0:=nQ w0 o1
  simp -dsimp -implicitDefEqProofs [e0,gs_W0]
  exact k) ?_
 refine Cd (fun C4=>?_) fun C4=>?_
 ·replace H:=ifT C4 H
  have q1:∀σ i,bsA T 23 true i 0 [] σ=some (.esl,σ):=fun _ _=>rfl
  refine Sx tok [0] [2] (by
   intro K k
   have e0:=nQ w0 o1
   simp -dsimp -implicitDefEqProofs [e0,gs_W0,q1]
   exact k) ?_
  obtain rfl:=oi H
  refine Kp [2] ?_
  have z3:=nQ w0 o1
  refine gFrz Wre 4 [] [(w0,some ⟨127,2,W0.set r0_ [.fsl (eL rU8 r2.2.b),.int .i64 r2.2.p]⟩),(o1,some ⟨36,5,eL rQuad r1.1⟩)] [(2,.fsl [])] (by simp[z3]) (cutD (by simp[z3])) ?_
  have z4:=nQ w0 o1
  refine gDrop Wre [(w0,some ⟨127,2,W0.set r0_ [.fsl (eL rU8 r2.2.b),.int .i64 r2.2.p]⟩)] (zK (AHeap.Sub.trans (AHeap.Sub.refl _) (zR rfl (by simp;try omega)))) ?_
  refine Wr ?_
  refine⟨[.fsl []],by simp[z4,gs_W0],M2+10,by omega,?_,?_⟩
  ·simp[eN]
  first|rfl|simp
 replace H:=ifF C4 H
 refine Wsk (Jn hK1 ?_)
 refine Sx tok [] [2] (by
  intro K k
  have e0:=nQ w0 o1
  simp -dsimp -implicitDefEqProofs [e0,gs_W0]
  exact k) ?_
 obtain rfl:=oi H
 refine Kp [2] ?_
 have z5:=nQ w0 o1
 refine gFrz Wre 4 [o1] [(w0,some ⟨127,2,W0.set r0_ [.fsl (eL rU8 r2.2.b),.int .i64 r2.2.p]⟩)] [(2,.fsl (eL rQuad r1.1))] (by simp[z5]) (cutD (by simp[z5])) ?_
 refine Wr ?_
 refine⟨[.fsl (eL rQuad r1.1)],by simp[gs_W0],M2+10,by omega,?_,?_⟩
 ·simp[eN]
 first|rfl|simp

theorem c114 {p0:gL6Rd}{p1:Int}{r:(List Int)×gL6Rd}(H:s_l92Items p0 p1=some r){σ:AHeap}{w0:Nat}{W0:List (List AV)}{r0_:Nat}(q0:σ.objs w0=some ⟨127,2,W0⟩)(g0:W0[r0_]? =some [.fsl (eL rU8 p0.b),.int .i64 p0.p]):ACalls Tryz.prog G 114 [.ptr w0 r0_ 0,.int .i64 p1] σ (fun v σ'=>∃M:Nat,σ.next≤M∧v=.fsl (eL rI r.1)∧σ'=hp σ.objs [(w0,some ⟨127,2,W0.set r0_ [.fsl (eL rU8 r.2.b),.int .i64 r.2.p]⟩)] M):=by
 refine zP (L:=[(w0,some ⟨127,2,W0⟩)]) (Q1:=fun v σ'=>∃M:Nat,σ.next≤M∧v=.fsl (eL rI r.1)∧σ'=hp E0 [(w0,some ⟨127,2,W0.set r0_ [.fsl (eL rU8 r.2.b),.int .i64 r.2.p]⟩)] M) (by simp[q0]) (fun hlt=>?_) ?_ ⟨_,Tryz.func114,rfl,rfl⟩
 rotate_left
 ·rintro v σ1 ⟨M,h0,rfl,rfl⟩
  exact⟨_,M,rfl,by simp,by simp;try omega,M,h0,rfl,rfl⟩
 generalize σ.next=N0 at hlt ⊢
 have lw0:w0<N0:=hlt _ (.head _) rfl
 have gs_W0:∀x,(W0.set r0_ x)[r0_]? =some x:=gsetW g0
 rw[← kB g0]
 refine fnK tok Tryz.func114 Tryz.ntmps114 Tryz.results114 ?_
 simp only[argsA,Nat.reduceAdd,hpN]
 unfold s_l92Items at H
 refine Sx tok [] [0,1] (by intro K k;simp -dsimp -implicitDefEqProofs [gs_W0];exact k) ?_
 have q0:∀σ i,bsA T 24 true i 0 [] σ=some (.esl,σ):=fun _ _=>rfl
 refine Sx tok [0] [0,1,5] (by intro K k;simp -dsimp -implicitDefEqProofs [gs_W0,q0];exact k) ?_
 refine Wsq [5] fun K1 hK1=>?_
 refine Sx tok [] [0,1,5,6] (by intro K k;simp -dsimp -implicitDefEqProofs [gs_W0];exact k) ?_
 refine Wbl (Wth ?_)
 obtain⟨e1,hse1,H⟩:=bE H
 refine zU [0,1,5,6] (fun s a σ=>∃M1 o1:Nat,N0≤M1∧N0≤o1∧o1<M1∧a=[(0,.ptr w0 r0_ 0),(1,.int .i64 p1),(5,.sl o1 0 s.2.2.length),(6,.int .i64 s.1)]∧σ=hp E0 [(w0,some ⟨127,2,W0.set r0_ [.fsl (eL rU8 s.2.1.b),.int .i64 s.2.1.p]⟩),(o1,some ⟨3,1,eL rI s.2.2⟩)] M1) (fun s x a σ=>x=.exit 0∧Rc G 19 N0 (fun a σ=>∃M2 o2:Nat,N0≤M2∧N0≤o2∧o2<M2∧a=[(5,.sl o2 0 s.2.length)]∧σ=hp E0 [(w0,some ⟨127,2,W0.set r0_ [.fsl (eL rU8 s.1.b),.int .i64 s.1.p]⟩),(o2,some ⟨3,1,eL rI s.2⟩)] M2) (AAct.keep a [5]) σ) hse1 ?_ ?_ ?_
 ·refine Rc.kp [0,1,5,6] [(0,.ptr w0 r0_ 0),(1,.int .i64 p1),(5,.esl),(6,.int .i64 0)] rfl ?_
  refine gNilS zL 5 3 1 [(w0,some ⟨127,2,W0.set r0_ [.fsl (eL rU8 p0.b),.int .i64 p0.p]⟩),(N0+4,some ⟨3,1,eL rI ([]:List Int)⟩)] [(0,.ptr w0 r0_ 0),(1,.int .i64 p1),(5,.sl (N0+4) 0 ([]:List Int).length),(6,.int .i64 0)] (by simp(disch:=omega)) (by simp(disch:=omega) [eN]) [0,1,5,6] rfl ?_
  exact Rf ⟨N0+5,(N0+4),(by omega),(by omega),(by omega),rfl,rfl⟩
 ·clear H hse1
  rintro⟨s1,s2,s3⟩ fl a σ H ⟨M1,o1,fM1_0,fM1_1,fM1_2,rfl,rfl⟩ K2 O2 hK2 hO2
  unfold s_l92Items_L1 at H;dsimp only at H
  refine Wsq [0,1,5,6] fun K3 hK3=>?_
  refine Sx tok [] [0,1,5,6,10] (by
   intro K k
   have e0:=nQ w0 o1
   simp -dsimp -implicitDefEqProofs [e0,gs_W0]
   exact k) ?_
  refine Cd (fun C1=>?_) fun C1=>?_
  ·replace H:=ifT C1 H
   refine Wsk (Jn hK3 ?_)
   refine Wsq [0,1,5,6] fun K4 hK4=>?_
   refine Wbl (Wth ?_)
   obtain⟨r6,hr6,H⟩:=bE H
   obtain⟨l7,hl7,H⟩:=bE H
   have q1:∀σ i,bsA T 24 true i 1 [(0,.int .i64 r6.1)] σ=some (.fsl (eL rI ([r6.1]:List Int)),σ):=fun _ _=>rfl
   refine AWP_rt tok [3] [0,1,5,6] (fun a σ=>∃M3:Nat,M1+9≤M3∧a=[(0,.ptr w0 r0_ 0),(1,.int .i64 p1),(5,.sl (M1+7) 0 l7.length),(6,.int .i64 s1)]∧σ=hp E0 [(w0,some ⟨127,2,W0.set r0_ [.fsl (eL rU8 r6.2.b),.int .i64 r6.2.p]⟩),(M1+7,some ⟨3,1,eL rI l7⟩)] M3) (fun K hK=>?_) ?_
   ·skip
    have e0:=nQ w0 o1
    have e1:=nQ w0 (M1+7)
    have e2:=nQ o1 (M1+7)
    simp -dsimp -implicitDefEqProofs [e0,e1,e2,gs_W0,q1,app24 hl7]
    refine(c138 (W0:=W0.set r0_ [.fsl (eL rU8 s2.b),.int .i64 s2.p]) (r0_:=r0_) (H:=hr6) (by simp[e0,e1,e2,gs_W0,q1,app24 hl7]) (by simp[e0,e1,e2,gs_W0,q1,app24 hl7])).mono ?_;rintro _ _ ⟨M3,fM3_0,rfl,rfl⟩;simp only[hpN] at fM3_0
    try simp -dsimp -implicitDefEqProofs [e0,e1,e2,gs_W0,q1,app24 hl7,hoS,hoN]
    exact hK _ _ ⟨M3,(by omega),rfl,rfl⟩
   rintro a σ ⟨M3,fM3_0,ha,rfl⟩
   refine hK4 _ _ ?_;rw[ha]
   refine Rc.mk ?_
   refine Rt tok [] [0,1,5,6] (by
    intro K k
    have e0:=nQ w0 (M1+7)
    simp -dsimp -implicitDefEqProofs [e0,gs_W0]
    exact k) fun a ha=>?_
   obtain rfl:=oi H
   refine hK2 _ _ _ rfl ?_;rw[ha]
   exact Rf ⟨M3+3,(M1+7),(by omega),(by omega),(by omega),rfl,rfl⟩
  obtain rfl:=oi (ifF C1 H)
  refine zM (hO2 _ _ _ _ rfl ⟨rfl,?_⟩)
  refine Rc.rw (l:=[5]) (X:=[(5,.sl o1 0 s3.length)]) rfl ?_
  exact Rf ⟨M1+3,o1,(by omega),(by omega),(by omega),rfl,rfl⟩
 intro x a σ hx
 obtain⟨y4,y5⟩:=e1
 obtain⟨rfl,b,τ,hr,M2,o2,fM2_0,fM2_1,fM2_2,rfl,rfl⟩:=hx
 (try dsimp only at H)
 show K1 _ _
 refine hK1 _ _ (zL hr ?_)
 refine Rc.mk ?_
 refine Sx tok [] [4] (by
  intro K k
  have e0:=nQ w0 o2
  simp -dsimp -implicitDefEqProofs [e0,gs_W0]
  exact k) ?_
 obtain rfl:=oi H
 refine Kp [4] ?_
 have z0:=nQ w0 o2
 refine gFrz Wre 4 [o2] [(w0,some ⟨127,2,W0.set r0_ [.fsl (eL rU8 y4.b),.int .i64 y4.p]⟩)] [(4,.fsl (eL rI y5))] (by simp[z0]) (cutD (by simp[z0])) ?_
 refine Wr ?_
 refine⟨[.fsl (eL rI y5)],by simp[gs_W0],M2+2,by omega,?_,?_⟩
 ·simp[eN]
 first|rfl|simp

theorem c66 {p0:gL6Rd}{p1:(List gQuad)}{r:gThread×gL6Rd}(H:s_l93Thread p0 p1=some r){σ:AHeap}{w0:Nat}{W0:List (List AV)}{r0_:Nat}(q0:σ.objs w0=some ⟨127,2,W0⟩)(g0:W0[r0_]? =some [.fsl (eL rU8 p0.b),.int .i64 p0.p]):ACalls Tryz.prog G 66 [.ptr w0 r0_ 0,.fsl (eL rQuad p1)] σ (fun v σ'=>∃M:Nat,σ.next≤M∧v=.agg [.fsl (eL rI r.1.Regs),.int .i64 r.1.Pc]∧σ'=hp σ.objs [(w0,some ⟨127,2,W0.set r0_ [.fsl (eL rU8 r.2.b),.int .i64 r.2.p]⟩)] M):=by
 refine zP (L:=[(w0,some ⟨127,2,W0⟩)]) (Q1:=fun v σ'=>∃M:Nat,σ.next≤M∧v=.agg [.fsl (eL rI r.1.Regs),.int .i64 r.1.Pc]∧σ'=hp E0 [(w0,some ⟨127,2,W0.set r0_ [.fsl (eL rU8 r.2.b),.int .i64 r.2.p]⟩)] M) (by simp[q0]) (fun hlt=>?_) ?_ ⟨_,Tryz.func66,rfl,rfl⟩
 rotate_left
 ·rintro v σ1 ⟨M,h0,rfl,rfl⟩
  exact⟨_,M,rfl,by simp,by simp;try omega,M,h0,rfl,rfl⟩
 generalize σ.next=N0 at hlt ⊢
 have lw0:w0<N0:=hlt _ (.head _) rfl
 have gs_W0:∀x,(W0.set r0_ x)[r0_]? =some x:=gsetW g0
 rw[← kB g0]
 refine jF 4 ?_
 refine fnK tok Tryz.func66 Tryz.ntmps66 Tryz.results66 ?_
 simp only[argsA,Nat.reduceAdd,hpN]
 unfold s_l93Thread at H
 refine Sx tok [] [0,1,4] (by
  intro K k
  have e0:=nQ w0 N0
  simp -dsimp -implicitDefEqProofs [e0,gs_W0]
  exact k) ?_
 refine gW Wre N0 0 0 ?_
 obtain⟨r1,hr1,H⟩:=bE H
 obtain⟨r2,hr2,H⟩:=bE H
 refine Sm tok [] [0,1,4,5] (N0+10) (by
  intro K k
  have e0:=nQ w0 N0
  have e1:=nQ w0 (N0+8)
  simp -dsimp -implicitDefEqProofs [e0,e1,gs_W0]
  refine(c114 (W0:=W0.set r0_ [.fsl (eL rU8 p0.b),.int .i64 p0.p]) (r0_:=r0_) (H:=hr1) (by simp[e0,e1,gs_W0]) (by simp[e0,e1,gs_W0])).mono ?_;rintro _ _ ⟨M1,fM1_0,rfl,rfl⟩;simp only[hpN] at fM1_0
  try simp -dsimp -implicitDefEqProofs [e0,e1,gs_W0,hoS,hoN]
  refine(c88 (W0:=W0.set r0_ [.fsl (eL rU8 r1.2.b),.int .i64 r1.2.p]) (r0_:=r0_) (H:=hr2) (by simp[e0,e1,gs_W0,hoS,hoN]) (by simp[e0,e1,gs_W0,hoS,hoN])).mono ?_;rintro _ _ ⟨M2,fM2_0,rfl,rfl⟩;simp only[hpN] at fM2_0
  try simp -dsimp -implicitDefEqProofs [e0,e1,gs_W0,hoS,hoN]
  exact k M2 (by omega)) fun M2 fM2_0=>?_
 refine Wsq [4,5] fun K1 hK1=>?_
 obtain⟨r3,hr3,H⟩:=bE H
 refine Sm tok [] [1,4,5,14] (M2+2) (by
  intro K k
  have e0:=nQ w0 N0
  have e1:=nQ w0 (N0+8)
  simp -dsimp -implicitDefEqProofs [e0,e1,gs_W0]
  refine(c88 (W0:=W0.set r0_ [.fsl (eL rU8 r2.2.b),.int .i64 r2.2.p]) (r0_:=r0_) (H:=hr3) (by simp[e0,e1,gs_W0]) (by simp[e0,e1,gs_W0])).mono ?_;rintro _ _ ⟨M3,fM3_0,rfl,rfl⟩;simp only[hpN] at fM3_0
  try simp -dsimp -implicitDefEqProofs [e0,e1,gs_W0,hoS,hoN]
  exact k M3 (by omega)) fun M3 fM3_0=>?_
 refine Wbl (Wth ?_)
 refine Sx tok [] [1,4,5,14,15] (by
  intro K k
  have e0:=nQ w0 N0
  have e1:=nQ w0 (N0+8)
  simp -dsimp -implicitDefEqProofs [e0,e1,gs_W0]
  exact k) ?_
 refine Cd (fun C1=>?_) fun C1=>?_
 ·replace H:=ifT C1 H
  refine Rt tok [] [4,5] (by
   intro K k
   have e0:=nQ w0 N0
   have e1:=nQ w0 (N0+8)
   simp -dsimp -implicitDefEqProofs [e0,e1,gs_W0]
   exact k) fun a ha=>?_
  refine hK1 _ _ ?_;rw[ha]
  refine Rc.mk ?_
  refine Sx tok [] [4] (by
   intro K k
   have e0:=nQ w0 N0
   have e1:=nQ w0 (N0+8)
   simp -dsimp -implicitDefEqProofs [e0,e1,gs_W0]
   exact k) ?_
  obtain rfl:=oi H
  refine Kp [4] ?_
  have z0:=nQ w0 N0
  have z1:=nQ w0 (N0+8)
  refine gDrop Wre [(w0,some ⟨127,2,W0.set r0_ [.fsl (eL rU8 r3.2.b),.int .i64 r3.2.p]⟩),(N0,some ⟨26,2,[[.fsl (eL rI r1.1),.int .i64 (ilen p1)]]⟩)] (zK (zK (AHeap.Sub.trans (AHeap.Sub.refl _) (zR rfl (by simp;try omega))))) ?_
  refine Wr ?_
  refine⟨[.agg [.fsl (eL rI r1.1),.int .i64 (ilen p1)]],by simp[z0,z1,gs_W0],(fun o=>[N0].contains o),M3+8,by omega,?_,?_⟩
  ·simp[eN,z0,z1,gs_W0]
  rw[cutD (L':=[(w0,some ⟨127,2,W0.set r0_ [.fsl (eL rU8 r3.2.b),.int .i64 r3.2.p]⟩)]) (by simp[z0,z1,gs_W0])]
  first|done|rfl|simp
 replace H:=ifF C1 H
 refine Sx tok [] [4,5,20] (by
  intro K k
  have e0:=nQ w0 N0
  have e1:=nQ w0 (N0+8)
  simp -dsimp -implicitDefEqProofs [e0,e1,gs_W0]
  exact k) ?_
 refine Cd (fun C2=>?_) fun C2=>?_
 ·replace H:=ifT C2 H
  obtain⟨l4,hl4,H⟩:=bE H
  refine Rt tok [] [4,5] (by
   intro K k
   have e0:=nQ w0 N0
   have e1:=nQ w0 (N0+8)
   simp -dsimp -implicitDefEqProofs [e0,e1,gs_W0,cutl_24 hl4]
   exact k) fun a ha=>?_
  refine hK1 _ _ ?_;rw[ha]
  refine Rc.mk ?_
  refine Sx tok [] [4] (by
   intro K k
   have e0:=nQ w0 N0
   have e1:=nQ w0 (N0+8)
   simp -dsimp -implicitDefEqProofs [e0,e1,gs_W0]
   exact k) ?_
  obtain rfl:=oi H
  refine Kp [4] ?_
  have z2:=nQ w0 N0
  have z3:=nQ w0 (N0+8)
  refine gDrop Wre [(w0,some ⟨127,2,W0.set r0_ [.fsl (eL rU8 r3.2.b),.int .i64 r3.2.p]⟩),(N0,some ⟨26,2,[[.fsl (eL rI l4),.int .i64 r2.1]]⟩)] (zK (zK (AHeap.Sub.trans (AHeap.Sub.refl _) (zR rfl (by simp;try omega))))) ?_
  refine Wr ?_
  refine⟨[.agg [.fsl (eL rI l4),.int .i64 r2.1]],by simp[z2,z3,gs_W0],(fun o=>[N0].contains o),M3+11,by omega,?_,?_⟩
  ·simp[eN,z2,z3,gs_W0]
  rw[cutD (L':=[(w0,some ⟨127,2,W0.set r0_ [.fsl (eL rU8 r3.2.b),.int .i64 r3.2.p]⟩)]) (by simp[z2,z3,gs_W0])]
  first|done|rfl|simp
 replace H:=ifF C2 H
 refine Wsk (Jn hK1 ?_)
 refine Sx tok [] [4] (by
  intro K k
  have e0:=nQ w0 N0
  have e1:=nQ w0 (N0+8)
  simp -dsimp -implicitDefEqProofs [e0,e1,gs_W0]
  exact k) ?_
 obtain rfl:=oi H
 refine Kp [4] ?_
 have z4:=nQ w0 N0
 have z5:=nQ w0 (N0+8)
 refine gDrop Wre [(w0,some ⟨127,2,W0.set r0_ [.fsl (eL rU8 r3.2.b),.int .i64 r3.2.p]⟩),(N0,some ⟨26,2,[[.fsl (eL rI r1.1),.int .i64 r2.1]]⟩)] (zK (zK (AHeap.Sub.trans (AHeap.Sub.refl _) (zR rfl (by simp;try omega))))) ?_
 refine Wr ?_
 refine⟨[.agg [.fsl (eL rI r1.1),.int .i64 r2.1]],by simp[z4,z5,gs_W0],(fun o=>[N0].contains o),M3+6,by omega,?_,?_⟩
 ·simp[eN,z4,z5,gs_W0]
 rw[cutD (L':=[(w0,some ⟨127,2,W0.set r0_ [.fsl (eL rU8 r3.2.b),.int .i64 r3.2.p]⟩)]) (by simp[z4,z5,gs_W0])]
 first|done|rfl|simp

theorem c67 {p0:gL6Rd}{r:(List gBox)×gL6Rd}(H:s_l92Boxes p0=some r){σ:AHeap}{w0:Nat}{W0:List (List AV)}{r0_:Nat}(q0:σ.objs w0=some ⟨127,2,W0⟩)(g0:W0[r0_]? =some [.fsl (eL rU8 p0.b),.int .i64 p0.p]):ACalls Tryz.prog G 67 [.ptr w0 r0_ 0] σ (fun v σ'=>∃M:Nat,σ.next≤M∧v=.fsl (eL rBox r.1)∧σ'=hp σ.objs [(w0,some ⟨127,2,W0.set r0_ [.fsl (eL rU8 r.2.b),.int .i64 r.2.p]⟩)] M):=by
 refine zP (L:=[(w0,some ⟨127,2,W0⟩)]) (Q1:=fun v σ'=>∃M:Nat,σ.next≤M∧v=.fsl (eL rBox r.1)∧σ'=hp E0 [(w0,some ⟨127,2,W0.set r0_ [.fsl (eL rU8 r.2.b),.int .i64 r.2.p]⟩)] M) (by simp[q0]) (fun hlt=>?_) ?_ ⟨_,Tryz.func67,rfl,rfl⟩
 rotate_left
 ·rintro v σ1 ⟨M,h0,rfl,rfl⟩
  exact⟨_,M,rfl,by simp,by simp;try omega,M,h0,rfl,rfl⟩
 generalize σ.next=N0 at hlt ⊢
 have lw0:w0<N0:=hlt _ (.head _) rfl
 have gs_W0:∀x,(W0.set r0_ x)[r0_]? =some x:=gsetW g0
 rw[← kB g0]
 refine fnK tok Tryz.func67 Tryz.ntmps67 Tryz.results67 ?_
 simp only[argsA,Nat.reduceAdd,hpN]
 unfold s_l92Boxes at H
 refine Sx tok [] [0] (by intro K k;simp -dsimp -implicitDefEqProofs [gs_W0];exact k) ?_
 have q0:∀σ i,bsA T 27 true i 0 [] σ=some (.esl,σ):=fun _ _=>rfl
 refine Sx tok [0] [0,3] (by intro K k;simp -dsimp -implicitDefEqProofs [gs_W0,q0];exact k) ?_
 obtain⟨r1,hr1,H⟩:=bE H
 obtain⟨v2,hv2,H⟩:=bE H
 have q1:∀σ i,bsA T 24 true i 4 [(0,.int .i64 1),(1,.int .i64 2),(2,.int .i64 2),(3,.int .i64 3)] σ=some (.fsl (eL rI ([1,2,2,3]:List Int)),σ):=fun _ _=>rfl
 refine Sm tok [0] [0,3,4] (N0+9) (by
  intro K k
  simp -dsimp -implicitDefEqProofs [gs_W0,q1,ix24 hv2]
  refine(c88 (W0:=W0.set r0_ [.fsl (eL rU8 p0.b),.int .i64 p0.p]) (r0_:=r0_) (H:=hr1) (by simp[gs_W0,q1,ix24 hv2]) (by simp[gs_W0,q1,ix24 hv2])).mono ?_;rintro _ _ ⟨M1,fM1_0,rfl,rfl⟩;simp only[hpN] at fM1_0
  try simp -dsimp -implicitDefEqProofs [gs_W0,q1,ix24 hv2,hoS,hoN]
  exact k M1 (by omega)) fun M1 fM1_0=>?_
 refine Wsq [0,3] fun K1 hK1=>?_
 refine Sx tok [] [0,3,4,5] (by intro K k;simp -dsimp -implicitDefEqProofs [gs_W0];exact k) ?_
 refine Wbl (Wth ?_)
 obtain⟨e1,hse1,H⟩:=bE H
 refine zU [0,3,4,5] (fun s a σ=>∃M2 o1:Nat,N0≤M2∧N0≤o1∧o1<M2∧a=[(0,.ptr w0 r0_ 0),(3,.sl o1 0 s.2.2.length),(4,.int .i64 v2),(5,.int .i64 s.1)]∧σ=hp E0 [(w0,some ⟨127,2,W0.set r0_ [.fsl (eL rU8 s.2.1.b),.int .i64 s.2.1.p]⟩),(o1,some ⟨40,2,eL rBox s.2.2⟩)] M2) (fun s x a σ=>x=.exit 0∧Rc G 54 N0 (fun a σ=>∃M3 o2:Nat,N0≤M3∧N0≤o2∧o2<M3∧a=[(0,.ptr w0 r0_ 0),(3,.sl o2 0 s.2.length)]∧σ=hp E0 [(w0,some ⟨127,2,W0.set r0_ [.fsl (eL rU8 s.1.b),.int .i64 s.1.p]⟩),(o2,some ⟨40,2,eL rBox s.2⟩)] M3) (AAct.keep a [0,3]) σ) hse1 ?_ ?_ ?_
 ·refine Rc.kp [0,3,4,5] [(0,.ptr w0 r0_ 0),(3,.esl),(4,.int .i64 v2),(5,.int .i64 0)] rfl ?_
  refine gNilS zL 3 40 2 [(w0,some ⟨127,2,W0.set r0_ [.fsl (eL rU8 r1.2.b),.int .i64 r1.2.p]⟩),(M1+1,some ⟨40,2,eL rBox ([]:List gBox)⟩)] [(0,.ptr w0 r0_ 0),(3,.sl (M1+1) 0 ([]:List gBox).length),(4,.int .i64 v2),(5,.int .i64 0)] (by simp(disch:=omega)) (by simp(disch:=omega) [eN]) [0,3,4,5] rfl ?_
  exact Rf ⟨M1+2,(M1+1),(by omega),(by omega),(by omega),rfl,rfl⟩
 ·clear H hse1
  rintro⟨s3,s4,s5⟩ fl a σ H ⟨M2,o1,fM2_0,fM2_1,fM2_2,rfl,rfl⟩ K2 O2 hK2 hO2
  unfold s_l92Boxes_L1 at H;dsimp only at H
  refine Wsq [0,3,4,5] fun K3 hK3=>?_
  refine Sx tok [] [0,3,4,5,15] (by
   intro K k
   have e0:=nQ w0 o1
   simp -dsimp -implicitDefEqProofs [e0,gs_W0]
   exact k) ?_
  refine Cd (fun C1=>?_) fun C1=>?_
  ·replace H:=ifT C1 H
   refine Wsk (Jn hK3 ?_)
   refine Wsq [0,3,4,5] fun K4 hK4=>?_
   refine Wbl (Wth ?_)
   obtain⟨r8,hr8,H⟩:=bE H
   refine Sm tok [] [0,3,4,5,6] (M2+7) (by
    intro K k
    have e0:=nQ w0 o1
    simp -dsimp -implicitDefEqProofs [e0,gs_W0]
    refine(c88 (W0:=W0.set r0_ [.fsl (eL rU8 s4.b),.int .i64 s4.p]) (r0_:=r0_) (H:=hr8) (by simp[e0,gs_W0]) (by simp[e0,gs_W0])).mono ?_;rintro _ _ ⟨M4,fM4_0,rfl,rfl⟩;simp only[hpN] at fM4_0
    try simp -dsimp -implicitDefEqProofs [e0,gs_W0,hoS,hoN]
    exact k M4 (by omega)) fun M4 fM4_0=>?_
   obtain⟨r9,hr9,H⟩:=bE H
   obtain⟨r10,hr10,H⟩:=bE H
   obtain⟨l11,hl11,H⟩:=bE H
   have q2:∀σ i,bsA T 27 true i 1 [(0,.agg [.int .i64 (iadd .i64 1 r8.1),.fsl (eL rI r10.1)])] σ=some (.fsl (eL rBox ([(⟨iadd .i64 1 r8.1,r10.1⟩:gBox)]:List gBox)),σ):=fun _ _=>rfl
   refine AWP_rt tok [9] [0,3,4,5] (fun a σ=>∃M5:Nat,∃M6:Nat,M4+12≤M5∧M5≤M6∧a=[(0,.ptr w0 r0_ 0),(3,.sl (M4+10) 0 l11.length),(4,.int .i64 v2),(5,.int .i64 s3)]∧σ=hp E0 [(w0,some ⟨127,2,W0.set r0_ [.fsl (eL rU8 r10.2.b),.int .i64 r10.2.p]⟩),(M4+10,some ⟨40,2,eL rBox l11⟩)] M6) (fun K hK=>?_) ?_
   ·skip
    have e0:=nQ w0 o1
    have e1:=nQ w0 (M4+10)
    have e2:=nQ o1 (M4+10)
    simp -dsimp -implicitDefEqProofs [e0,e1,e2,gs_W0,q2,app27 hl11]
    refine(c88 (W0:=W0.set r0_ [.fsl (eL rU8 r8.2.b),.int .i64 r8.2.p]) (r0_:=r0_) (H:=hr9) (by simp[e0,e1,e2,gs_W0,q2,app27 hl11]) (by simp[e0,e1,e2,gs_W0,q2,app27 hl11])).mono ?_;rintro _ _ ⟨M5,fM5_0,rfl,rfl⟩;simp only[hpN] at fM5_0
    try simp -dsimp -implicitDefEqProofs [e0,e1,e2,gs_W0,q2,app27 hl11,hoS,hoN]
    refine(c114 (W0:=W0.set r0_ [.fsl (eL rU8 r9.2.b),.int .i64 r9.2.p]) (r0_:=r0_) (H:=hr10) (by simp[e0,e1,e2,gs_W0,q2,app27 hl11,hoS,hoN]) (by simp[e0,e1,e2,gs_W0,q2,app27 hl11,hoS,hoN])).mono ?_;rintro _ _ ⟨M6,fM6_0,rfl,rfl⟩;simp only[hpN] at fM6_0
    try simp -dsimp -implicitDefEqProofs [e0,e1,e2,gs_W0,q2,app27 hl11,hoS,hoN]
    exact hK _ _ ⟨M5,M6,(by omega),(by omega),rfl,rfl⟩
   rintro a σ ⟨M5,M6,fM5_0,fM6_0,ha,rfl⟩
   refine hK4 _ _ ?_;rw[ha]
   refine Rc.mk ?_
   refine Rt tok [] [0,3,4,5] (by
    intro K k
    have e0:=nQ w0 (M4+10)
    simp -dsimp -implicitDefEqProofs [e0,gs_W0]
    exact k) fun a ha=>?_
   obtain rfl:=oi H
   refine hK2 _ _ _ rfl ?_;rw[ha]
   exact Rf ⟨M6+3,(M4+10),(by omega),(by omega),(by omega),rfl,rfl⟩
  obtain rfl:=oi (ifF C1 H)
  refine zM (hO2 _ _ _ _ rfl ⟨rfl,?_⟩)
  refine Rc.rw (l:=[0,3]) (X:=[(0,.ptr w0 r0_ 0),(3,.sl o1 0 s5.length)]) rfl ?_
  exact Rf ⟨M2+3,o1,(by omega),(by omega),(by omega),rfl,rfl⟩
 intro x a σ hx
 obtain⟨y6,y7⟩:=e1
 obtain⟨rfl,b,τ,hr,M3,o2,fM3_0,fM3_1,fM3_2,rfl,rfl⟩:=hx
 (try dsimp only at H)
 show K1 _ _
 refine hK1 _ _ (zL hr ?_)
 refine Rc.mk ?_
 refine Wsq [3] fun K5 hK5=>?_
 obtain⟨r12,hr12,H⟩:=bE H
 refine Sm tok [] [3,33] (M3+2) (by
  intro K k
  have e0:=nQ w0 o2
  simp -dsimp -implicitDefEqProofs [e0,gs_W0]
  refine(c88 (W0:=W0.set r0_ [.fsl (eL rU8 y6.b),.int .i64 y6.p]) (r0_:=r0_) (H:=hr12) (by simp[e0,gs_W0]) (by simp[e0,gs_W0])).mono ?_;rintro _ _ ⟨M7,fM7_0,rfl,rfl⟩;simp only[hpN] at fM7_0
  try simp -dsimp -implicitDefEqProofs [e0,gs_W0,hoS,hoN]
  exact k M7 (by omega)) fun M7 fM7_0=>?_
 refine Wbl (Wth ?_)
 refine Sx tok [] [3,33,34] (by
  intro K k
  have e0:=nQ w0 o2
  simp -dsimp -implicitDefEqProofs [e0,gs_W0]
  exact k) ?_
 refine Cd (fun C2=>?_) fun C2=>?_
 ·replace H:=ifT C2 H
  obtain⟨v13,hv13,H⟩:=bE H
  obtain⟨l14,hl14,H⟩:=bE H
  refine Rt tok [] [3] (by
   intro K k
   have e0:=nQ w0 o2
   simp -dsimp -implicitDefEqProofs [e0,gs_W0,ixo27 hv13,(show _[0]? =some v13 from(zE hv13).2.2),(show List.set _ 0 _=l14 from(setx_iff.1 hl14).2.symm)]
   exact k) fun a ha=>?_
  (try rw[← zD hl14] at ha);(try rw[← zD hl14])
  refine hK5 _ _ ?_;rw[ha]
  refine Rc.mk ?_
  refine Sx tok [] [2] (by
   intro K k
   have e0:=nQ w0 o2
   simp -dsimp -implicitDefEqProofs [e0,gs_W0]
   exact k) ?_
  obtain rfl:=oi H
  refine Kp [2] ?_
  have z0:=nQ w0 o2
  refine gFrz Wre 4 [o2] [(w0,some ⟨127,2,W0.set r0_ [.fsl (eL rU8 r12.2.b),.int .i64 r12.2.p]⟩)] [(2,.fsl (eL rBox l14))] (by simp[z0]) (cutD (by simp[z0])) ?_
  refine Wr ?_
  refine⟨[.fsl (eL rBox l14)],by simp[gs_W0],M7+8,by omega,?_,?_⟩
  ·simp[eN]
  first|rfl|simp
 replace H:=ifF C2 H
 refine Sx tok [] [3,39] (by
  intro K k
  have e0:=nQ w0 o2
  simp -dsimp -implicitDefEqProofs [e0,gs_W0]
  exact k) ?_
 refine Cd (fun C3=>?_) fun C3=>?_
 ·replace H:=ifT C3 H
  obtain⟨v15,hv15,H⟩:=bE H
  obtain⟨l16,hl16,H⟩:=bE H
  have q3:∀σ i,bsA T 27 true i 3 [(0,.agg [.int .i64 v15.Room,.fsl (eL rI v15.Items)]),(1,.agg [.int .i64 v15.Room,.fsl (eL rI v15.Items)]),(2,.agg [.int .i64 v15.Room,.fsl (eL rI v15.Items)])] σ=some (.fsl (eL rBox ([v15,v15,v15]:List gBox)),σ):=fun _ _=>rfl
  refine AWP_rd tok tokM [10] [2,3,5,6,8,9,11] [0,1,4,7,2,3,5,6,8,9,10,11,12] [3] (fun a σ=>a=[(3,.sl (M7+15) 0 l16.length)]∧σ=hp E0 [(w0,some ⟨127,2,W0.set r0_ [.fsl (eL rU8 r12.2.b),.int .i64 r12.2.p]⟩),(M7+15,some ⟨40,2,eL rBox l16⟩)] (M7+17)) (by decide) (fun K hK=>?_) ?_
  ·simp only[pickL,zH,zJ]
   have e0:=nQ w0 o2
   have e1:=nQ w0 (M7+15)
   have e2:=nQ o2 (M7+15)
   simp -dsimp -implicitDefEqProofs [e0,e1,e2,gs_W0,ixo27 hv15,(show _[0]? =some v15 from(zE hv15).2.2),q3,app27 hl16]
   exact hK _ _ ⟨rfl,rfl⟩
  rintro a σ ⟨ha,rfl⟩
  refine hK5 _ _ ?_;rw[ha]
  have z1:=nQ w0 (M7+15)
  refine gFrz zL 4 [M7+15] [(w0,some ⟨127,2,W0.set r0_ [.fsl (eL rU8 r12.2.b),.int .i64 r12.2.p]⟩)] [(3,.fsl (eL rBox l16))] (by simp[z1]) (cutD (by simp[z1])) ?_
  refine Rc.mk ?_
  refine Sx tok [] [2] (by intro K k;simp -dsimp -implicitDefEqProofs [gs_W0];exact k) ?_
  obtain rfl:=oi H
  refine Kp [2] ?_
  refine Wr ?_
  refine⟨[.fsl (eL rBox l16)],by simp[gs_W0],M7+19,by omega,?_,?_⟩
  ·simp[eN]
  first|rfl|simp
 replace H:=ifF C3 H
 refine Wsk (Jn hK5 ?_)
 refine Sx tok [] [2] (by
  intro K k
  have e0:=nQ w0 o2
  simp -dsimp -implicitDefEqProofs [e0,gs_W0]
  exact k) ?_
 obtain rfl:=oi H
 refine Kp [2] ?_
 have z2:=nQ w0 o2
 refine gFrz Wre 4 [o2] [(w0,some ⟨127,2,W0.set r0_ [.fsl (eL rU8 r12.2.b),.int .i64 r12.2.p]⟩)] [(2,.fsl (eL rBox y7))] (by simp[z2]) (cutD (by simp[z2])) ?_
 refine Wr ?_
 refine⟨[.fsl (eL rBox y7)],by simp[gs_W0],M7+6,by omega,?_,?_⟩
 ·simp[eN]
 first|rfl|simp
end Go.Proofs.YtdnkfkfjaaedpaaGreat
