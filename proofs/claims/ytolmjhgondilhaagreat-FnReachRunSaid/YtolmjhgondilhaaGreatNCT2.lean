/- The contracts of functions of the program (CT2): each computes what its mirror computes. No conditions. -/
import Derived.Test.YtolmjhgondilhaaGreatNCT1
set_option linter.unusedSimpArgs false
set_option linter.unusedVariables false
set_option maxRecDepth 20000
set_option maxHeartbeats 4000000
namespace Go.Proofs.YtolmjhgondilhaaGreat
open Go Go.Abs Go.RowKit

theorem c154 {p0:gQuad}{p1:List Int}{r:gQuad}(H:hZ p0 p1=some r):APure Tryz.prog G 154 [.agg [.int .i64 p0.Op,.int .i64 p0.Dst,.int .i64 p0.A,.int .i64 p0.B,.int .i64 p0.N],.fsl (eL rI p1)] (.agg [.int .i64 r.Op,.int .i64 r.Dst,.int .i64 r.A,.int .i64 r.B,.int .i64 r.N]):=by
 refine zE (fun N0=>?_) (by simp)
 refine fnK tok Tryz.func154 Tryz.ntmps154 Tryz.results154 ?_
 simp only[argsA,Nat.reduceAdd,hpN]
 unfold hZ at H
 refine S0 tok [] [1,2,4] ?_
 refine Wsq [2,4] fun K1 hK1=>?_
 refine S0 tok [] [1,2,4,6] ?_
 refine Wbl (Wth ?_)
 obtain⟨j1,hj1,H⟩:=bE H
 refine kR (kQ fun K2 hK2=>?_)
 have hJ1:∀a σ,Rc G 33 N0 (fun a σ=>∃M1:Nat,N0≤M1∧N0<M1∧N0+1<M1∧a=[(1,.fsl (eL rI p1)),(2,.ptr N0 0 0),(4,.ptr (N0+1) 0 0),(6,.int .i64 p0.Op),(7,.bool j1)]∧σ=hp E0 [(N0,some ⟨36,5,[[.int .i64 p0.Op,.int .i64 p0.Dst,.int .i64 p0.A,.int .i64 p0.B,.int .i64 p0.N]]⟩),(N0+1,some ⟨36,5,[[.int .i64 0,.int .i64 0,.int .i64 0,.int .i64 0,.int .i64 0]]⟩)] M1) (a.keep [1,2,4,6,7]) σ→K2 a σ:=by
  rintro a σ ⟨b,τ,hr,M1,fM1_0,fM1_1,fM1_2,rfl,rfl⟩
  refine hK2 _ _ (kI [1,2,4,6,7] (Wre hr ?_))
  refine Ci H (fun H=>?_) fun H=>?_
  ·obtain⟨v2,hv2,H⟩:=bE H
   refine Rt tok [] [2,4] (by intro K k;simp -dsimp -implicitDefEqProofs [ix23 hv2];exact k) fun a ha=>?_
   refine hK1 _ _ ?_;rw[ha]
   refine Rc.mk ?_
   refine S0 tok [] [4] ?_
   obtain rfl:=oi H
   refine Kp [4] ?_
   refine Wr ?_
   exact⟨[.agg [.int .i64 p0.Op,.int .i64 p0.Dst,.int .i64 v2,.int .i64 p0.B,.int .i64 p0.N]],by simp,4,by simp[eN]⟩
  refine S0 tok [] [1,2,4,18] ?_
  refine Ci H (fun H=>?_) fun H=>?_
  ·obtain⟨v3,hv3,H⟩:=bE H
   refine Sx tok [] [1,2,4] (by intro K k;simp -dsimp -implicitDefEqProofs [ix23 hv3];exact k) ?_
   obtain⟨v4,hv4,H⟩:=bE H
   refine Rt tok [] [2,4] (by intro K k;simp -dsimp -implicitDefEqProofs [ix23 hv4];exact k) fun a ha=>?_
   refine hK1 _ _ ?_;rw[ha]
   refine Rc.mk ?_
   refine S0 tok [] [4] ?_
   obtain rfl:=oi H
   refine Kp [4] ?_
   refine Wr ?_
   exact⟨[.agg [.int .i64 p0.Op,.int .i64 p0.Dst,.int .i64 v3,.int .i64 v4,.int .i64 p0.N]],by simp,4,by simp[eN]⟩
  refine Wsk (Jn hK1 ?_)
  refine S0 tok [] [4] ?_
  obtain rfl:=oi H
  refine Kp [4] ?_
  refine Wr ?_
  exact⟨[.agg [.int .i64 p0.Op,.int .i64 p0.Dst,.int .i64 p0.A,.int .i64 p0.B,.int .i64 p0.N]],by simp,4,by simp[eN]⟩
 replace H:=hj1
 refine S0 tok [] [1,2,4,6,7] ?_
 refine Ci H (fun H=>?_) fun H=>?_
 ·refine Wsk ?_
  show K2 _ _
  refine kE [1,2,4,6,7] fun a' ha=>?_
  obtain rfl:=oi H
  refine hJ1 _ _ ?_;rw[ha]
  exact Rf ⟨N0+6,(by omega),(by omega),(by omega),rfl,rfl⟩
 refine S0 tok [] [1,2,4,6,7] ?_
 refine Ci H (fun H=>?_) fun H=>?_
 ·refine Wsk ?_
  show K2 _ _
  refine kE [1,2,4,6,7] fun a' ha=>?_
  obtain rfl:=oi H
  refine hJ1 _ _ ?_;rw[ha]
  exact Rf ⟨N0+8,(by omega),(by omega),(by omega),rfl,rfl⟩
 refine S0 tok [] [1,2,4,6,7] ?_
 refine Ci H (fun H=>?_) fun H=>?_
 ·refine Wsk ?_
  show K2 _ _
  refine kE [1,2,4,6,7] fun a' ha=>?_
  obtain rfl:=oi H
  refine hJ1 _ _ ?_;rw[ha]
  exact Rf ⟨N0+10,(by omega),(by omega),(by omega),rfl,rfl⟩
 refine Rt0 tok [] [1,2,4,6,7] fun a ha=>?_
 obtain rfl:=oi H
 refine hJ1 _ _ ?_;rw[ha]
 exact Rf ⟨N0+12,(by omega),(by omega),(by omega),rfl,rfl⟩

theorem c131 {p0:List gQuad}{r:(List gQuad)×Bool}(H:qQ p0=some r):APure Tryz.prog G 131 [.fsl (eL rQuad p0)] (.tup [.fsl (eL rQuad r.1),.bool r.2]):=by
 refine zE (fun N0=>?_) (by simp)
 refine fnK tok Tryz.func131 Tryz.ntmps131 Tryz.results131 ?_
 simp only[argsA,Nat.reduceAdd,hpN]
 unfold qQ at H
 refine S0 tok [] [0] ?_
 have q0:∀σ i,bsA T 34 true i 0 [] σ=some (.esl,σ):=fun _ _=>rfl
 refine Sx tok [0] [0,4] (by intro K k;simp -dsimp -implicitDefEqProofs [q0];exact k) ?_
 refine Wsq [0,4] fun K1 hK1=>?_
 obtain⟨r1,hr1,H⟩:=bE H
 refine Sx tok [] [0,4,10] (by intro K k;(repeat first|simp -dsimp -implicitDefEqProofs|refine(c103 hr1).app ?_);exact k) ?_
 refine Ci H (fun H=>?_) fun H=>?_
 ·refine S0 tok [] [2,3] ?_
  obtain rfl:=oi H;exact Wr ⟨_,rfl,4,by simp[eN]⟩
 refine Wsk (Jn hK1 ?_)
 obtain⟨r2,hr2,H⟩:=bE H
 refine Sx tok [] [0,4,5] (by intro K k;(repeat first|simp -dsimp -implicitDefEqProofs|refine(c153 hr2).app ?_);exact k) ?_
 refine Wsq [4] fun K2 hK2=>?_
 refine S0 tok [] [0,4,5,6] ?_
 refine Wbl (Wth ?_)
 obtain⟨e1,hse1,H⟩:=bE H
 refine zS [0,4,5,6] (fun s a σ=>∃M1 o1:Nat,N0≤M1∧N0≤o1∧o1<M1∧a=[(0,.fsl (eL rQuad p0)),(4,.sl o1 0 s.2.length),(5,.fsl (eL rL_I r2)),(6,.int .i64 s.1)]∧σ=hp E0 [(o1,some ⟨36,5,eL rQuad s.2⟩)] M1) (fun s x a σ=>x=.exit 0∧Rc G 33 N0 (fun a σ=>∃M2 o2:Nat,N0≤M2∧N0≤o2∧o2<M2∧a=[(4,.sl o2 0 s.length)]∧σ=hp E0 [(o2,some ⟨36,5,eL rQuad s⟩)] M2) (AAct.keep a [4]) σ) hse1 ?_ ?_ ?_
 ·refine Rc.kp [0,4,5,6] [(0,.fsl (eL rQuad p0)),(4,.esl),(5,.fsl (eL rL_I r2)),(6,.int .i64 0)] rfl ?_
  refine gNilS zK 4 36 5 [(N0+11,some ⟨36,5,eL rQuad ([]:List gQuad)⟩)] [(0,.fsl (eL rQuad p0)),(4,.sl (N0+11) 0 ([]:List gQuad).length),(5,.fsl (eL rL_I r2)),(6,.int .i64 0)] (by simp(disch:=omega)) (by simp(disch:=omega) [eN]) [0,4,5,6] rfl ?_
  exact Rf ⟨N0+12,(N0+11),(by omega),(by omega),(by omega),rfl,rfl⟩
 ·clear H hse1
  rintro⟨s3,s4⟩ fl a σ H ⟨M1,o1,fM1_0,fM1_1,fM1_2,rfl,rfl⟩ K3 O3 hK3 hO3
  unfold uU at H;dsimp only at H
  refine Wsq [0,4,5,6] fun K4 hK4=>?_
  refine S0 tok [] [0,4,5,6,17] ?_
  refine Ci H (fun H=>?_) fun H=>?_
  ·refine Wsk (Jn hK4 ?_)
   refine Wsq [0,4,5,6] fun K5 hK5=>?_
   refine Wbl (Wth ?_)
   obtain⟨v6,hv6,H⟩:=bE H
   obtain⟨v7,hv7,H⟩:=bE H
   obtain⟨r8,hr8,H⟩:=bE H
   obtain⟨l9,hl9,H⟩:=bE H
   have q1:∀σ i,bsA T 34 true i 1 [(0,.agg [.int .i64 r8.Op,.int .i64 r8.Dst,.int .i64 r8.A,.int .i64 r8.B,.int .i64 r8.N])] σ=some (.fsl (eL rQuad ([r8]:List gQuad)),σ):=fun _ _=>rfl
   refine mQ tok tokM [10] [11] [0,1,2,3,4,5,6,7,8,9,10,11,12] [0,4,5,6] (fun a σ=>a=[(0,.fsl (eL rQuad p0)),(4,.sl (M1+15) 0 l9.length),(5,.fsl (eL rL_I r2)),(6,.int .i64 s3)]∧σ=hp E0 [(M1+15,some ⟨36,5,eL rQuad l9⟩)] (M1+17)) (by decide) (fun K hK=>?_) ?_
   ·simp only[pickL,zO,zQ]
    have e0:=nQ o1 (M1+15)
    simp -dsimp -implicitDefEqProofs [e0,ix34 hv6,ix86 hv7,q1,app34 hl9]
    refine Pc.mk (c154 hr8) ?_;try simp -dsimp -implicitDefEqProofs [e0,ix34 hv6,ix86 hv7,q1,app34 hl9]
    exact hK _ _ ⟨rfl,rfl⟩
   rintro a σ ⟨ha,rfl⟩
   refine hK5 _ _ ?_;rw[ha]
   refine Rc.mk ?_
   refine Rt0 tok [] [0,4,5,6] fun a ha=>?_
   obtain rfl:=oi H
   refine hK3 _ _ _ rfl ?_;rw[ha]
   exact Rf ⟨M1+20,(M1+15),(by omega),(by omega),(by omega),rfl,rfl⟩
  obtain rfl:=oi H
  refine zJ (hO3 _ _ _ _ rfl ⟨rfl,?_⟩)
  refine Rc.rw (l:=[4]) (X:=[(4,.sl o1 0 s4.length)]) rfl ?_
  exact Rf ⟨M1+4,o1,(by omega),(by omega),(by omega),rfl,rfl⟩
 intro x a σ hx
 obtain⟨y5,rfl⟩:∃x,x=e1:=⟨_,rfl⟩
 obtain⟨rfl,b,τ,hr,M2,o2,fM2_0,fM2_1,fM2_2,rfl,rfl⟩:=hx
 (try dsimp only at H)
 show K2 _ _
 refine hK2 _ _ (zK hr ?_)
 refine Rc.mk ?_
 refine S0 tok [] [2,3] ?_
 obtain rfl:=oi H;exact Wr ⟨_,rfl,4,by simp[eN]⟩

theorem c155 {p0:List gQuad}{p1:Int}{r:Int}(H:tK p0 p1=some r):APure Tryz.prog G 155 [.fsl (eL rQuad p0),.int .i64 p1] (.int .i64 r):=by
 refine zE (fun N0=>?_) (by simp)
 refine fnK tok Tryz.func155 Tryz.ntmps155 Tryz.results155 ?_
 simp only[argsA,Nat.reduceAdd,hpN]
 unfold tK at H
 refine S0 tok [] [0,1] ?_
 refine S0 tok [] [0,1,5] ?_
 refine Wsq [1] fun K1 hK1=>?_
 refine S0 tok [] [0,1,5,6] ?_
 refine Wbl (Wth ?_)
 obtain⟨e1,hse1,H⟩:=bE H
 refine zS [0,1,5,6] (fun s a σ=>∃M1:Nat,N0≤M1∧a=[(0,.fsl (eL rQuad p0)),(1,.int .i64 p1),(5,.int .i64 s.1),(6,.int .i64 s.2)]∧σ=hp E0 [] M1) (fun e x a σ=>match e with|.inl s=>x=.exit 0∧Rc G 27 N0 (fun a σ=>∃M2:Nat,N0≤M2∧a=[(1,.int .i64 p1)]∧σ=hp E0 [] M2) (AAct.keep a [1]) σ|.inr s=>x=.ret∧∃vs,resA T σ a [.tmp 4]=some vs∧∃d,thawA (fun _=>true) σ d (tupA vs)=.int .i64 s) hse1 ?_ ?_ ?_
 ·refine Rc.kp [0,1,5,6] [(0,.fsl (eL rQuad p0)),(1,.int .i64 p1),(5,.int .i64 p1),(6,.int .i64 0)] rfl ?_
  exact Rf ⟨N0+4,(by omega),rfl,rfl⟩
 ·clear H hse1
  rintro⟨s1,s2⟩ fl a σ H ⟨M1,fM1_0,rfl,rfl⟩ K2 O2 hK2 hO2
  unfold sM at H;dsimp only at H
  refine Wsq [0,1,5,6] fun K3 hK3=>?_
  refine S0 tok [] [0,1,5,6,11] ?_
  refine Ci H (fun H=>?_) fun H=>?_
  ·refine Wsk (Jn hK3 ?_)
   refine Wsq [0,1,5,6] fun K4 hK4=>?_
   refine Wbl (Wth ?_)
   refine Wsq [0,1,5,6] fun K5 hK5=>?_
   obtain⟨v3,hv3,H⟩:=bE H
   refine Sx tok [] [0,1,5,6,19] (by intro K k;simp -dsimp -implicitDefEqProofs [ix34 hv3];exact k) ?_
   refine Ci H (fun H=>?_) fun H=>?_
   ·refine S0 tok [] [4] ?_
    obtain rfl:=oi H
    refine Kp [4] ?_
    refine Wr (hO2 _ _ _ _ rfl ⟨rfl,?_⟩)
    exact⟨[.int .i64 s1],by simp,4,by simp[eN]⟩
   refine Wsk (Jn hK5 ?_)
   refine Rt tok [] [0,1,5,6] (by intro K k;simp -dsimp -implicitDefEqProofs [ix34 hv3];exact k) fun a ha=>?_
   refine hK4 _ _ ?_;rw[ha]
   refine Rc.mk ?_
   refine Rt0 tok [] [0,1,5,6] fun a ha=>?_
   obtain rfl:=oi H
   refine hK2 _ _ _ rfl ?_;rw[ha]
   exact Rf ⟨M1+19,(by omega),rfl,rfl⟩
  obtain rfl:=oi H
  refine zJ (hO2 _ _ _ _ rfl ⟨rfl,?_⟩)
  refine Rc.rw (l:=[1]) (X:=[(1,.int .i64 p1)]) rfl ?_
  exact Rf ⟨M1+4,(by omega),rfl,rfl⟩
 intro x a σ hx
 rcases e1 with⟨⟩|r0
 ·obtain⟨rfl,b,τ,hr,M2,fM2_0,rfl,rfl⟩:=hx
  (try dsimp only at H)
  show K1 _ _
  refine hK1 _ _ (zK hr ?_)
  refine Rc.mk ?_
  refine S0 tok [] [4] ?_
  obtain rfl:=oi H;exact Wr ⟨_,rfl,4,by simp[eN]⟩
 obtain⟨rfl,hx2⟩:=hx
 (try dsimp only at H)
 obtain rfl:=oi H;first|exact hx2|(simp only[List.set_set] at hx2 ⊢;exact hx2)

theorem c132 {p0:List gQuad}{r:(List gQuad)×Bool}(H:qL p0=some r):APure Tryz.prog G 132 [.fsl (eL rQuad p0)] (.tup [.fsl (eL rQuad r.1),.bool r.2]):=by
 refine zE (fun N0=>?_) (by simp)
 refine fnK tok Tryz.func132 Tryz.ntmps132 Tryz.results132 ?_
 simp only[argsA,Nat.reduceAdd,hpN]
 unfold qL at H
 refine S0 tok [] [0] ?_
 have q0:∀σ i,bsA T 34 true i 0 [] σ=some (.esl,σ):=fun _ _=>rfl
 refine Sx tok [0] [0,4] (by intro K k;simp -dsimp -implicitDefEqProofs [q0];exact k) ?_
 refine Wsq [0,4] fun K1 hK1=>?_
 obtain⟨r1,hr1,H⟩:=bE H
 refine Sx tok [] [0,4,10] (by intro K k;(repeat first|simp -dsimp -implicitDefEqProofs|refine(c103 hr1).app ?_);exact k) ?_
 refine Ci H (fun H=>?_) fun H=>?_
 ·refine S0 tok [] [2,3] ?_
  obtain rfl:=oi H;exact Wr ⟨_,rfl,4,by simp[eN]⟩
 refine Wsk (Jn hK1 ?_)
 refine Wsq [4] fun K2 hK2=>?_
 refine S0 tok [] [0,4,5] ?_
 refine Wbl (Wth ?_)
 obtain⟨e2,hse2,H⟩:=bE H
 refine zS [0,4,5] (fun s a σ=>∃M1 o1:Nat,N0≤M1∧N0≤o1∧o1<M1∧a=[(0,.fsl (eL rQuad p0)),(4,.sl o1 0 s.2.length),(5,.int .i64 s.1)]∧σ=hp E0 [(o1,some ⟨36,5,eL rQuad s.2⟩)] M1) (fun s x a σ=>x=.exit 0∧Rc G 40 N0 (fun a σ=>∃M2 o2:Nat,N0≤M2∧N0≤o2∧o2<M2∧a=[(4,.sl o2 0 s.length)]∧σ=hp E0 [(o2,some ⟨36,5,eL rQuad s⟩)] M2) (AAct.keep a [4]) σ) hse2 ?_ ?_ ?_
 ·refine Rc.kp [0,4,5] [(0,.fsl (eL rQuad p0)),(4,.esl),(5,.int .i64 0)] rfl ?_
  refine gNilS zK 4 36 5 [(N0+8,some ⟨36,5,eL rQuad ([]:List gQuad)⟩)] [(0,.fsl (eL rQuad p0)),(4,.sl (N0+8) 0 ([]:List gQuad).length),(5,.int .i64 0)] (by simp(disch:=omega)) (by simp(disch:=omega) [eN]) [0,4,5] rfl ?_
  exact Rf ⟨N0+9,(N0+8),(by omega),(by omega),(by omega),rfl,rfl⟩
 ·clear H hse2
  rintro⟨s2,s3⟩ fl a σ H ⟨M1,o1,fM1_0,fM1_1,fM1_2,rfl,rfl⟩ K3 O3 hK3 hO3
  unfold uR at H;dsimp only at H
  refine Wsq [0,4,5] fun K4 hK4=>?_
  refine S0 tok [] [0,4,5,15] ?_
  refine Ci H (fun H=>?_) fun H=>?_
  ·refine Wsk (Jn hK4 ?_)
   refine Wsq [0,4,5] fun K5 hK5=>?_
   refine Wbl (Wth ?_)
   obtain⟨v5,hv5,H⟩:=bE H
   refine Sx tok [] [0,4,5,6] (by
    intro K k
    have e0:=nQ o1 (M1+8)
    simp -dsimp -implicitDefEqProofs [e0,ix34 hv5]
    exact k) ?_
   obtain⟨j1,hj1,H⟩:=bE H
   refine kR (kQ fun K6 hK6=>?_)
   have hJ1:∀a σ,Rc G 40 N0 (fun a σ=>∃M3:Nat,N0≤M3∧o1<M3∧M1+8<M3∧a=[(0,.fsl (eL rQuad p0)),(4,.sl o1 0 s3.length),(5,.int .i64 s2),(6,.ptr (M1+8) 0 0)]∧σ=hp E0 [(o1,some ⟨36,5,eL rQuad s3⟩),(M1+8,some ⟨36,5,[[.int .i64 j1.Op,.int .i64 j1.Dst,.int .i64 j1.A,.int .i64 j1.B,.int .i64 j1.N]]⟩)] M3) (a.keep [0,4,5,6]) σ→K6 a σ:=by
    rintro a σ ⟨b,τ,hr,M3,fM3_0,fM3_1,fM3_2,rfl,rfl⟩
    refine hK6 _ _ (kI [0,4,5,6] (Wre hr ?_))
    obtain⟨l7,hl7,H⟩:=bE H
    have q1:∀σ i,bsA T 34 true i 1 [(0,.agg [.int .i64 j1.Op,.int .i64 j1.Dst,.int .i64 j1.A,.int .i64 j1.B,.int .i64 j1.N])] σ=some (.fsl (eL rQuad ([j1]:List gQuad)),σ):=fun _ _=>rfl
    refine Rt tok [2] [0,4,5] (by
     intro K k
     have e0:=nQ o1 (M1+8)
     have e1:=nQ o1 (M3+3)
     have e2:=nQ (M1+8) (M3+3)
     have e3:=nQ (M1+5) M3
     simp -dsimp -implicitDefEqProofs [e0,e1,e2,e3,q1,app34 hl7]
     exact k) fun a ha=>?_
    refine hK5 _ _ ?_;rw[ha]
    refine Rc.mk ?_
    refine Rt tok [] [0,4,5] (by
     intro K k
     have e0:=nQ (M1+8) (M3+3)
     have e1:=nQ (M1+5) M3
     simp -dsimp -implicitDefEqProofs [e0,e1]
     exact k) fun a ha=>?_
    obtain rfl:=oi H
    refine hK3 _ _ _ rfl ?_;rw[ha]
    exact Rc.fin (AHeap.Sub.trans (zP (AHeap.Sub.refl _)) (zY rfl (by simp;try omega))) ⟨M3+8,(M3+3),(by omega),(by omega),(by omega),rfl,rfl⟩
   replace H:=hj1
   obtain⟨g8,hg8,H⟩:=bE H
   refine Sx tok [] [0,4,5,6,29] (X:=[(0,.fsl (eL rQuad p0)),(4,.sl o1 0 s3.length),(5,.int .i64 s2),(6,.ptr (M1+8) 0 0),(29,.bool g8)]) (Y:=hp E0 [(o1,some ⟨36,5,eL rQuad s3⟩),(M1+8,some ⟨36,5,[[.int .i64 v5.Op,.int .i64 v5.Dst,.int .i64 v5.A,.int .i64 v5.B,.int .i64 v5.N]]⟩)] (M1+18)) (by
    intro K k
    have e0:=nQ o1 (M1+8)
    simp -dsimp -implicitDefEqProofs [e0]
    cases hbg8:ieq v5.Op 4
    ·obtain rfl:=oi (ifF hbg8 hg8)
     try simp -dsimp -implicitDefEqProofs [e0,hbg8]
     exact k
    obtain rfl:=oi (ifT hbg8 hg8)
    try simp -dsimp -implicitDefEqProofs [e0,hbg8]
    exact k) ?_
   refine Ci H (fun H=>?_) fun H=>?_
   ·obtain⟨r9,hr9,H⟩:=bE H
    refine Rt tok [] [0,4,5,6] (by
     intro K k
     have e0:=nQ o1 (M1+8)
     repeat first|simp -dsimp -implicitDefEqProofs [e0]|refine(c155 hr9).app ?_
     exact k) fun a ha=>?_
    obtain rfl:=oi H
    refine hJ1 _ _ ?_;rw[ha]
    exact Rf ⟨M1+24,(by omega),(by omega),(by omega),rfl,rfl⟩
   refine Wsk ?_
   show K6 _ _
   refine kE [0,4,5,6] fun a' ha=>?_
   obtain rfl:=oi H
   refine hJ1 _ _ ?_;rw[ha]
   exact Rf ⟨M1+18,(by omega),(by omega),(by omega),rfl,rfl⟩
  obtain rfl:=oi H
  refine zJ (hO3 _ _ _ _ rfl ⟨rfl,?_⟩)
  refine Rc.rw (l:=[4]) (X:=[(4,.sl o1 0 s3.length)]) rfl ?_
  exact Rf ⟨M1+4,o1,(by omega),(by omega),(by omega),rfl,rfl⟩
 intro x a σ hx
 obtain⟨y4,rfl⟩:∃x,x=e2:=⟨_,rfl⟩
 obtain⟨rfl,b,τ,hr,M2,o2,fM2_0,fM2_1,fM2_2,rfl,rfl⟩:=hx
 (try dsimp only at H)
 show K2 _ _
 refine hK2 _ _ (zK hr ?_)
 refine Rc.mk ?_
 refine S0 tok [] [2,3] ?_
 obtain rfl:=oi H;exact Wr ⟨_,rfl,4,by simp[eN]⟩

theorem c158 {p0:List gQuad}{p1:(List (List Bool))}{p2:Int}{r:List Bool}(H:uZ p0 p1 p2=some r):APure Tryz.prog G 158 [.fsl (eL rQuad p0),.fsl (eL rL_B p1),.int .i64 p2] (.fsl (eL rB r)):=by
 refine zE (fun N0=>?_) (by simp)
 refine fnK tok Tryz.func158 Tryz.ntmps158 Tryz.results158 ?_
 simp only[argsA,Nat.reduceAdd,hpN]
 unfold uZ at H
 refine S0 tok [] [0,1,2] ?_
 obtain⟨l1,hl1,H⟩:=bE H
 refine Sx tok [] [0,1,2,7] (by intro K k;simp -dsimp -implicitDefEqProofs [mak39 hl1];exact k) ?_
 obtain⟨r2,hr2,H⟩:=bE H
 refine Sx tok [] [1,7,8] (by intro K k;(repeat first|simp -dsimp -implicitDefEqProofs|refine(c176 hr2).app ?_);exact k) ?_
 refine Wsq [7] fun K1 hK1=>?_
 refine S0 tok [] [1,7,8,9] ?_
 refine Wbl (Wth ?_)
 obtain⟨e2,hse2,H⟩:=bE H
 refine zS [1,7,8,9] (fun s a σ=>∃M1 o1:Nat,N0≤M1∧N0≤o1∧o1<M1∧a=[(1,.fsl (eL rL_B p1)),(7,.sl o1 0 s.2.length),(8,.fsl (eL rI r2)),(9,.int .i64 s.1)]∧σ=hp E0 [(o1,some ⟨4,1,eL rB s.2⟩)] M1) (fun s x a σ=>x=.exit 0∧Rc G 45 N0 (fun a σ=>∃M2 o2:Nat,N0≤M2∧N0≤o2∧o2<M2∧a=[(7,.sl o2 0 s.length)]∧σ=hp E0 [(o2,some ⟨4,1,eL rB s⟩)] M2) (AAct.keep a [7]) σ) hse2 ?_ ?_ ?_
 ·refine Rc.kp [1,7,8,9] [(1,.fsl (eL rL_B p1)),(7,.sl (N0+1) 0 l1.length),(8,.fsl (eL rI r2)),(9,.int .i64 0)] rfl ?_
  exact Rf ⟨N0+8,(N0+1),(by omega),(by omega),(by omega),rfl,rfl⟩
 ·clear H hse2
  rintro⟨s3,s4⟩ fl a σ H ⟨M1,o1,fM1_0,fM1_1,fM1_2,rfl,rfl⟩ K2 O2 hK2 hO2
  unfold xL at H;dsimp only at H
  refine Wsq [1,7,8,9] fun K3 hK3=>?_
  refine S0 tok [] [1,7,8,9,18] ?_
  refine Ci H (fun H=>?_) fun H=>?_
  ·refine Wsk (Jn hK3 ?_)
   refine Wsq [1,7,8,9] fun K4 hK4=>?_
   refine Wbl (Wth ?_)
   refine S0 tok [] [1,7,8,9,10] ?_
   refine Wbl (Wth ?_)
   obtain⟨e1,hse1,H⟩:=bE H
   refine zS [1,7,8,9,10] (fun s a σ=>∃M3 o3:Nat,N0≤M3∧N0≤o3∧o3<M3∧a=[(1,.fsl (eL rL_B p1)),(7,.sl o3 0 s.2.length),(8,.fsl (eL rI r2)),(9,.int .i64 s3),(10,.int .i64 s.1)]∧σ=hp E0 [(o3,some ⟨4,1,eL rB s.2⟩)] M3) (fun s x a σ=>x=.exit 2∧Rc G 45 N0 (fun a σ=>∃M4 o4:Nat,N0≤M4∧N0≤o4∧o4<M4∧a=[(1,.fsl (eL rL_B p1)),(7,.sl o4 0 s.length),(8,.fsl (eL rI r2)),(9,.int .i64 s3)]∧σ=hp E0 [(o4,some ⟨4,1,eL rB s⟩)] M4) (AAct.keep a [1,7,8,9]) σ) hse1 ?_ ?_ ?_
   ·refine Rc.kp [1,7,8,9,10] [(1,.fsl (eL rL_B p1)),(7,.sl o1 0 s4.length),(8,.fsl (eL rI r2)),(9,.int .i64 s3),(10,.int .i64 0)] rfl ?_
    exact Rf ⟨M1+5,o1,(by omega),(by omega),(by omega),rfl,rfl⟩
   ·clear H hse1
    rintro⟨s6,s7⟩ fl a σ H ⟨M3,o3,fM3_0,fM3_1,fM3_2,rfl,rfl⟩ K5 O5 hK5 hO5
    unfold xK at H;dsimp only at H
    refine Wsq [1,7,8,9,10] fun K6 hK6=>?_
    refine S0 tok [] [1,7,8,9,10,22] ?_
    refine Ci H (fun H=>?_) fun H=>?_
    ·refine Wsk (Jn hK6 ?_)
     refine Wsq [1,7,8,9,10] fun K7 hK7=>?_
     refine Wbl (Wth ?_)
     obtain⟨v9,hv9,H⟩:=bE H
     obtain⟨g13,hg13,H⟩:=bE H
     obtain⟨l14,hl14,H⟩:=bE H
     refine gR tok [] [1,7,8,9,10] (fun a σ=>a=[(1,.fsl (eL rL_B p1)),(7,.sl o3 0 s7.length),(8,.fsl (eL rI r2)),(9,.int .i64 s3),(10,.int .i64 s6)]∧σ=hp E0 [(o3,some ⟨4,1,eL rB l14⟩)] (M3+22)) (fun K hK=>?_) ?_
     ·skip
      simp -dsimp -implicitDefEqProofs [ixo39 hv9,(zG hv9).2.2,(setx_iff.1 hl14).2.symm]
      cases hbg13:v9
      ·replace hg13:=ifF hbg13 hg13
       obtain⟨v10,hv10,hg13⟩:=bE hg13
       obtain⟨v11,hv11,hg13⟩:=bE hg13
       obtain⟨v12,hv12,hg13⟩:=bE hg13
       obtain rfl:=oi hg13
       try simp -dsimp -implicitDefEqProofs [ixo39 hv9,(zG hv9).2.2,(setx_iff.1 hl14).2.symm,hbg13,ix23 hv10,ix43 hv11,ix39 hv12]
       exact hK _ _ ⟨rfl,rfl⟩
      obtain rfl:=oi (ifT hbg13 hg13)
      try simp -dsimp -implicitDefEqProofs [ixo39 hv9,(zG hv9).2.2,(setx_iff.1 hl14).2.symm,hbg13]
      exact hK _ _ ⟨rfl,rfl⟩
     rintro a σ ⟨ha,rfl⟩
     (try rw[← zH hl14] at ha);(try rw[← zH hl14])
     refine hK7 _ _ ?_;rw[ha]
     refine Rc.mk ?_
     refine Rt0 tok [] [1,7,8,9,10] fun a ha=>?_
     obtain rfl:=oi H
     refine hK5 _ _ _ rfl ?_;rw[ha]
     exact Rf ⟨M3+25,o3,(by omega),(by omega),(by omega),rfl,rfl⟩
    obtain rfl:=oi H
    refine zJ (hO5 _ _ _ _ rfl ⟨rfl,?_⟩)
    refine Rc.rw (l:=[1,7,8,9]) (X:=[(1,.fsl (eL rL_B p1)),(7,.sl o3 0 s7.length),(8,.fsl (eL rI r2)),(9,.int .i64 s3)]) rfl ?_
    exact Rf ⟨M3+2,o3,(by omega),(by omega),(by omega),rfl,rfl⟩
   intro x a σ hx
   obtain⟨y8,rfl⟩:∃x,x=e1:=⟨_,rfl⟩
   obtain⟨rfl,b,τ,hr,M4,o4,fM4_0,fM4_1,fM4_2,rfl,rfl⟩:=hx
   (try dsimp only at H)
   show K4 _ _
   refine hK4 _ _ (zK hr ?_)
   refine Rc.mk ?_
   refine Rt0 tok [] [1,7,8,9] fun a ha=>?_
   obtain rfl:=oi H
   refine hK2 _ _ _ rfl ?_;rw[ha]
   exact Rf ⟨M4+3,o4,(by omega),(by omega),(by omega),rfl,rfl⟩
  obtain rfl:=oi H
  refine zJ (hO2 _ _ _ _ rfl ⟨rfl,?_⟩)
  refine Rc.rw (l:=[7]) (X:=[(7,.sl o1 0 s4.length)]) rfl ?_
  exact Rf ⟨M1+4,o1,(by omega),(by omega),(by omega),rfl,rfl⟩
 intro x a σ hx
 obtain⟨y5,rfl⟩:∃x,x=e2:=⟨_,rfl⟩
 obtain⟨rfl,b,τ,hr,M2,o2,fM2_0,fM2_1,fM2_2,rfl,rfl⟩:=hx
 (try dsimp only at H)
 show K1 _ _
 refine hK1 _ _ (zK hr ?_)
 refine Rc.mk ?_
 refine S0 tok [] [6] ?_
 obtain rfl:=oi H;exact Wr ⟨_,rfl,4,by simp[eN]⟩

theorem c192 {p0:gQuad}{r:List Int}(H:tA p0=some r):APure Tryz.prog G 192 [.agg [.int .i64 p0.Op,.int .i64 p0.Dst,.int .i64 p0.A,.int .i64 p0.B,.int .i64 p0.N]] (.fsl (eL rI r)):=by
 refine zE (fun N0=>?_) (by simp)
 refine fnK tok Tryz.func192 Tryz.ntmps192 Tryz.results192 ?_
 simp only[argsA,Nat.reduceAdd,hpN]
 unfold tA at H
 refine S0 tok [0] [1] ?_
 refine Wsq [1] fun K1 hK1=>?_
 obtain⟨r1,hr1,H⟩:=bE H
 refine Sx tok [] [1,5] (by intro K k;(repeat first|simp -dsimp -implicitDefEqProofs|refine(c119 hr1).app ?_);exact k) ?_
 refine Ci H (fun H=>?_) fun H=>?_
 ·have q0:∀σ i,bsA T 23 true i 0 [] σ=some (.esl,σ):=fun _ _=>rfl
  refine Sx tok [0] [2] (by intro K k;simp -dsimp -implicitDefEqProofs [q0];exact k) ?_
  obtain rfl:=oi H;exact Wr ⟨_,rfl,4,by simp[eN]⟩
 refine Wsk (Jn hK1 ?_)
 refine Wsq [] fun K2 hK2=>?_
 refine S0 tok [] [1,8] ?_
 refine Wbl (Wth ?_)
 obtain⟨j1,hj1,H⟩:=bE H
 refine kR (kQ fun K4 hK4=>?_)
 have hJ1:∀a σ,Rc G 39 N0 (fun a σ=>∃M1:Nat,N0≤M1∧a=[(1,.fptr [.int .i64 p0.Op,.int .i64 p0.Dst,.int .i64 p0.A,.int .i64 p0.B,.int .i64 p0.N] 0),(8,.int .i64 p0.Op),(9,.bool j1)]∧σ=hp E0 [] M1) (a.keep [1,8,9]) σ→K4 a σ:=by
  rintro a σ ⟨b,τ,hr,M1,fM1_0,rfl,rfl⟩
  refine hK4 _ _ (kI [1,8,9] (Wre hr ?_))
  refine Ci H (fun H=>?_) fun H=>?_
  ·have q1:∀σ i,bsA T 23 true i 1 [(0,.int .i64 p0.A)] σ=some (.fsl (eL rI ([p0.A]:List Int)),σ):=fun _ _=>rfl
   refine Sx tok [2] [2] (by intro K k;simp -dsimp -implicitDefEqProofs [q1];exact k) ?_
   obtain rfl:=oi H;exact Wr ⟨_,rfl,4,by simp[eN]⟩
  refine S0 tok [] [1,17] ?_
  refine Ci H (fun H=>?_) fun H=>?_
  ·refine Wsq [1] fun K3 hK3=>?_
   refine S0 tok [] [1,23] ?_
   refine Ci H (fun H=>?_) fun H=>?_
   ·have q2:∀σ i,bsA T 23 true i 1 [(0,.int .i64 p0.A)] σ=some (.fsl (eL rI ([p0.A]:List Int)),σ):=fun _ _=>rfl
    refine Sx tok [2] [2] (by intro K k;simp -dsimp -implicitDefEqProofs [q2];exact k) ?_
    obtain rfl:=oi H;exact Wr ⟨_,rfl,4,by simp[eN]⟩
   refine Wsk (Jn hK3 ?_)
   have q3:∀σ i,bsA T 23 true i 2 [(0,.int .i64 (imin p0.A p0.B)),(1,.int .i64 (imax p0.A p0.B))] σ=some (.fsl (eL rI ([imin p0.A p0.B,imax p0.A p0.B]:List Int)),σ):=fun _ _=>rfl
   refine Sx tok [10] [2] (by intro K k;simp -dsimp -implicitDefEqProofs [q3];exact k) ?_
   obtain rfl:=oi H;exact Wr ⟨_,rfl,4,by simp[eN]⟩
  refine Wsk (Jn hK2 ?_)
  have q4:∀σ i,bsA T 23 true i 0 [] σ=some (.esl,σ):=fun _ _=>rfl
  refine Sx tok [0] [2] (by intro K k;simp -dsimp -implicitDefEqProofs [q4];exact k) ?_
  obtain rfl:=oi H;exact Wr ⟨_,rfl,4,by simp[eN]⟩
 replace H:=hj1
 refine S0 tok [] [1,8,9] ?_
 refine Ci H (fun H=>?_) fun H=>?_
 ·refine Wsk ?_
  show K4 _ _
  refine kE [1,8,9] fun a' ha=>?_
  obtain rfl:=oi H
  refine hJ1 _ _ ?_;rw[ha]
  exact Rf ⟨N0+9,(by omega),rfl,rfl⟩
 refine S0 tok [] [1,8,9] ?_
 refine Ci H (fun H=>?_) fun H=>?_
 ·refine Wsk ?_
  show K4 _ _
  refine kE [1,8,9] fun a' ha=>?_
  obtain rfl:=oi H
  refine hJ1 _ _ ?_;rw[ha]
  exact Rf ⟨N0+11,(by omega),rfl,rfl⟩
 refine S0 tok [] [1,8,9] ?_
 refine Ci H (fun H=>?_) fun H=>?_
 ·refine Wsk ?_
  show K4 _ _
  refine kE [1,8,9] fun a' ha=>?_
  obtain rfl:=oi H
  refine hJ1 _ _ ?_;rw[ha]
  exact Rf ⟨N0+13,(by omega),rfl,rfl⟩
 refine Rt0 tok [] [1,8,9] fun a ha=>?_
 obtain rfl:=oi H
 refine hJ1 _ _ ?_;rw[ha]
 exact Rf ⟨N0+15,(by omega),rfl,rfl⟩

theorem c188 {p0:List Bool}{p1:List Bool}{r:Bool}(H:nZ p0 p1=some r):APure Tryz.prog G 188 [.fsl (eL rB p0),.fsl (eL rB p1)] (.bool r):=by
 refine zE (fun N0=>?_) (by simp)
 refine fnK tok Tryz.func188 Tryz.ntmps188 Tryz.results188 ?_
 simp only[argsA,Nat.reduceAdd,hpN]
 unfold nZ at H
 refine S0 tok [] [0,1] ?_
 refine Wsq [0,1] fun K1 hK1=>?_
 refine S0 tok [] [0,1,5] ?_
 refine Wbl (Wth ?_)
 obtain⟨e1,hse1,H⟩:=bE H
 refine zS [0,1,5] (fun s a σ=>∃M1:Nat,N0≤M1∧a=[(0,.fsl (eL rB p0)),(1,.fsl (eL rB p1)),(5,.int .i64 s)]∧σ=hp E0 [] M1) (fun e x a σ=>match e with|.inl s=>x=.exit 0∧Rc G 26 N0 (fun a σ=>∃M2:Nat,N0≤M2∧a=[(0,.fsl (eL rB p0)),(1,.fsl (eL rB p1))]∧σ=hp E0 [] M2) (AAct.keep a [0,1]) σ|.inr s=>x=.ret∧∃vs,resA T σ a [.tmp 4]=some vs∧∃d,thawA (fun _=>true) σ d (tupA vs)=.bool s) hse1 ?_ ?_ ?_
 ·refine Rc.kp [0,1,5] [(0,.fsl (eL rB p0)),(1,.fsl (eL rB p1)),(5,.int .i64 0)] rfl ?_
  exact Rf ⟨N0+2,(by omega),rfl,rfl⟩
 ·clear H hse1
  rintro s1 fl a σ H ⟨M1,fM1_0,rfl,rfl⟩ K2 O2 hK2 hO2
  unfold sE at H;dsimp only at H
  refine Wsq [0,1,5] fun K3 hK3=>?_
  refine S0 tok [] [0,1,5,9] ?_
  refine Ci H (fun H=>?_) fun H=>?_
  ·refine Wsk (Jn hK3 ?_)
   refine Wsq [0,1,5] fun K4 hK4=>?_
   refine Wbl (Wth ?_)
   obtain⟨v2,hv2,H⟩:=bE H
   obtain⟨v3,hv3,H⟩:=bE H
   refine Sd tok tokM [] [] [0,1,2,3,4,5,6,7,8] [0,1,5,20] (by
    intro K k
    simp only[pickL,zO,zQ]
    simp -dsimp -implicitDefEqProofs [ix39 hv2,ix39 hv3]
    exact k) ?_
   refine Ci H (fun H=>?_) fun H=>?_
   ·refine S0 tok [] [4] ?_
    obtain rfl:=oi H
    refine Kp [4] ?_
    refine Wr (hO2 _ _ _ _ rfl ⟨rfl,?_⟩)
    exact⟨[.bool false],by simp,4,by simp[eN]⟩
   refine Wsk (Jn hK4 ?_)
   refine Rt0 tok [] [0,1,5] fun a ha=>?_
   obtain rfl:=oi H
   refine hK2 _ _ _ rfl ?_;rw[ha]
   exact Rf ⟨M1+16,(by omega),rfl,rfl⟩
  obtain rfl:=oi H
  refine zJ (hO2 _ _ _ _ rfl ⟨rfl,?_⟩)
  refine Rc.rw (l:=[0,1]) (X:=[(0,.fsl (eL rB p0)),(1,.fsl (eL rB p1))]) rfl ?_
  exact Rf ⟨M1+4,(by omega),rfl,rfl⟩
 intro x a σ hx
 rcases e1 with⟨⟩|r0
 ·obtain⟨rfl,b,τ,hr,M2,fM2_0,rfl,rfl⟩:=hx
  (try dsimp only at H)
  show K1 _ _
  refine hK1 _ _ (zK hr ?_)
  refine Rc.mk ?_
  refine S0 tok [] [4] ?_
  obtain rfl:=oi H;exact Wr ⟨_,rfl,4,by simp[eN]⟩
 obtain⟨rfl,hx2⟩:=hx
 (try dsimp only at H)
 obtain rfl:=oi H;first|exact hx2|(simp only[List.set_set] at hx2 ⊢;exact hx2)

theorem c158_o {p0:List gQuad}{p1:(List (List Bool))}{p2:Int}{r:List Bool}(H:vV p0 p1 p2=some r){σ:AHeap}:ACalls Tryz.prog G 158 [.fsl (eL rQuad p0),.fsl (eL rL_B p1),.int .i64 p2] σ (fun v σ'=>∃M n0:Nat,σ.next≤M∧σ.next≤n0∧n0<M∧v=.sl n0 0 r.length∧σ'=hp σ.objs [(n0,some ⟨4,1,eL rB r⟩)] M):=by
 refine fr2 [] (by simp) (fun hlt=>?_) ⟨_,Tryz.func158,rfl,rfl⟩
 generalize σ.next=N0 at hlt ⊢
 refine fnK tok Tryz.func158 Tryz.ntmps158 Tryz.results158 ?_
 simp only[argsA,Nat.reduceAdd,hpN]
 unfold vV at H
 refine S0 tok [] [0,1,2] ?_
 obtain⟨l1,hl1,H⟩:=bE H
 refine Sx tok [] [0,1,2,7] (by intro K k;simp -dsimp -implicitDefEqProofs [mak39 hl1];exact k) ?_
 obtain⟨r2,hr2,H⟩:=bE H
 refine Sx tok [] [1,7,8] (by intro K k;(repeat first|simp -dsimp -implicitDefEqProofs|refine(c176 hr2).app ?_);exact k) ?_
 refine Wsq [7] fun K1 hK1=>?_
 refine S0 tok [] [1,7,8,9] ?_
 refine Wbl (Wth ?_)
 obtain⟨e2,hse2,H⟩:=bE H
 refine zS [1,7,8,9] (fun s a σ=>∃M1 o1:Nat,N0≤M1∧N0≤o1∧o1<M1∧a=[(1,.fsl (eL rL_B p1)),(7,.sl o1 0 s.2.length),(8,.fsl (eL rI r2)),(9,.int .i64 s.1)]∧σ=hp E0 [(o1,some ⟨4,1,eL rB s.2⟩)] M1) (fun s x a σ=>x=.exit 0∧Rc G 45 N0 (fun a σ=>∃M2 o2:Nat,N0≤M2∧N0≤o2∧o2<M2∧a=[(7,.sl o2 0 s.length)]∧σ=hp E0 [(o2,some ⟨4,1,eL rB s⟩)] M2) (AAct.keep a [7]) σ) hse2 ?_ ?_ ?_
 ·refine Rc.kp [1,7,8,9] [(1,.fsl (eL rL_B p1)),(7,.sl (N0+1) 0 l1.length),(8,.fsl (eL rI r2)),(9,.int .i64 0)] rfl ?_
  exact Rf ⟨N0+8,(N0+1),(by omega),(by omega),(by omega),rfl,rfl⟩
 ·clear H hse2
  rintro⟨s3,s4⟩ fl a σ H ⟨M1,o1,fM1_0,fM1_1,fM1_2,rfl,rfl⟩ K2 O2 hK2 hO2
  unfold oB at H;dsimp only at H
  refine Wsq [1,7,8,9] fun K3 hK3=>?_
  refine S0 tok [] [1,7,8,9,18] ?_
  refine Ci H (fun H=>?_) fun H=>?_
  ·refine Wsk (Jn hK3 ?_)
   refine Wsq [1,7,8,9] fun K4 hK4=>?_
   refine Wbl (Wth ?_)
   refine S0 tok [] [1,7,8,9,10] ?_
   refine Wbl (Wth ?_)
   obtain⟨e1,hse1,H⟩:=bE H
   refine zS [1,7,8,9,10] (fun s a σ=>∃M3 o3:Nat,N0≤M3∧N0≤o3∧o3<M3∧a=[(1,.fsl (eL rL_B p1)),(7,.sl o3 0 s.2.length),(8,.fsl (eL rI r2)),(9,.int .i64 s3),(10,.int .i64 s.1)]∧σ=hp E0 [(o3,some ⟨4,1,eL rB s.2⟩)] M3) (fun s x a σ=>x=.exit 2∧Rc G 45 N0 (fun a σ=>∃M4 o4:Nat,N0≤M4∧N0≤o4∧o4<M4∧a=[(1,.fsl (eL rL_B p1)),(7,.sl o4 0 s.length),(8,.fsl (eL rI r2)),(9,.int .i64 s3)]∧σ=hp E0 [(o4,some ⟨4,1,eL rB s⟩)] M4) (AAct.keep a [1,7,8,9]) σ) hse1 ?_ ?_ ?_
   ·refine Rc.kp [1,7,8,9,10] [(1,.fsl (eL rL_B p1)),(7,.sl o1 0 s4.length),(8,.fsl (eL rI r2)),(9,.int .i64 s3),(10,.int .i64 0)] rfl ?_
    exact Rf ⟨M1+5,o1,(by omega),(by omega),(by omega),rfl,rfl⟩
   ·clear H hse1
    rintro⟨s6,s7⟩ fl a σ H ⟨M3,o3,fM3_0,fM3_1,fM3_2,rfl,rfl⟩ K5 O5 hK5 hO5
    unfold oA at H;dsimp only at H
    refine Wsq [1,7,8,9,10] fun K6 hK6=>?_
    refine S0 tok [] [1,7,8,9,10,22] ?_
    refine Ci H (fun H=>?_) fun H=>?_
    ·refine Wsk (Jn hK6 ?_)
     refine Wsq [1,7,8,9,10] fun K7 hK7=>?_
     refine Wbl (Wth ?_)
     obtain⟨v9,hv9,H⟩:=bE H
     obtain⟨g13,hg13,H⟩:=bE H
     obtain⟨l14,hl14,H⟩:=bE H
     refine gR tok [] [1,7,8,9,10] (fun a σ=>a=[(1,.fsl (eL rL_B p1)),(7,.sl o3 0 s7.length),(8,.fsl (eL rI r2)),(9,.int .i64 s3),(10,.int .i64 s6)]∧σ=hp E0 [(o3,some ⟨4,1,eL rB l14⟩)] (M3+22)) (fun K hK=>?_) ?_
     ·skip
      simp -dsimp -implicitDefEqProofs [ixo39 hv9,(zG hv9).2.2,(setx_iff.1 hl14).2.symm]
      cases hbg13:v9
      ·replace hg13:=ifF hbg13 hg13
       obtain⟨v10,hv10,hg13⟩:=bE hg13
       obtain⟨v11,hv11,hg13⟩:=bE hg13
       obtain⟨v12,hv12,hg13⟩:=bE hg13
       obtain rfl:=oi hg13
       try simp -dsimp -implicitDefEqProofs [ixo39 hv9,(zG hv9).2.2,(setx_iff.1 hl14).2.symm,hbg13,ix23 hv10,ix43 hv11,ix39 hv12]
       exact hK _ _ ⟨rfl,rfl⟩
      obtain rfl:=oi (ifT hbg13 hg13)
      try simp -dsimp -implicitDefEqProofs [ixo39 hv9,(zG hv9).2.2,(setx_iff.1 hl14).2.symm,hbg13]
      exact hK _ _ ⟨rfl,rfl⟩
     rintro a σ ⟨ha,rfl⟩
     (try rw[← zH hl14] at ha);(try rw[← zH hl14])
     refine hK7 _ _ ?_;rw[ha]
     refine Rc.mk ?_
     refine Rt0 tok [] [1,7,8,9,10] fun a ha=>?_
     obtain rfl:=oi H
     refine hK5 _ _ _ rfl ?_;rw[ha]
     exact Rf ⟨M3+25,o3,(by omega),(by omega),(by omega),rfl,rfl⟩
    obtain rfl:=oi H
    refine zJ (hO5 _ _ _ _ rfl ⟨rfl,?_⟩)
    refine Rc.rw (l:=[1,7,8,9]) (X:=[(1,.fsl (eL rL_B p1)),(7,.sl o3 0 s7.length),(8,.fsl (eL rI r2)),(9,.int .i64 s3)]) rfl ?_
    exact Rf ⟨M3+2,o3,(by omega),(by omega),(by omega),rfl,rfl⟩
   intro x a σ hx
   obtain⟨y8,rfl⟩:∃x,x=e1:=⟨_,rfl⟩
   obtain⟨rfl,b,τ,hr,M4,o4,fM4_0,fM4_1,fM4_2,rfl,rfl⟩:=hx
   (try dsimp only at H)
   show K4 _ _
   refine hK4 _ _ (zK hr ?_)
   refine Rc.mk ?_
   refine Rt0 tok [] [1,7,8,9] fun a ha=>?_
   obtain rfl:=oi H
   refine hK2 _ _ _ rfl ?_;rw[ha]
   exact Rf ⟨M4+3,o4,(by omega),(by omega),(by omega),rfl,rfl⟩
  obtain rfl:=oi H
  refine zJ (hO2 _ _ _ _ rfl ⟨rfl,?_⟩)
  refine Rc.rw (l:=[7]) (X:=[(7,.sl o1 0 s4.length)]) rfl ?_
  exact Rf ⟨M1+4,o1,(by omega),(by omega),(by omega),rfl,rfl⟩
 intro x a σ hx
 obtain⟨y5,rfl⟩:∃x,x=e2:=⟨_,rfl⟩
 obtain⟨rfl,b,τ,hr,M2,o2,fM2_0,fM2_1,fM2_2,rfl,rfl⟩:=hx
 (try dsimp only at H)
 show K1 _ _
 refine hK1 _ _ (zK hr ?_)
 refine Rc.mk ?_
 refine S0 tok [] [6] ?_
 obtain rfl:=oi H
 refine Kp [6] ?_
 refine Wr ?_
 refine⟨[.sl o2 0 y5.length],by simp,M2+2,o2,by omega,by omega,by omega,?_,?_⟩
 ·simp[eN]
 first|rfl|simp

theorem c158_o_b {p0:List gQuad}{p1:(List (List Bool))}{p2:Int}{r:List Bool}(H:vV p0 p1 p2=some r){σ:AHeap}{args:List AV}(hy:args.map (thawA (fun _=>true) σ 8)=[.fsl (eL rQuad p0),.fsl (eL rL_B p1),.int .i64 p2]):ACalls Tryz.prog G 158 args σ (fun v σ'=>∃M n0:Nat,σ.next≤M∧σ.next≤n0∧n0<M∧v=.sl n0 0 r.length∧σ'=hp σ.objs [(n0,some ⟨4,1,eL rB r⟩)] M):=by
 refine borrowQ 8 8 (c158_o (σ:=⟨E0,σ.next⟩) H) hy ?_
 rintro _ _ ⟨M,n0,h0,h1,h2,rfl,rfl⟩
 refine⟨_,M,rfl,by simp[AV.rnf,AV.simp1],fun p hp ob ho=>?_,by simp,M,n0,h0,h1,h2,rfl,rfl⟩
 simp only[List.mem_cons,List.not_mem_nil,or_false] at hp
 rcases hp with rfl<;>(cases ho;first|exact encL_nf (fun x=>nf_rB 7 x) _|simp[AV.nf,AV.simp1])

theorem c187_o {p0:gQuad}{p1:List Bool}{r:List Bool}(H:xJ p0 p1=some r){σ:AHeap}:ACalls Tryz.prog G 187 [.agg [.int .i64 p0.Op,.int .i64 p0.Dst,.int .i64 p0.A,.int .i64 p0.B,.int .i64 p0.N],.fsl (eL rB p1)] σ (fun v σ'=>∃M n0:Nat,σ.next≤M∧σ.next≤n0∧n0<M∧v=.sl n0 0 r.length∧σ'=hp σ.objs [(n0,some ⟨4,1,eL rB r⟩)] M):=by
 refine fr2 [] (by simp) (fun hlt=>?_) ⟨_,Tryz.func187,rfl,rfl⟩
 generalize σ.next=N0 at hlt ⊢
 refine fnK tok Tryz.func187 Tryz.ntmps187 Tryz.results187 ?_
 simp only[argsA,Nat.reduceAdd,hpN]
 unfold xJ at H
 refine S0 tok [0] [1,2] ?_
 obtain⟨l1,hl1,H⟩:=bE H
 have q0:∀σ i,bsA T 39 true i 0 [] σ=some (.esl,σ):=fun _ _=>rfl
 refine Sx tok [0] [2,5] (by intro K k;simp -dsimp -implicitDefEqProofs [q0,appe39 hl1];exact k) ?_
 obtain⟨j1,hj1,H⟩:=bE H
 refine kR (kQ fun K5 hK5=>?_)
 have hJ1:∀a σ,Rc G 33 N0 (fun a σ=>∃M1:Nat,N0≤M1∧N0+4<M1∧a=[(2,.fptr [.int .i64 p0.Op,.int .i64 p0.Dst,.int .i64 p0.A,.int .i64 p0.B,.int .i64 p0.N] 0),(5,.sl (N0+4) 0 j1.length)]∧σ=hp E0 [(N0+4,some ⟨4,1,eL rB j1⟩)] M1) (a.keep [2,5]) σ→K5 a σ:=by
  rintro a σ ⟨b,τ,hr,M1,fM1_0,fM1_1,rfl,rfl⟩
  refine hK5 _ _ (kI [2,5] (Wre hr ?_))
  obtain⟨r3,hr3,H⟩:=bE H
  refine Sx tok [] [5,6] (by intro K k;(repeat first|simp -dsimp -implicitDefEqProofs|refine(c192 hr3).app ?_);exact k) ?_
  refine Wsq [5] fun K1 hK1=>?_
  refine S0 tok [] [5,6,7] ?_
  refine Wbl (Wth ?_)
  obtain⟨e2,hse2,H⟩:=bE H
  refine zS [5,6,7] (fun s a σ=>∃M2 o1:Nat,N0≤M2∧N0≤o1∧o1<M2∧a=[(5,.sl o1 0 s.2.length),(6,.fsl (eL rI r3)),(7,.int .i64 s.1)]∧σ=hp E0 [(o1,some ⟨4,1,eL rB s.2⟩)] M2) (fun s x a σ=>x=.exit 0∧Rc G 33 N0 (fun a σ=>∃M3 o2:Nat,N0≤M3∧N0≤o2∧o2<M3∧a=[(5,.sl o2 0 s.length)]∧σ=hp E0 [(o2,some ⟨4,1,eL rB s⟩)] M3) (AAct.keep a [5]) σ) hse2 ?_ ?_ ?_
  ·refine Rc.kp [5,6,7] [(5,.sl (N0+4) 0 j1.length),(6,.fsl (eL rI r3)),(7,.int .i64 0)] rfl ?_
   exact Rf ⟨M1+4,(N0+4),(by omega),(by omega),(by omega),rfl,rfl⟩
  ·clear H hse2
   rintro⟨s4,s5⟩ fl a σ H ⟨M2,o1,fM2_0,fM2_1,fM2_2,rfl,rfl⟩ K2 O2 hK2 hO2
   unfold nF at H;dsimp only at H
   refine Wsq [5,6,7] fun K3 hK3=>?_
   refine S0 tok [] [5,6,7,23] ?_
   refine Ci H (fun H=>?_) fun H=>?_
   ·refine Wsk (Jn hK3 ?_)
    refine Wsq [5,6,7] fun K4 hK4=>?_
    refine Wbl (Wth ?_)
    obtain⟨v7,hv7,H⟩:=bE H
    obtain⟨v8,hv8,H⟩:=bE H
    obtain⟨l9,hl9,H⟩:=bE H
    refine Rt tok [] [5,6,7] (by intro K k;simp -dsimp -implicitDefEqProofs [ix23 hv7,ixo39 hv8,(zG hv8).2.2,(setx_iff.1 hl9).2.symm];exact k) fun a ha=>?_
    (try rw[← zH hl9] at ha);(try rw[← zH hl9])
    refine hK4 _ _ ?_;rw[ha]
    refine Rc.mk ?_
    refine Rt0 tok [] [5,6,7] fun a ha=>?_
    obtain rfl:=oi H
    refine hK2 _ _ _ rfl ?_;rw[ha]
    exact Rf ⟨M2+14,o1,(by omega),(by omega),(by omega),rfl,rfl⟩
   obtain rfl:=oi H
   refine zJ (hO2 _ _ _ _ rfl ⟨rfl,?_⟩)
   refine Rc.rw (l:=[5]) (X:=[(5,.sl o1 0 s5.length)]) rfl ?_
   exact Rf ⟨M2+4,o1,(by omega),(by omega),(by omega),rfl,rfl⟩
  intro x a σ hx
  obtain⟨y6,rfl⟩:∃x,x=e2:=⟨_,rfl⟩
  obtain⟨rfl,b,τ,hr,M3,o2,fM3_0,fM3_1,fM3_2,rfl,rfl⟩:=hx
  (try dsimp only at H)
  show K1 _ _
  refine hK1 _ _ (zK hr ?_)
  refine Rc.mk ?_
  refine S0 tok [] [4] ?_
  obtain rfl:=oi H
  refine Kp [4] ?_
  refine Wr ?_
  refine⟨[.sl o2 0 y6.length],by simp,M3+2,o2,by omega,by omega,by omega,?_,?_⟩
  ·simp[eN]
  first|rfl|simp
 replace H:=hj1
 obtain⟨r10,hr10,H⟩:=bE H
 refine Sx tok [] [2,5,13] (by intro K k;(repeat first|simp -dsimp -implicitDefEqProofs|refine(c191 hr10).app ?_);exact k) ?_
 refine Ci H (fun H=>?_) fun H=>?_
 ·obtain⟨v11,hv11,H⟩:=bE H
  obtain⟨l12,hl12,H⟩:=bE H
  refine Rt tok [] [2,5] (by intro K k;(repeat first|simp -dsimp -implicitDefEqProofs [ixo39 hv11,(zG hv11).2.2,(setx_iff.1 hl12).2.symm]|refine(c191 hr10).app ?_);exact k) fun a ha=>?_
  (try rw[← zH hl12] at ha);(try rw[← zH hl12])
  obtain rfl:=oi H
  refine hJ1 _ _ ?_;rw[ha]
  exact Rf ⟨N0+14,(by omega),(by omega),rfl,rfl⟩
 refine Wsk ?_
 show K5 _ _
 refine kE [2,5] fun a' ha=>?_
 obtain rfl:=oi H
 refine hJ1 _ _ ?_;rw[ha]
 exact Rf ⟨N0+9,(by omega),(by omega),rfl,rfl⟩

theorem c187_o_b {p0:gQuad}{p1:List Bool}{r:List Bool}(H:xJ p0 p1=some r){σ:AHeap}{args:List AV}(hy:args.map (thawA (fun _=>true) σ 8)=[.agg [.int .i64 p0.Op,.int .i64 p0.Dst,.int .i64 p0.A,.int .i64 p0.B,.int .i64 p0.N],.fsl (eL rB p1)]):ACalls Tryz.prog G 187 args σ (fun v σ'=>∃M n0:Nat,σ.next≤M∧σ.next≤n0∧n0<M∧v=.sl n0 0 r.length∧σ'=hp σ.objs [(n0,some ⟨4,1,eL rB r⟩)] M):=by
 refine borrowQ 8 8 (c187_o (σ:=⟨E0,σ.next⟩) H) hy ?_
 rintro _ _ ⟨M,n0,h0,h1,h2,rfl,rfl⟩
 refine⟨_,M,rfl,by simp[AV.rnf,AV.simp1],fun p hp ob ho=>?_,by simp,M,n0,h0,h1,h2,rfl,rfl⟩
 simp only[List.mem_cons,List.not_mem_nil,or_false] at hp
 rcases hp with rfl<;>(cases ho;first|exact encL_nf (fun x=>nf_rB 7 x) _|simp[AV.nf,AV.simp1])

theorem c175 {p0:List gQuad}{p1:(List (List Bool))}{r:Bool×(List (List Bool))}(H:qD p0 p1=some r){σ:AHeap}{w1:Nat}(q1:σ.objs w1=some ⟨39,1,eL yL p1⟩):ACalls Tryz.prog G 175 [.fsl (eL rQuad p0),.sl w1 0 p1.length] σ (fun v σ'=>∃M:Nat,σ.next≤M∧r.2.length=p1.length∧v=.bool r.1∧σ'=hp σ.objs [(w1,some ⟨39,1,eL yL r.2⟩)] M):=by
 refine wM (L:=[(w1,some ⟨39,1,eL yL p1⟩)]) (Q1:=fun v σ'=>∃M:Nat,σ.next≤M∧r.2.length=p1.length∧v=.bool r.1∧σ'=hp E0 [(w1,some ⟨39,1,eL yL r.2⟩)] M) (by simp[q1]) (fun hlt=>?_) ?_ ⟨_,Tryz.func175,rfl,rfl⟩
 rotate_left
 ·rintro v σ1 ⟨M,h0,h1,rfl,rfl⟩
  exact⟨_,M,rfl,by simp,by simp;try omega,M,h0,h1,rfl,rfl⟩
 generalize σ.next=N0 at hlt ⊢
 have lw1:w1<N0:=hlt _ (.head _) rfl
 refine fnK tok Tryz.func175 Tryz.ntmps175 Tryz.results175 ?_
 simp only[argsA,Nat.reduceAdd,hpN]
 unfold qD at H
 refine S0 tok [] [0,1] ?_
 refine S0 tok [] [0,1,5] ?_
 refine Wsq [5] fun K1 hK1=>?_
 refine S0 tok [] [0,1,5,6] ?_
 refine Wbl (Wth ?_)
 obtain⟨e1,hse1,H⟩:=bE H
 refine zS [0,1,5,6] (fun s a σ=>∃M1:Nat,N0≤M1∧s.2.2.length=p1.length∧a=[(0,.fsl (eL rQuad p0)),(1,.sl w1 0 s.2.2.length),(5,.bool s.1),(6,.int .i64 s.2.1)]∧σ=hp E0 [(w1,some ⟨39,1,eL yL s.2.2⟩)] M1) (fun s x a σ=>x=.exit 0∧Rc G 36 N0 (fun a σ=>∃M2:Nat,N0≤M2∧s.2.length=p1.length∧a=[(5,.bool s.1)]∧σ=hp E0 [(w1,some ⟨39,1,eL yL s.2⟩)] M2) (AAct.keep a [5]) σ) hse1 ?_ ?_ ?_
 ·refine Rc.kp [0,1,5,6] [(0,.fsl (eL rQuad p0)),(1,.sl w1 0 p1.length),(5,.bool false),(6,.int .i64 (isub .i64 (ilen p0) 1))] rfl ?_
  exact Rf ⟨N0+6,(by omega),(by first|rfl|exact rfl|omega),rfl,rfl⟩
 ·clear H hse1
  rintro⟨s1,s2,s3⟩ fl a σ H ⟨M1,fM1_0,fM1_1,rfl,rfl⟩ K2 O2 hK2 hO2
  unfold pS at H;dsimp only at H
  refine Wsq [0,1,5,6] fun K3 hK3=>?_
  refine S0 tok [] [0,1,5,6,12] ?_
  refine Ci H (fun H=>?_) fun H=>?_
  ·refine Wsk (Jn hK3 ?_)
   refine Wsq [0,1,5,6] fun K4 hK4=>?_
   refine Wbl (Wth ?_)
   obtain⟨v6,hv6,H⟩:=bE H
   obtain⟨r7,hr7,H⟩:=bE H
   obtain⟨r8,hr8,H⟩:=bE H
   refine mP tok tokM [] [7,8] [0,1,2,3,4,5,6,7,8,9] [0,1,5,6,7] (fun a σ=>∃M3 o1:Nat,∃M4 o2:Nat,M1+12≤M3∧M1+12≤o1∧o1<M3∧M3≤M4∧M3≤o2∧o2<M4∧a=[(0,.fsl (eL rQuad p0)),(1,.sl w1 0 s3.length),(5,.bool s1),(6,.int .i64 s2),(7,.sl o2 0 r8.length)]∧σ=hp E0 [(w1,some ⟨39,1,eL yL s3⟩),(o1,some ⟨4,1,eL rB r7⟩),(o2,some ⟨4,1,eL rB r8⟩)] M4) (by decide) (fun K hK=>?_) ?_
   ·simp only[pickL,zO,zQ]
    simp -dsimp -implicitDefEqProofs [ix34 hv6]
    refine(c158_o_b (H:=hr7) (by simp[ix34 hv6])).mono ?_;rintro _ _ ⟨M3,o1,fM3_0,fM3_1,fM3_2,rfl,rfl⟩;simp only[hpN] at fM3_0 fM3_1 fM3_2
    have eM3_0:=nQ o1 w1
    try simp -dsimp -implicitDefEqProofs [ix34 hv6,eM3_0,hoS,hoN]
    refine(c187_o_b (H:=hr8) (by simp[ix34 hv6,eM3_0,hoS,hoN])).mono ?_;rintro _ _ ⟨M4,o2,fM4_0,fM4_1,fM4_2,rfl,rfl⟩;simp only[hpN] at fM4_0 fM4_1 fM4_2
    have eM4_0:=nQ o2 w1
    have eM4_1:=nQ o2 o1
    try simp -dsimp -implicitDefEqProofs [ix34 hv6,eM3_0,hoS,hoN,eM4_0,eM4_1]
    exact hK _ _ ⟨M3,o1,M4,o2,(by omega),(by omega),(by omega),(by omega),(by omega),(by omega),rfl,rfl⟩
   rintro a σ ⟨M3,o1,M4,o2,fM3_0,fM3_1,fM3_2,fM4_0,fM4_1,fM4_2,rfl,rfl⟩
   obtain⟨v9,hv9,H⟩:=bE H
   refine gU Wre w1 s2.toNat 0 ?_ (hr:=by exact tZ yL hv9)
   obtain⟨r10,hr10,H⟩:=bE H
   refine jV tok [] [0,1,5,6,7,30] (fun a σ=>a=[(0,.fsl (eL rQuad p0)),(1,.sl w1 0 s3.length),(5,.bool s1),(6,.int .i64 s2),(7,.sl o2 0 r8.length),(30,.bool (bnot r10))]∧σ=hp E0 [(w1,some ⟨39,1,(eL yL s3).set s2.toNat [.sl M4 0 v9.length]⟩),(o1,some ⟨4,1,eL rB r7⟩),(o2,some ⟨4,1,eL rB r8⟩),(M4,some ⟨4,1,eL rB v9⟩)] (M4+8)) (fun K hK=>?_) ?_
   ·skip
    have e0:=nQ w1 o1
    have e1:=nQ w1 o2
    have e2:=nQ w1 M4
    have e3:=nQ o1 o2
    have e4:=nQ o1 M4
    have e5:=nQ o2 M4
    simp -dsimp -implicitDefEqProofs [e0,e1,e2,e3,e4,e5,(gset hv9 _),ixo43 hv9,(zG hv9).2.2]
    refine(borrow 8 (c188 hr10) (by simp[e0,e1,e2,e3,e4,e5,(gset hv9 _),ixo43 hv9,(zG hv9).2.2]) rfl).mono ?_;rintro _ _ ⟨rfl,rfl⟩;try simp -dsimp -implicitDefEqProofs [e0,e1,e2,e3,e4,e5,(gset hv9 _),ixo43 hv9,(zG hv9).2.2]
    exact hK _ _ ⟨rfl,rfl⟩
   rintro a σ ⟨rfl,rfl⟩
   refine Ci H (fun H=>?_) fun H=>?_
   ·refine Sx tok [] [0,1,6] (by
     intro K k
     have e0:=nQ w1 o1
     have e1:=nQ w1 o2
     have e2:=nQ w1 M4
     have e3:=nQ o1 o2
     have e4:=nQ o1 M4
     have e5:=nQ o2 M4
     simp -dsimp -implicitDefEqProofs [e0,e1,e2,e3,e4,e5,(gset hv9 _),ixo43 hv9,(zG hv9).2.2]
     exact k) ?_
    refine Rt tok [] [0,1,5,6] (by
     intro K k
     have e0:=nQ w1 o1
     have e1:=nQ w1 o2
     have e2:=nQ w1 M4
     have e3:=nQ o1 o2
     have e4:=nQ o1 M4
     have e5:=nQ o2 M4
     simp -dsimp -implicitDefEqProofs [e0,e1,e2,e3,e4,e5,(gset hv9 _)]
     exact k) fun a ha=>?_
    refine hK4 _ _ ?_;rw[ha]
    refine Rc.mk ?_
    refine Rt tok [] [0,1,5,6] (by
     intro K k
     have e0:=nQ w1 o1
     have e1:=nQ w1 o2
     have e2:=nQ w1 M4
     have e3:=nQ o1 o2
     have e4:=nQ o1 M4
     have e5:=nQ o2 M4
     simp -dsimp -implicitDefEqProofs [e0,e1,e2,e3,e4,e5,(gset hv9 _)]
     exact k) fun a ha=>?_
    obtain⟨l11,hl11,H⟩:=bE H
    obtain rfl:=oi H
    refine hK2 _ _ _ rfl ?_;rw[ha]
    refine gP zK w1 s2.toNat 0 ?_ (hr:=by exact gset hv9 _)
    rw[show hp E0 [(w1,some ⟨39,1,(eL yL s3).set s2.toNat [.osl 4 1 (eL rB r8)]⟩),(o1,some ⟨4,1,eL rB r7⟩),(M4,some ⟨4,1,eL rB v9⟩)] (M4+17)=hp E0 [(w1,some ⟨39,1,eL yL l11⟩),(o1,some ⟨4,1,eL rB r7⟩),(M4,some ⟨4,1,eL rB v9⟩)] (M4+17) from by rw[(setx_iff.1 hl11).2,← zZ];rfl];(try rw[← zH hl11])
    exact Rc.fin (zP (AHeap.Sub.trans (AHeap.Sub.trans (AHeap.Sub.refl _) (zY rfl (by simp;try omega))) (zY rfl (by simp;try omega)))) ⟨M4+17,(by omega),(by first|rfl|exact((zH hl11).trans fM1_1)|omega),rfl,rfl⟩
   refine Wsk (Jn hK4 ?_)
   refine Rt tok [] [0,1,5,6] (by
    intro K k
    have e0:=nQ w1 o1
    have e1:=nQ w1 o2
    have e2:=nQ w1 M4
    have e3:=nQ o1 o2
    have e4:=nQ o1 M4
    have e5:=nQ o2 M4
    simp -dsimp -implicitDefEqProofs [e0,e1,e2,e3,e4,e5,(gset hv9 _)]
    exact k) fun a ha=>?_
   obtain⟨l12,hl12,H⟩:=bE H
   obtain rfl:=oi H
   refine hK2 _ _ _ rfl ?_;rw[ha]
   refine gP zK w1 s2.toNat 0 ?_ (hr:=by exact gset hv9 _)
   rw[show hp E0 [(w1,some ⟨39,1,(eL yL s3).set s2.toNat [.osl 4 1 (eL rB v9)]⟩),(o1,some ⟨4,1,eL rB r7⟩),(o2,some ⟨4,1,eL rB r8⟩)] (M4+11)=hp E0 [(w1,some ⟨39,1,eL yL l12⟩),(o1,some ⟨4,1,eL rB r7⟩),(o2,some ⟨4,1,eL rB r8⟩)] (M4+11) from by rw[(setx_iff.1 hl12).2,← zZ];rfl];(try rw[← zH hl12])
   exact Rc.fin (zP (AHeap.Sub.trans (AHeap.Sub.trans (AHeap.Sub.refl _) (zY rfl (by simp;try omega))) (zY rfl (by simp;try omega)))) ⟨M4+11,(by omega),(by first|rfl|exact((zH hl12).trans fM1_1)|omega),rfl,rfl⟩
  obtain rfl:=oi H
  refine zJ (hO2 _ _ _ _ rfl ⟨rfl,?_⟩)
  refine Rc.rw (l:=[5]) (X:=[(5,.bool s1)]) rfl ?_
  exact Rf ⟨M1+2,(by omega),(by first|rfl|exact fM1_1|omega),rfl,rfl⟩
 intro x a σ hx
 obtain⟨y4,y5⟩:=e1
 obtain⟨rfl,b,τ,hr,M2,fM2_0,fM2_1,rfl,rfl⟩:=hx
 (try dsimp only at H)
 show K1 _ _
 refine hK1 _ _ (zK hr ?_)
 refine Rc.mk ?_
 refine S0 tok [] [4] ?_
 obtain rfl:=oi H
 refine Kp [4] ?_
 refine Wr ?_
 refine⟨[.bool y4],by simp,M2+2,by omega,by first|rfl|exact fM2_1|omega,?_,?_⟩
 ·simp[eN]
 first|rfl|simp

theorem c156 {p0:List gQuad}{r:(List (List Bool))}(H:mE p0=some r):APure Tryz.prog G 156 [.fsl (eL rQuad p0)] (.fsl (eL rL_B r)):=by
 refine zE (fun N0=>?_) (by simp)
 refine fnK tok Tryz.func156 Tryz.ntmps156 Tryz.results156 ?_
 simp only[argsA,Nat.reduceAdd,hpN]
 unfold mE at H
 refine S0 tok [] [0] ?_
 have q0:∀σ i,bsA T 43 true i 0 [] σ=some (.esl,σ):=fun _ _=>rfl
 refine Sx tok [0] [0,3] (by intro K k;simp -dsimp -implicitDefEqProofs [q0];exact k) ?_
 refine Wsq [0,3] fun K1 hK1=>?_
 obtain⟨r1,hr1,H⟩:=bE H
 refine Sx tok [] [0,3,8] (by intro K k;(repeat first|simp -dsimp -implicitDefEqProofs|refine(c103 hr1).app ?_);exact k) ?_
 refine Ci H (fun H=>?_) fun H=>?_
 ·refine S0 tok [] [2] ?_
  obtain rfl:=oi H;exact Wr ⟨_,rfl,4,by simp[eN]⟩
 refine Wsk (Jn hK1 ?_)
 refine Wsq [0,3] fun K2 hK2=>?_
 refine S0 tok [] [0,3,4] ?_
 refine Wbl (Wth ?_)
 obtain⟨e1,hse1,H⟩:=bE H
 refine zS [0,3,4] (fun s a σ=>∃M1 o1:Nat,N0≤M1∧N0≤o1∧o1<M1∧a=[(0,.fsl (eL rQuad p0)),(3,.sl o1 0 s.2.length),(4,.int .i64 s.1)]∧σ=hp E0 [(o1,some ⟨39,1,eL yL s.2⟩)] M1) (fun s x a σ=>x=.exit 0∧Rc G 24 N0 (fun a σ=>∃M2 o2:Nat,N0≤M2∧N0≤o2∧o2<M2∧a=[(0,.fsl (eL rQuad p0)),(3,.sl o2 0 s.length)]∧σ=hp E0 [(o2,some ⟨39,1,eL yL s⟩)] M2) (AAct.keep a [0,3]) σ) hse1 ?_ ?_ ?_
 ·refine Rc.kp [0,3,4] [(0,.fsl (eL rQuad p0)),(3,.esl),(4,.int .i64 0)] rfl ?_
  refine gNilS zK 3 39 1 [(N0+7,some ⟨39,1,eL yL ([]:List (List Bool))⟩)] [(0,.fsl (eL rQuad p0)),(3,.sl (N0+7) 0 ([]:List (List Bool)).length),(4,.int .i64 0)] (by simp(disch:=omega)) (by simp(disch:=omega) [eN]) [0,3,4] rfl ?_
  exact Rf ⟨N0+8,(N0+7),(by omega),(by omega),(by omega),rfl,rfl⟩
 ·clear H hse1
  rintro⟨s2,s3⟩ fl a σ H ⟨M1,o1,fM1_0,fM1_1,fM1_2,rfl,rfl⟩ K3 O3 hK3 hO3
  unfold tP at H;dsimp only at H
  refine Wsq [0,3,4] fun K4 hK4=>?_
  refine S0 tok [] [0,3,4,13] ?_
  refine Ci H (fun H=>?_) fun H=>?_
  ·refine Wsk (Jn hK4 ?_)
   refine Wsq [0,3,4] fun K5 hK5=>?_
   refine Wbl (Wth ?_)
   obtain⟨l5,hl5,H⟩:=bE H
   obtain⟨l6,hl6,H⟩:=bE H
   have q1:∀(a0:Nat) (a1:Nat) σ i,bsA T 43 true i 1 [(0,.sl a0 0 a1)] σ=some (.fsl [[.sl a0 0 a1]],σ):=fun _ _ _ _=>rfl
   refine Rt tok [2] [0,3,4] (by
    intro K k
    have e0:=nQ o1 (M1+5)
    have e1:=nQ o1 (M1+7)
    simp -dsimp -implicitDefEqProofs [e0,e1,mak39 hl5,q1,apr43 yL hl6]
    exact k) fun a ha=>?_
   refine hK5 _ _ ?_;rw[ha]
   refine Rc.mk ?_
   refine gP Wre (M1+7) s3.length 0 ?_ (hr:=by exact fQ _ _ _)
   rw[show hp E0 [(M1+7,some ⟨39,1,eL yL s3++[[.osl 4 1 (eL rB l5)]]⟩)] (M1+9)=hp E0 [(M1+7,some ⟨39,1,eL yL l6⟩)] (M1+9) from by rw[← fR (f:=yL) (c:=[.osl 4 1 (eL rB l5)]) hl6 rfl]]
   refine Rt0 tok [] [0,3,4] fun a ha=>?_
   obtain rfl:=oi H
   refine hK3 _ _ _ rfl ?_;rw[ha]
   exact Rf ⟨M1+12,(M1+7),(by omega),(by omega),(by omega),rfl,rfl⟩
  obtain rfl:=oi H
  refine zJ (hO3 _ _ _ _ rfl ⟨rfl,?_⟩)
  refine Rc.rw (l:=[0,3]) (X:=[(0,.fsl (eL rQuad p0)),(3,.sl o1 0 s3.length)]) rfl ?_
  exact Rf ⟨M1+4,o1,(by omega),(by omega),(by omega),rfl,rfl⟩
 intro x a σ hx
 obtain⟨y4,rfl⟩:∃x,x=e1:=⟨_,rfl⟩
 obtain⟨rfl,b,τ,hr,M2,o2,fM2_0,fM2_1,fM2_2,rfl,rfl⟩:=hx
 (try dsimp only at H)
 show K2 _ _
 refine hK2 _ _ (zK hr ?_)
 refine Rc.mk ?_
 refine Wsq [3] fun K6 hK6=>?_
 refine Wbl (Wth ?_)
 obtain⟨e2,hse2,H⟩:=bE H
 refine zS [0,3] (fun s a σ=>∃M3 o3:Nat,N0≤M3∧N0≤o3∧o3<M3∧a=[(0,.fsl (eL rQuad p0)),(3,.sl o3 0 s.length)]∧σ=hp E0 [(o3,some ⟨39,1,eL yL s⟩)] M3) (fun s x a σ=>x=.exit 2∧Rc G 24 N0 (fun a σ=>∃M4 o4:Nat,N0≤M4∧N0≤o4∧o4<M4∧a=[(3,.sl o4 0 s.length)]∧σ=hp E0 [(o4,some ⟨39,1,eL yL s⟩)] M4) (AAct.keep a [3]) σ) hse2 ?_ ?_ ?_
 ·refine Rc.kp [0,3] [(0,.fsl (eL rQuad p0)),(3,.sl o2 0 y4.length)] rfl ?_
  exact Rf ⟨M2,o2,(by omega),(by omega),(by omega),rfl,rfl⟩
 ·clear H hse2
  rintro s7 fl a σ H ⟨M3,o3,fM3_0,fM3_1,fM3_2,rfl,rfl⟩ K7 O7 hK7 hO7
  unfold mV at H;dsimp only at H
  refine Wsq [0,3] fun K8 hK8=>?_
  obtain⟨r9,hr9,H⟩:=bE H
  refine jV tok [] [0,3,22] (fun a σ=>∃M5:Nat,M3+3≤M5∧r9.2.length=s7.length∧a=[(0,.fsl (eL rQuad p0)),(3,.sl o3 0 s7.length),(22,.bool r9.1)]∧σ=hp E0 [(o3,some ⟨39,1,eL yL r9.2⟩)] M5) (fun K hK=>?_) ?_
  ·skip
   simp -dsimp -implicitDefEqProofs
   refine(c175 (H:=hr9) (by simp)).mono ?_;rintro _ _ ⟨M5,fM5_0,fM5_1,rfl,rfl⟩;simp only[hpN] at fM5_0
   try simp -dsimp -implicitDefEqProofs [hoS,hoN]
   exact hK _ _ ⟨M5,(by omega),fM5_1,rfl,rfl⟩
  rintro a σ ⟨M5,fM5_0,fM5_1,rfl,rfl⟩
  try rw[← fM5_1]
  refine Ci H (fun H=>?_) fun H=>?_
  ·refine Wsk (Jn hK8 ?_)
   refine Wbl (Wth ?_)
   refine Wsk ?_
   show K7 _ _
   refine kE [0,3] fun a' ha=>?_
   obtain rfl:=oi H
   refine hK7 _ _ _ rfl ?_;rw[ha]
   exact Rf ⟨M5,o3,(by omega),(by omega),(by omega),rfl,rfl⟩
  obtain rfl:=oi H
  refine zJ (hO7 _ _ _ _ rfl ⟨rfl,?_⟩)
  refine Rc.rw (l:=[3]) (X:=[(3,.sl o3 0 r9.2.length)]) rfl ?_
  exact Rf ⟨M5,o3,(by omega),(by omega),(by omega),rfl,rfl⟩
 intro x a σ hx
 obtain⟨y8,rfl⟩:∃x,x=e2:=⟨_,rfl⟩
 obtain⟨rfl,b,τ,hr,M4,o4,fM4_0,fM4_1,fM4_2,rfl,rfl⟩:=hx
 (try dsimp only at H)
 show K6 _ _
 refine hK6 _ _ (zK hr ?_)
 refine Rc.mk ?_
 refine S0 tok [] [2] ?_
 obtain rfl:=oi H;exact Wr ⟨_,rfl,4,by simp[eN]⟩

theorem c157 {p0:gQuad}{p1:List Bool}{r:Bool}(H:nU p0 p1=some r):APure Tryz.prog G 157 [.agg [.int .i64 p0.Op,.int .i64 p0.Dst,.int .i64 p0.A,.int .i64 p0.B,.int .i64 p0.N],.fsl (eL rB p1)] (.bool r):=by
 refine zE (fun N0=>?_) (by simp)
 refine fnK tok Tryz.func157 Tryz.ntmps157 Tryz.results157 ?_
 simp only[argsA,Nat.reduceAdd,hpN]
 unfold nU at H
 refine S0 tok [0] [1,2] ?_
 refine Wsq [] fun K1 hK1=>?_
 refine S0 tok [] [1,2,6] ?_
 refine Wbl (Wth ?_)
 obtain⟨j1,hj1,H⟩:=bE H
 refine kR (kQ fun K2 hK2=>?_)
 have hJ1:∀a σ,Rc G 17 N0 (fun a σ=>∃M1:Nat,N0≤M1∧a=[(1,.fsl (eL rB p1)),(2,.fptr [.int .i64 p0.Op,.int .i64 p0.Dst,.int .i64 p0.A,.int .i64 p0.B,.int .i64 p0.N] 0),(7,.bool j1)]∧σ=hp E0 [] M1) (a.keep [1,2,7]) σ→K2 a σ:=by
  rintro a σ ⟨b,τ,hr,M1,fM1_0,rfl,rfl⟩
  refine hK2 _ _ (kI [1,2,7] (Wre hr ?_))
  refine Ci H (fun H=>?_) fun H=>?_
  ·obtain⟨v2,hv2,H⟩:=bE H
   refine Sx tok [] [4] (by intro K k;simp -dsimp -implicitDefEqProofs [ix39 hv2];exact k) ?_
   obtain rfl:=oi H;exact Wr ⟨_,rfl,4,by simp[eN]⟩
  refine Wsk (Jn hK1 ?_)
  refine S0 tok [] [4] ?_
  obtain rfl:=oi H;exact Wr ⟨_,rfl,4,by simp[eN]⟩
 replace H:=hj1
 refine S0 tok [] [1,2,6,7] ?_
 refine Ci H (fun H=>?_) fun H=>?_
 ·refine Wsk ?_
  show K2 _ _
  refine kE [1,2,7] fun a' ha=>?_
  obtain rfl:=oi H
  refine hJ1 _ _ ?_;rw[ha]
  exact Rf ⟨N0+6,(by omega),rfl,rfl⟩
 refine S0 tok [] [1,2,6,7] ?_
 refine Ci H (fun H=>?_) fun H=>?_
 ·refine Wsk ?_
  show K2 _ _
  refine kE [1,2,7] fun a' ha=>?_
  obtain rfl:=oi H
  refine hJ1 _ _ ?_;rw[ha]
  exact Rf ⟨N0+8,(by omega),rfl,rfl⟩
 refine Rt0 tok [] [1,2,7] fun a ha=>?_
 obtain rfl:=oi H
 refine hJ1 _ _ ?_;rw[ha]
 exact Rf ⟨N0+10,(by omega),rfl,rfl⟩

theorem c133 {p0:List gQuad}{r:(List gQuad)×Bool}(H:qO p0=some r):APure Tryz.prog G 133 [.fsl (eL rQuad p0)] (.tup [.fsl (eL rQuad r.1),.bool r.2]):=by
 refine zE (fun N0=>?_) (by simp)
 refine fnK tok Tryz.func133 Tryz.ntmps133 Tryz.results133 ?_
 simp only[argsA,Nat.reduceAdd,hpN]
 unfold qO at H
 refine S0 tok [] [0] ?_
 have q0:∀σ i,bsA T 34 true i 0 [] σ=some (.esl,σ):=fun _ _=>rfl
 refine Sx tok [0] [0,4] (by intro K k;simp -dsimp -implicitDefEqProofs [q0];exact k) ?_
 refine Wsq [0,4] fun K1 hK1=>?_
 obtain⟨r1,hr1,H⟩:=bE H
 refine Sx tok [] [0,4,11] (by intro K k;(repeat first|simp -dsimp -implicitDefEqProofs|refine(c103 hr1).app ?_);exact k) ?_
 refine Ci H (fun H=>?_) fun H=>?_
 ·refine S0 tok [] [2,3] ?_
  obtain rfl:=oi H;exact Wr ⟨_,rfl,4,by simp[eN]⟩
 refine Wsk (Jn hK1 ?_)
 obtain⟨r2,hr2,H⟩:=bE H
 refine Sx tok [] [0,4,5] (by intro K k;(repeat first|simp -dsimp -implicitDefEqProofs|refine(c156 hr2).app ?_);exact k) ?_
 refine Wsq [4] fun K2 hK2=>?_
 refine S0 tok [] [0,4,5,6] ?_
 refine Wbl (Wth ?_)
 obtain⟨e2,hse2,H⟩:=bE H
 refine zS [0,4,5,6] (fun s a σ=>∃M1 o1:Nat,N0≤M1∧N0≤o1∧o1<M1∧a=[(0,.fsl (eL rQuad p0)),(4,.sl o1 0 s.2.length),(5,.fsl (eL rL_B r2)),(6,.int .i64 s.1)]∧σ=hp E0 [(o1,some ⟨36,5,eL rQuad s.2⟩)] M1) (fun s x a σ=>x=.exit 0∧Rc G 39 N0 (fun a σ=>∃M2 o2:Nat,N0≤M2∧N0≤o2∧o2<M2∧a=[(4,.sl o2 0 s.length)]∧σ=hp E0 [(o2,some ⟨36,5,eL rQuad s⟩)] M2) (AAct.keep a [4]) σ) hse2 ?_ ?_ ?_
 ·refine Rc.kp [0,4,5,6] [(0,.fsl (eL rQuad p0)),(4,.esl),(5,.fsl (eL rL_B r2)),(6,.int .i64 0)] rfl ?_
  refine gNilS zK 4 36 5 [(N0+11,some ⟨36,5,eL rQuad ([]:List gQuad)⟩)] [(0,.fsl (eL rQuad p0)),(4,.sl (N0+11) 0 ([]:List gQuad).length),(5,.fsl (eL rL_B r2)),(6,.int .i64 0)] (by simp(disch:=omega)) (by simp(disch:=omega) [eN]) [0,4,5,6] rfl ?_
  exact Rf ⟨N0+12,(N0+11),(by omega),(by omega),(by omega),rfl,rfl⟩
 ·clear H hse2
  rintro⟨s3,s4⟩ fl a σ H ⟨M1,o1,fM1_0,fM1_1,fM1_2,rfl,rfl⟩ K3 O3 hK3 hO3
  unfold uT at H;dsimp only at H
  refine Wsq [0,4,5,6] fun K4 hK4=>?_
  refine S0 tok [] [0,4,5,6,18] ?_
  refine Ci H (fun H=>?_) fun H=>?_
  ·refine Wsk (Jn hK4 ?_)
   refine Wsq [0,4,5,6] fun K5 hK5=>?_
   refine Wbl (Wth ?_)
   obtain⟨v6,hv6,H⟩:=bE H
   refine Sx tok [] [0,4,5,6,7] (by
    intro K k
    have e0:=nQ o1 (M1+8)
    simp -dsimp -implicitDefEqProofs [e0,ix34 hv6]
    exact k) ?_
   obtain⟨j1,hj1,H⟩:=bE H
   refine kR (kQ fun K6 hK6=>?_)
   have hJ1:∀a σ,Rc G 39 N0 (fun a σ=>∃M3:Nat,N0≤M3∧o1<M3∧M1+8<M3∧a=[(0,.fsl (eL rQuad p0)),(4,.sl o1 0 s4.length),(5,.fsl (eL rL_B r2)),(6,.int .i64 s3),(7,.ptr (M1+8) 0 0)]∧σ=hp E0 [(o1,some ⟨36,5,eL rQuad s4⟩),(M1+8,some ⟨36,5,[[.int .i64 j1.Op,.int .i64 j1.Dst,.int .i64 j1.A,.int .i64 j1.B,.int .i64 j1.N]]⟩)] M3) (a.keep [0,4,5,6,7]) σ→K6 a σ:=by
    rintro a σ ⟨b,τ,hr,M3,fM3_0,fM3_1,fM3_2,rfl,rfl⟩
    refine hK6 _ _ (kI [0,4,5,6,7] (Wre hr ?_))
    obtain⟨l8,hl8,H⟩:=bE H
    have q1:∀σ i,bsA T 34 true i 1 [(0,.agg [.int .i64 j1.Op,.int .i64 j1.Dst,.int .i64 j1.A,.int .i64 j1.B,.int .i64 j1.N])] σ=some (.fsl (eL rQuad ([j1]:List gQuad)),σ):=fun _ _=>rfl
    refine Rt tok [2] [0,4,5,6] (by
     intro K k
     have e0:=nQ o1 (M1+8)
     have e1:=nQ o1 (M3+3)
     have e2:=nQ (M1+8) (M3+3)
     have e3:=nQ (M1+5) M3
     simp -dsimp -implicitDefEqProofs [e0,e1,e2,e3,q1,app34 hl8]
     exact k) fun a ha=>?_
    refine hK5 _ _ ?_;rw[ha]
    refine Rc.mk ?_
    refine Rt tok [] [0,4,5,6] (by
     intro K k
     have e0:=nQ (M1+8) (M3+3)
     have e1:=nQ (M1+5) M3
     simp -dsimp -implicitDefEqProofs [e0,e1]
     exact k) fun a ha=>?_
    obtain rfl:=oi H
    refine hK3 _ _ _ rfl ?_;rw[ha]
    exact Rc.fin (AHeap.Sub.trans (zP (AHeap.Sub.refl _)) (zY rfl (by simp;try omega))) ⟨M3+8,(M3+3),(by omega),(by omega),(by omega),rfl,rfl⟩
   replace H:=hj1
   obtain⟨r9,hr9,H⟩:=bE H
   obtain⟨r10,hr10,H⟩:=bE H
   refine Sd tok tokM [] [0] [1,2,3,4,0,5] [0,4,5,6,7,30] (by
    intro K k
    have e0:=nQ o1 (M1+8)
    simp only[pickL,zO,zQ]
    repeat first|simp -dsimp -implicitDefEqProofs [e0]|refine Pc.mk (c158 hr9) ?_|refine Pc.mk (c157 hr10) ?_
    exact k) ?_
   refine Ci H (fun H=>?_) fun H=>?_
   ·refine Rt tok [] [0,4,5,6,7] (by
     intro K k
     have e0:=nQ o1 (M1+8)
     simp -dsimp -implicitDefEqProofs [e0]
     exact k) fun a ha=>?_
    obtain rfl:=oi H
    refine hJ1 _ _ ?_;rw[ha]
    exact Rf ⟨M1+20,(by omega),(by omega),(by omega),rfl,rfl⟩
   refine Wsk ?_
   show K6 _ _
   refine kE [0,4,5,6,7] fun a' ha=>?_
   obtain rfl:=oi H
   refine hJ1 _ _ ?_;rw[ha]
   exact Rf ⟨M1+16,(by omega),(by omega),(by omega),rfl,rfl⟩
  obtain rfl:=oi H
  refine zJ (hO3 _ _ _ _ rfl ⟨rfl,?_⟩)
  refine Rc.rw (l:=[4]) (X:=[(4,.sl o1 0 s4.length)]) rfl ?_
  exact Rf ⟨M1+4,o1,(by omega),(by omega),(by omega),rfl,rfl⟩
 intro x a σ hx
 obtain⟨y5,rfl⟩:∃x,x=e2:=⟨_,rfl⟩
 obtain⟨rfl,b,τ,hr,M2,o2,fM2_0,fM2_1,fM2_2,rfl,rfl⟩:=hx
 (try dsimp only at H)
 show K2 _ _
 refine hK2 _ _ (zK hr ?_)
 refine Rc.mk ?_
 refine S0 tok [] [2,3] ?_
 obtain rfl:=oi H;exact Wr ⟨_,rfl,4,by simp[eN]⟩

theorem c177 {p0:List gQuad}{p1:List Bool}{r:Bool×(List Bool)}(H:wO p0 p1=some r){σ:AHeap}{w1:Nat}(q1:σ.objs w1=some ⟨4,1,eL rB p1⟩):ACalls Tryz.prog G 177 [.fsl (eL rQuad p0),.sl w1 0 p1.length] σ (fun v σ'=>∃M:Nat,σ.next≤M∧r.2.length=p1.length∧v=.bool r.1∧σ'=hp σ.objs [(w1,some ⟨4,1,eL rB r.2⟩)] M):=by
 refine wM (L:=[(w1,some ⟨4,1,eL rB p1⟩)]) (Q1:=fun v σ'=>∃M:Nat,σ.next≤M∧r.2.length=p1.length∧v=.bool r.1∧σ'=hp E0 [(w1,some ⟨4,1,eL rB r.2⟩)] M) (by simp[q1]) (fun hlt=>?_) ?_ ⟨_,Tryz.func177,rfl,rfl⟩
 rotate_left
 ·rintro v σ1 ⟨M,h0,h1,rfl,rfl⟩
  exact⟨_,M,rfl,by simp,by simp;try omega,M,h0,h1,rfl,rfl⟩
 generalize σ.next=N0 at hlt ⊢
 have lw1:w1<N0:=hlt _ (.head _) rfl
 refine fnK tok Tryz.func177 Tryz.ntmps177 Tryz.results177 ?_
 simp only[argsA,Nat.reduceAdd,hpN]
 unfold wO at H
 refine S0 tok [] [0,1] ?_
 refine S0 tok [] [0,1,5] ?_
 refine Wsq [5] fun K1 hK1=>?_
 refine S0 tok [] [0,1,5,6] ?_
 refine Wbl (Wth ?_)
 obtain⟨e2,hse2,H⟩:=bE H
 refine zS [0,1,5,6] (fun s a σ=>∃M1:Nat,N0≤M1∧s.2.2.length=p1.length∧a=[(0,.fsl (eL rQuad p0)),(1,.sl w1 0 s.2.2.length),(5,.bool s.1),(6,.int .i64 s.2.1)]∧σ=hp E0 [(w1,some ⟨4,1,eL rB s.2.2⟩)] M1) (fun s x a σ=>x=.exit 0∧Rc G 44 N0 (fun a σ=>∃M2:Nat,N0≤M2∧s.2.length=p1.length∧a=[(5,.bool s.1)]∧σ=hp E0 [(w1,some ⟨4,1,eL rB s.2⟩)] M2) (AAct.keep a [5]) σ) hse2 ?_ ?_ ?_
 ·refine Rc.kp [0,1,5,6] [(0,.fsl (eL rQuad p0)),(1,.sl w1 0 p1.length),(5,.bool false),(6,.int .i64 0)] rfl ?_
  exact Rf ⟨N0+3,(by omega),(by first|rfl|exact rfl|omega),rfl,rfl⟩
 ·clear H hse2
  rintro⟨s1,s2,s3⟩ fl a σ H ⟨M1,fM1_0,fM1_1,rfl,rfl⟩ K2 O2 hK2 hO2
  unfold sO at H;dsimp only at H
  refine Wsq [0,1,5,6] fun K3 hK3=>?_
  refine S0 tok [] [0,1,5,6,12] ?_
  refine Ci H (fun H=>?_) fun H=>?_
  ·refine Wsk (Jn hK3 ?_)
   refine Wsq [0,1,5,6] fun K4 hK4=>?_
   refine Wbl (Wth ?_)
   refine Wsq [0,1,5,6] fun K5 hK5=>?_
   obtain⟨v6,hv6,H⟩:=bE H
   refine Sx tok [] [0,1,5,6,19] (by intro K k;simp -dsimp -implicitDefEqProofs [ixo39 hv6,(zG hv6).2.2];exact k) ?_
   refine Ci H (fun H=>?_) fun H=>?_
   ·refine zJ ?_
    show K4 _ _
    refine kE [0,1,5,6] fun a' ha=>?_
    refine hK4 _ _ ?_;rw[ha]
    refine Rc.mk ?_
    refine Rt0 tok [] [0,1,5,6] fun a ha=>?_
    obtain rfl:=oi H
    refine hK2 _ _ _ rfl ?_;rw[ha]
    exact Rf ⟨M1+12,(by omega),(by first|rfl|exact fM1_1|omega),rfl,rfl⟩
   refine Wsk (Jn hK5 ?_)
   obtain⟨r7,hr7,H⟩:=bE H
   refine Sx tok [] [0,1,5,6,7] (by intro K k;(repeat first|simp -dsimp -implicitDefEqProofs|refine(c176 hr7).app ?_);exact k) ?_
   refine S0 tok [] [0,1,5,6,7,8] ?_
   refine Wbl (Wth ?_)
   obtain⟨e1,hse1,H⟩:=bE H
   refine zS [0,1,5,6,7,8] (fun s a σ=>∃M3:Nat,N0≤M3∧s.2.2.length=p1.length∧a=[(0,.fsl (eL rQuad p0)),(1,.sl w1 0 s.2.2.length),(5,.bool s.1),(6,.int .i64 s2),(7,.fsl (eL rI r7)),(8,.int .i64 s.2.1)]∧σ=hp E0 [(w1,some ⟨4,1,eL rB s.2.2⟩)] M3) (fun s x a σ=>x=.exit 2∧Rc G 44 N0 (fun a σ=>∃M4:Nat,N0≤M4∧s.2.length=p1.length∧a=[(0,.fsl (eL rQuad p0)),(1,.sl w1 0 s.2.length),(5,.bool s.1),(6,.int .i64 s2)]∧σ=hp E0 [(w1,some ⟨4,1,eL rB s.2⟩)] M4) (AAct.keep a [0,1,5,6]) σ) hse1 ?_ ?_ ?_
   ·refine Rc.kp [0,1,5,6,7,8] [(0,.fsl (eL rQuad p0)),(1,.sl w1 0 s3.length),(5,.bool s1),(6,.int .i64 s2),(7,.fsl (eL rI r7)),(8,.int .i64 0)] rfl ?_
    exact Rf ⟨M1+14,(by omega),(by first|rfl|exact fM1_1|omega),rfl,rfl⟩
   ·clear H hse1
    rintro⟨s8,s9,s10⟩ fl a σ H ⟨M3,fM3_0,fM3_1,rfl,rfl⟩ K6 O6 hK6 hO6
    unfold sN at H;dsimp only at H
    refine Wsq [0,1,5,6,7,8] fun K7 hK7=>?_
    refine S0 tok [] [0,1,5,6,7,8,26] ?_
    refine Ci H (fun H=>?_) fun H=>?_
    ·refine Wsk (Jn hK7 ?_)
     refine Wsq [0,1,5,6,7,8] fun K8 hK8=>?_
     refine Wbl (Wth ?_)
     obtain⟨v13,hv13,H⟩:=bE H
     obtain⟨v14,hv14,H⟩:=bE H
     refine Sx tok [] [0,1,5,6,7,8,36] (by intro K k;simp -dsimp -implicitDefEqProofs [ix23 hv13,ixo39 hv14,(zG hv14).2.2];exact k) ?_
     refine Ci H (fun H=>?_) fun H=>?_
     ·obtain⟨l15,hl15,H⟩:=bE H
      refine Sx tok [] [0,1,6,7,8] (by intro K k;simp -dsimp -implicitDefEqProofs [ix23 hv13,ixo39 hv14,(zG hv14).2.2,(setx_iff.1 hl15).2.symm];exact k) ?_
      try rw[← zH hl15]
      refine Rt0 tok [] [0,1,5,6,7,8] fun a ha=>?_
      refine hK8 _ _ ?_;rw[ha]
      refine Rc.mk ?_
      refine Rt0 tok [] [0,1,5,6,7,8] fun a ha=>?_
      obtain rfl:=oi H
      refine hK6 _ _ _ rfl ?_;rw[ha]
      exact Rf ⟨M3+23,(by omega),(by first|rfl|exact((zH hl15).trans fM3_1)|omega),rfl,rfl⟩
     refine Wsk (Jn hK8 ?_)
     refine Rt0 tok [] [0,1,5,6,7,8] fun a ha=>?_
     obtain rfl:=oi H
     refine hK6 _ _ _ rfl ?_;rw[ha]
     exact Rf ⟨M3+15,(by omega),(by first|rfl|exact fM3_1|omega),rfl,rfl⟩
    obtain rfl:=oi H
    refine zJ (hO6 _ _ _ _ rfl ⟨rfl,?_⟩)
    refine Rc.rw (l:=[0,1,5,6]) (X:=[(0,.fsl (eL rQuad p0)),(1,.sl w1 0 s10.length),(5,.bool s8),(6,.int .i64 s2)]) rfl ?_
    exact Rf ⟨M3+4,(by omega),(by first|rfl|exact fM3_1|omega),rfl,rfl⟩
   intro x a σ hx
   obtain⟨y11,y12⟩:=e1
   obtain⟨rfl,b,τ,hr,M4,fM4_0,fM4_1,rfl,rfl⟩:=hx
   (try dsimp only at H)
   show K4 _ _
   refine hK4 _ _ (zK hr ?_)
   refine Rc.mk ?_
   refine Rt0 tok [] [0,1,5,6] fun a ha=>?_
   obtain rfl:=oi H
   refine hK2 _ _ _ rfl ?_;rw[ha]
   exact Rf ⟨M4+3,(by omega),(by first|rfl|exact fM4_1|omega),rfl,rfl⟩
  obtain rfl:=oi H
  refine zJ (hO2 _ _ _ _ rfl ⟨rfl,?_⟩)
  refine Rc.rw (l:=[5]) (X:=[(5,.bool s1)]) rfl ?_
  exact Rf ⟨M1+4,(by omega),(by first|rfl|exact fM1_1|omega),rfl,rfl⟩
 intro x a σ hx
 obtain⟨y4,y5⟩:=e2
 obtain⟨rfl,b,τ,hr,M2,fM2_0,fM2_1,rfl,rfl⟩:=hx
 (try dsimp only at H)
 show K1 _ _
 refine hK1 _ _ (zK hr ?_)
 refine Rc.mk ?_
 refine S0 tok [] [4] ?_
 obtain rfl:=oi H
 refine Kp [4] ?_
 refine Wr ?_
 refine⟨[.bool y4],by simp,M2+2,by omega,by first|rfl|exact fM2_1|omega,?_,?_⟩
 ·simp[eN]
 first|rfl|simp

theorem c160 {p0:gQuad}{p1:Int}{r:Bool}(H:nT p0 p1=some r):APure Tryz.prog G 160 [.agg [.int .i64 p0.Op,.int .i64 p0.Dst,.int .i64 p0.A,.int .i64 p0.B,.int .i64 p0.N],.int .i64 p1] (.bool r):=by
 refine zE (fun N0=>?_) (by simp)
 refine fnK tok Tryz.func160 Tryz.ntmps160 Tryz.results160 ?_
 simp only[argsA,Nat.reduceAdd,hpN]
 unfold nT at H
 refine S0 tok [0] [1,2] ?_
 refine Wsq [] fun K1 hK1=>?_
 refine S0 tok [] [1,2,6] ?_
 refine Wbl (Wth ?_)
 obtain⟨j1,hj1,H⟩:=bE H
 refine kR (kQ fun K2 hK2=>?_)
 have hJ1:∀a σ,Rc G 22 N0 (fun a σ=>∃M1:Nat,N0≤M1∧a=[(1,.int .i64 p1),(2,.fptr [.int .i64 p0.Op,.int .i64 p0.Dst,.int .i64 p0.A,.int .i64 p0.B,.int .i64 p0.N] 0),(6,.int .i64 p0.Op),(7,.bool j1)]∧σ=hp E0 [] M1) (a.keep [1,2,6,7]) σ→K2 a σ:=by
  rintro a σ ⟨b,τ,hr,M1,fM1_0,rfl,rfl⟩
  refine hK2 _ _ (kI [1,2,6,7] (Wre hr ?_))
  refine Ci H (fun H=>?_) fun H=>?_
  ·refine S0 tok [] [4] ?_
   obtain rfl:=oi H;exact Wr ⟨_,rfl,4,by simp[eN]⟩
  refine S0 tok [] [2,15] ?_
  refine Ci H (fun H=>?_) fun H=>?_
  ·refine S0 tok [] [4] ?_
   obtain rfl:=oi H;exact Wr ⟨_,rfl,4,by simp[eN]⟩
  refine Wsk (Jn hK1 ?_)
  refine S0 tok [] [4] ?_
  obtain rfl:=oi H;exact Wr ⟨_,rfl,4,by simp[eN]⟩
 replace H:=hj1
 refine S0 tok [] [1,2,6,7] ?_
 refine Ci H (fun H=>?_) fun H=>?_
 ·refine Wsk ?_
  show K2 _ _
  refine kE [1,2,6,7] fun a' ha=>?_
  obtain rfl:=oi H
  refine hJ1 _ _ ?_;rw[ha]
  exact Rf ⟨N0+6,(by omega),rfl,rfl⟩
 refine Rt0 tok [] [1,2,6,7] fun a ha=>?_
 obtain rfl:=oi H
 refine hJ1 _ _ ?_;rw[ha]
 exact Rf ⟨N0+8,(by omega),rfl,rfl⟩

theorem c159_o {p0:List gQuad}{r:List Bool}(H:uV p0=some r){σ:AHeap}:ACalls Tryz.prog G 159 [.fsl (eL rQuad p0)] σ (fun v σ'=>∃M n0:Nat,σ.next≤M∧σ.next≤n0∧n0<M∧v=.sl n0 0 r.length∧σ'=hp σ.objs [(n0,some ⟨4,1,eL rB r⟩)] M):=by
 refine fr2 [] (by simp) (fun hlt=>?_) ⟨_,Tryz.func159,rfl,rfl⟩
 generalize σ.next=N0 at hlt ⊢
 refine fnK tok Tryz.func159 Tryz.ntmps159 Tryz.results159 ?_
 simp only[argsA,Nat.reduceAdd,hpN]
 unfold uV at H
 refine S0 tok [] [0] ?_
 refine Wsq [0] fun K1 hK1=>?_
 obtain⟨r1,hr1,H⟩:=bE H
 refine Sx tok [] [0,6] (by intro K k;(repeat first|simp -dsimp -implicitDefEqProofs|refine(c103 hr1).app ?_);exact k) ?_
 refine Ci H (fun H=>?_) fun H=>?_
 ·have q0:∀σ i,bsA T 39 true i 0 [] σ=some (.esl,σ):=fun _ _=>rfl
  refine Sx tok [0] [2] (by intro K k;simp -dsimp -implicitDefEqProofs [q0];exact k) ?_
  obtain rfl:=oi H
  refine Kp [2] ?_
  refine gNilS Wre 2 4 1 [(N0+6,some ⟨4,1,eL rB ([]:List Bool)⟩)] [(2,.sl (N0+6) 0 ([]:List Bool).length)] (by simp(disch:=omega)) (by simp(disch:=omega) [eN]) [2] rfl ?_
  refine Wr ?_
  refine⟨[.sl (N0+6) 0 ([]:List Bool).length],by simp,N0+7,N0+6,by omega,by omega,by omega,?_,?_⟩
  ·simp[eN]
  first|rfl|simp
 refine Wsk (Jn hK1 ?_)
 obtain⟨l2,hl2,H⟩:=bE H
 refine Sx tok [] [0,3] (by intro K k;simp -dsimp -implicitDefEqProofs [mak39 hl2];exact k) ?_
 obtain⟨v3,hv3,H⟩:=bE H
 obtain⟨l4,hl4,H⟩:=bE H
 refine Sx tok [] [0,3] (by intro K k;simp -dsimp -implicitDefEqProofs [ixo39 hv3,(show _[0]? =some v3 from(zG hv3).2.2),(show List.set _ 0 _=l4 from(setx_iff.1 hl4).2.symm)];exact k) ?_
 try rw[← zH hl4]
 refine Wsq [3] fun K2 hK2=>?_
 refine Wbl (Wth ?_)
 obtain⟨e1,hse1,H⟩:=bE H
 refine zS [0,3] (fun s a σ=>∃M1 o1:Nat,N0≤M1∧N0≤o1∧o1<M1∧a=[(0,.fsl (eL rQuad p0)),(3,.sl o1 0 s.length)]∧σ=hp E0 [(o1,some ⟨4,1,eL rB s⟩)] M1) (fun s x a σ=>x=.exit 0∧Rc G 17 N0 (fun a σ=>∃M2 o2:Nat,N0≤M2∧N0≤o2∧o2<M2∧a=[(3,.sl o2 0 s.length)]∧σ=hp E0 [(o2,some ⟨4,1,eL rB s⟩)] M2) (AAct.keep a [3]) σ) hse1 ?_ ?_ ?_
 ·refine Rc.kp [0,3] [(0,.fsl (eL rQuad p0)),(3,.sl (N0+6) 0 l4.length)] rfl ?_
  exact Rf ⟨N0+11,(N0+6),(by omega),(by omega),(by omega),rfl,rfl⟩
 ·clear H hse1
  rintro s5 fl a σ H ⟨M1,o1,fM1_0,fM1_1,fM1_2,rfl,rfl⟩ K3 O3 hK3 hO3
  unfold nG at H;dsimp only at H
  refine Wsq [0,3] fun K4 hK4=>?_
  obtain⟨r7,hr7,H⟩:=bE H
  refine jV tok [] [0,3,15] (fun a σ=>∃M3:Nat,M1+3≤M3∧r7.2.length=s5.length∧a=[(0,.fsl (eL rQuad p0)),(3,.sl o1 0 s5.length),(15,.bool r7.1)]∧σ=hp E0 [(o1,some ⟨4,1,eL rB r7.2⟩)] M3) (fun K hK=>?_) ?_
  ·skip
   simp -dsimp -implicitDefEqProofs
   refine(c177 (H:=hr7) (by simp)).mono ?_;rintro _ _ ⟨M3,fM3_0,fM3_1,rfl,rfl⟩;simp only[hpN] at fM3_0
   try simp -dsimp -implicitDefEqProofs [hoS,hoN]
   exact hK _ _ ⟨M3,(by omega),fM3_1,rfl,rfl⟩
  rintro a σ ⟨M3,fM3_0,fM3_1,rfl,rfl⟩
  try rw[← fM3_1]
  refine Ci H (fun H=>?_) fun H=>?_
  ·refine Wsk (Jn hK4 ?_)
   refine Wbl (Wth ?_)
   refine Wsk ?_
   show K3 _ _
   refine kE [0,3] fun a' ha=>?_
   obtain rfl:=oi H
   refine hK3 _ _ _ rfl ?_;rw[ha]
   exact Rf ⟨M3,o1,(by omega),(by omega),(by omega),rfl,rfl⟩
  obtain rfl:=oi H
  refine zJ (hO3 _ _ _ _ rfl ⟨rfl,?_⟩)
  refine Rc.rw (l:=[3]) (X:=[(3,.sl o1 0 r7.2.length)]) rfl ?_
  exact Rf ⟨M3,o1,(by omega),(by omega),(by omega),rfl,rfl⟩
 intro x a σ hx
 obtain⟨y6,rfl⟩:∃x,x=e1:=⟨_,rfl⟩
 obtain⟨rfl,b,τ,hr,M2,o2,fM2_0,fM2_1,fM2_2,rfl,rfl⟩:=hx
 (try dsimp only at H)
 show K2 _ _
 refine hK2 _ _ (zK hr ?_)
 refine Rc.mk ?_
 refine S0 tok [] [2] ?_
 obtain rfl:=oi H
 refine Kp [2] ?_
 refine Wr ?_
 refine⟨[.sl o2 0 y6.length],by simp,M2+2,o2,by omega,by omega,by omega,?_,?_⟩
 ·simp[eN]
 first|rfl|simp

theorem c161 {p0:List Bool}{p1:Int}{r:Int}(H:sY p0 p1=some r):APure Tryz.prog G 161 [.fsl (eL rB p0),.int .i64 p1] (.int .i64 r):=by
 refine zE (fun N0=>?_) (by simp)
 refine fnK tok Tryz.func161 Tryz.ntmps161 Tryz.results161 ?_
 simp only[argsA,Nat.reduceAdd,hpN]
 unfold sY at H
 refine S0 tok [] [0,1] ?_
 refine S0 tok [] [0,1,5] ?_
 refine Wsq [5] fun K1 hK1=>?_
 refine S0 tok [] [0,1,5,6] ?_
 refine Wbl (Wth ?_)
 obtain⟨e1,hse1,H⟩:=bE H
 refine zS [0,1,5,6] (fun s a σ=>∃M1:Nat,N0≤M1∧a=[(0,.fsl (eL rB p0)),(1,.int .i64 p1),(5,.int .i64 s.1),(6,.int .i64 s.2)]∧σ=hp E0 [] M1) (fun s x a σ=>x=.exit 0∧Rc G 19 N0 (fun a σ=>∃M2:Nat,N0≤M2∧a=[(5,.int .i64 s)]∧σ=hp E0 [] M2) (AAct.keep a [5]) σ) hse1 ?_ ?_ ?_
 ·refine Rc.kp [0,1,5,6] [(0,.fsl (eL rB p0)),(1,.int .i64 p1),(5,.int .i64 0),(6,.int .i64 0)] rfl ?_
  exact Rf ⟨N0+3,(by omega),rfl,rfl⟩
 ·clear H hse1
  rintro⟨s1,s2⟩ fl a σ H ⟨M1,fM1_0,rfl,rfl⟩ K2 O2 hK2 hO2
  unfold xI at H;dsimp only at H
  refine Wsq [0,1,5,6] fun K3 hK3=>?_
  refine S0 tok [] [0,1,5,6,9] ?_
  refine Ci H (fun H=>?_) fun H=>?_
  ·refine Wsk (Jn hK3 ?_)
   refine Wsq [0,1,5,6] fun K4 hK4=>?_
   refine Wbl (Wth ?_)
   obtain⟨v4,hv4,H⟩:=bE H
   refine Sx tok [] [0,1,5,6,15] (by intro K k;simp -dsimp -implicitDefEqProofs [ix39 hv4];exact k) ?_
   refine Ci H (fun H=>?_) fun H=>?_
   ·refine Rt0 tok [] [0,1,5,6] fun a ha=>?_
    refine hK4 _ _ ?_;rw[ha]
    refine Rc.mk ?_
    refine Rt0 tok [] [0,1,5,6] fun a ha=>?_
    obtain rfl:=oi H
    refine hK2 _ _ _ rfl ?_;rw[ha]
    exact Rf ⟨M1+13,(by omega),rfl,rfl⟩
   refine Wsk (Jn hK4 ?_)
   refine Rt0 tok [] [0,1,5,6] fun a ha=>?_
   obtain rfl:=oi H
   refine hK2 _ _ _ rfl ?_;rw[ha]
   exact Rf ⟨M1+10,(by omega),rfl,rfl⟩
  obtain rfl:=oi H
  refine zJ (hO2 _ _ _ _ rfl ⟨rfl,?_⟩)
  refine Rc.rw (l:=[5]) (X:=[(5,.int .i64 s1)]) rfl ?_
  exact Rf ⟨M1+3,(by omega),rfl,rfl⟩
 intro x a σ hx
 obtain⟨y3,rfl⟩:∃x,x=e1:=⟨_,rfl⟩
 obtain⟨rfl,b,τ,hr,M2,fM2_0,rfl,rfl⟩:=hx
 (try dsimp only at H)
 show K1 _ _
 refine hK1 _ _ (zK hr ?_)
 refine Rc.mk ?_
 refine S0 tok [] [4] ?_
 obtain rfl:=oi H;exact Wr ⟨_,rfl,4,by simp[eN]⟩

theorem c134 {p0:List gQuad}{r:(List gQuad)×Bool}(H:xU p0=some r):APure Tryz.prog G 134 [.fsl (eL rQuad p0)] (.tup [.fsl (eL rQuad r.1),.bool r.2]):=by
 refine zE (fun N0=>?_) (by simp)
 refine fnK tok Tryz.func134 Tryz.ntmps134 Tryz.results134 ?_
 simp only[argsA,Nat.reduceAdd,hpN]
 unfold xU at H
 refine S0 tok [] [0] ?_
 have q0:∀σ i,bsA T 34 true i 0 [] σ=some (.esl,σ):=fun _ _=>rfl
 refine Sx tok [0] [0,4] (by intro K k;simp -dsimp -implicitDefEqProofs [q0];exact k) ?_
 refine Wsq [0,4] fun K1 hK1=>?_
 obtain⟨r1,hr1,H⟩:=bE H
 refine Sx tok [] [0,4,12] (by intro K k;(repeat first|simp -dsimp -implicitDefEqProofs|refine(c103 hr1).app ?_);exact k) ?_
 refine Ci H (fun H=>?_) fun H=>?_
 ·refine S0 tok [] [2,3] ?_
  obtain rfl:=oi H;exact Wr ⟨_,rfl,4,by simp[eN]⟩
 refine Wsk (Jn hK1 ?_)
 obtain⟨r2,hr2,H⟩:=bE H
 refine jV tok [] [0,4,5] (fun a σ=>∃M1 o1:Nat,N0+10≤M1∧N0+10≤o1∧o1<M1∧a=[(0,.fsl (eL rQuad p0)),(4,.esl),(5,.sl o1 0 r2.length)]∧σ=hp E0 [(o1,some ⟨4,1,eL rB r2⟩)] M1) (fun K hK=>?_) ?_
 ·skip
  simp -dsimp -implicitDefEqProofs
  refine(c159_o (H:=hr2)).mono ?_;rintro _ _ ⟨M1,o1,fM1_0,fM1_1,fM1_2,rfl,rfl⟩;simp only[hpN] at fM1_0 fM1_1 fM1_2
  try simp -dsimp -implicitDefEqProofs [hoS,hoN]
  exact hK _ _ ⟨M1,o1,(by omega),(by omega),(by omega),rfl,rfl⟩
 rintro a σ ⟨M1,o1,fM1_0,fM1_1,fM1_2,rfl,rfl⟩
 refine Wsq [0,4,5] fun K2 hK2=>?_
 refine S0 tok [] [0,4,5,6] ?_
 refine Wbl (Wth ?_)
 obtain⟨e1,hse1,H⟩:=bE H
 refine zS [0,4,5,6] (fun s a σ=>∃M2 o2:Nat,N0≤M2∧N0≤o2∧o2<M2∧a=[(0,.fsl (eL rQuad p0)),(4,.esl),(5,.sl o2 0 s.2.length),(6,.int .i64 s.1)]∧σ=hp E0 [(o2,some ⟨4,1,eL rB s.2⟩)] M2) (fun s x a σ=>x=.exit 0∧Rc G 71 N0 (fun a σ=>∃M3 o3:Nat,N0≤M3∧N0≤o3∧o3<M3∧a=[(0,.fsl (eL rQuad p0)),(4,.esl),(5,.sl o3 0 s.length)]∧σ=hp E0 [(o3,some ⟨4,1,eL rB s⟩)] M3) (AAct.keep a [0,4,5]) σ) hse1 ?_ ?_ ?_
 ·refine Rc.kp [0,4,5,6] [(0,.fsl (eL rQuad p0)),(4,.esl),(5,.sl o1 0 r2.length),(6,.int .i64 0)] rfl ?_
  exact Rf ⟨M1+1,o1,(by omega),(by omega),(by omega),rfl,rfl⟩
 ·clear H hse1
  rintro⟨s3,s4⟩ fl a σ H ⟨M2,o2,fM2_0,fM2_1,fM2_2,rfl,rfl⟩ K3 O3 hK3 hO3
  unfold yT at H;dsimp only at H
  refine Wsq [0,4,5,6] fun K4 hK4=>?_
  refine S0 tok [] [0,4,5,6,19] ?_
  refine Ci H (fun H=>?_) fun H=>?_
  ·refine Wsk (Jn hK4 ?_)
   refine Wsq [0,4,5,6] fun K5 hK5=>?_
   refine Wbl (Wth ?_)
   obtain⟨v6,hv6,H⟩:=bE H
   obtain⟨g9,hg9,H⟩:=bE H
   obtain⟨l10,hl10,H⟩:=bE H
   refine gR tok [] [0,4,5,6] (fun a σ=>a=[(0,.fsl (eL rQuad p0)),(4,.esl),(5,.sl o2 0 s4.length),(6,.int .i64 s3)]∧σ=hp E0 [(o2,some ⟨4,1,eL rB l10⟩)] (M2+21)) (fun K hK=>?_) ?_
   ·skip
    simp -dsimp -implicitDefEqProofs [ixo39 hv6,(zG hv6).2.2,(setx_iff.1 hl10).2.symm]
    cases hbg9:v6
    ·obtain rfl:=oi (ifF hbg9 hg9)
     try simp -dsimp -implicitDefEqProofs [ixo39 hv6,(zG hv6).2.2,(setx_iff.1 hl10).2.symm,hbg9]
     exact hK _ _ ⟨rfl,rfl⟩
    replace hg9:=ifT hbg9 hg9
    obtain⟨v7,hv7,hg9⟩:=bE hg9
    obtain⟨r8,hr8,hg9⟩:=bE hg9
    obtain rfl:=oi hg9
    try simp -dsimp -implicitDefEqProofs [ixo39 hv6,(zG hv6).2.2,(setx_iff.1 hl10).2.symm,hbg9,ix34 hv7]
    refine(c160 hr8).app ?_;try simp -dsimp -implicitDefEqProofs [ixo39 hv6,(zG hv6).2.2,(setx_iff.1 hl10).2.symm,hbg9,ix34 hv7]
    exact hK _ _ ⟨rfl,rfl⟩
   rintro a σ ⟨ha,rfl⟩
   (try rw[← zH hl10] at ha);(try rw[← zH hl10])
   refine hK5 _ _ ?_;rw[ha]
   refine Rc.mk ?_
   refine Rt0 tok [] [0,4,5,6] fun a ha=>?_
   obtain rfl:=oi H
   refine hK3 _ _ _ rfl ?_;rw[ha]
   exact Rf ⟨M2+24,o2,(by omega),(by omega),(by omega),rfl,rfl⟩
  obtain rfl:=oi H
  refine zJ (hO3 _ _ _ _ rfl ⟨rfl,?_⟩)
  refine Rc.rw (l:=[0,4,5]) (X:=[(0,.fsl (eL rQuad p0)),(4,.esl),(5,.sl o2 0 s4.length)]) rfl ?_
  exact Rf ⟨M2+4,o2,(by omega),(by omega),(by omega),rfl,rfl⟩
 intro x a σ hx
 obtain⟨y5,rfl⟩:∃x,x=e1:=⟨_,rfl⟩
 obtain⟨rfl,b,τ,hr,M3,o3,fM3_0,fM3_1,fM3_2,rfl,rfl⟩:=hx
 (try dsimp only at H)
 show K2 _ _
 refine hK2 _ _ (zK hr ?_)
 refine Rc.mk ?_
 refine Wsq [4] fun K6 hK6=>?_
 refine S0 tok [] [0,4,5,7] ?_
 refine Wbl (Wth ?_)
 obtain⟨e3,hse3,H⟩:=bE H
 refine zS [0,4,5,7] (fun s a σ=>∃M4 o4 o5:Nat,N0≤M4∧N0≤o4∧o4<M4∧N0≤o5∧o5<M4∧¬o4=o5∧a=[(0,.fsl (eL rQuad p0)),(4,.sl o5 0 s.2.2.length),(5,.sl o4 0 s.2.1.length),(7,.int .i64 s.1)]∧σ=hp E0 [(o4,some ⟨4,1,eL rB s.2.1⟩),(o5,some ⟨36,5,eL rQuad s.2.2⟩)] M4) (fun s x a σ=>x=.exit 2∧Rc G 71 N0 (fun a σ=>∃M5 o6:Nat,N0≤M5∧N0≤o6∧o6<M5∧a=[(4,.sl o6 0 s.length)]∧σ=hp E0 [(o6,some ⟨36,5,eL rQuad s⟩)] M5) (AAct.keep a [4]) σ) hse3 ?_ ?_ ?_
 ·refine Rc.kp [0,4,5,7] [(0,.fsl (eL rQuad p0)),(4,.esl),(5,.sl o3 0 y5.length),(7,.int .i64 0)] rfl ?_
  refine gNilS zK 4 36 5 [(o3,some ⟨4,1,eL rB y5⟩),(M3+1,some ⟨36,5,eL rQuad ([]:List gQuad)⟩)] [(0,.fsl (eL rQuad p0)),(4,.sl (M3+1) 0 ([]:List gQuad).length),(5,.sl o3 0 y5.length),(7,.int .i64 0)] (by simp(disch:=omega)) (by simp(disch:=omega) [eN]) [0,4,5,7] rfl ?_
  exact Rf ⟨M3+2,o3,(M3+1),(by omega),(by omega),(by omega),(by omega),(by omega),(by omega),rfl,rfl⟩
 ·clear H hse3
  rintro⟨s11,s12,s13⟩ fl a σ H ⟨M4,o4,o5,fM4_0,fM4_1,fM4_2,fM4_3,fM4_4,fM4_5,rfl,rfl⟩ K7 O7 hK7 hO7
  unfold uL at H;dsimp only at H
  refine Wsq [0,4,5,7] fun K8 hK8=>?_
  refine Sx tok [] [0,4,5,7,41] (by
   intro K k
   have e0:=nQ o4 o5
   simp -dsimp -implicitDefEqProofs [e0]
   exact k) ?_
  refine Ci H (fun H=>?_) fun H=>?_
  ·refine Wsk (Jn hK8 ?_)
   refine Wsq [0,4,5,7] fun K9 hK9=>?_
   refine Wbl (Wth ?_)
   obtain⟨v15,hv15,H⟩:=bE H
   refine Sx tok [] [0,4,5,7,8] (by
    intro K k
    have e0:=nQ o4 o5
    have e1:=nQ o4 (M4+8)
    have e2:=nQ o5 (M4+8)
    simp -dsimp -implicitDefEqProofs [e0,e1,e2,ix34 hv15]
    exact k) ?_
   refine Wsq [0,4,5,7,8] fun K10 hK10=>?_
   obtain⟨v16,hv16,H⟩:=bE H
   refine Sx tok [] [0,4,5,7,8,52] (by
    intro K k
    have e0:=nQ o4 o5
    have e1:=nQ o4 (M4+8)
    have e2:=nQ o5 (M4+8)
    simp -dsimp -implicitDefEqProofs [e0,e1,e2,ixo39 hv16,(zG hv16).2.2]
    exact k) ?_
   refine Ci H (fun H=>?_) fun H=>?_
   ·refine zJ ?_
    show K9 _ _
    refine kE [0,4,5,7] fun a' ha=>?_
    refine hK9 _ _ ?_;rw[ha]
    refine Rc.mk ?_
    refine Rt tok [] [0,4,5,7] (by
     intro K k
     have e0:=nQ o4 o5
     have e1:=nQ o4 (M4+8)
     have e2:=nQ o5 (M4+8)
     simp -dsimp -implicitDefEqProofs [e0,e1,e2]
     exact k) fun a ha=>?_
    obtain rfl:=oi H
    refine hK7 _ _ _ rfl ?_;rw[ha]
    exact Rc.fin (zP (zP (AHeap.Sub.trans (AHeap.Sub.refl _) (zY rfl (by simp;try omega))))) ⟨M4+18,o4,o5,(by omega),(by omega),(by omega),(by omega),(by omega),(by omega),rfl,rfl⟩
   refine Wsk (Jn hK10 ?_)
   obtain⟨j2,hj2,H⟩:=bE H
   refine kR (kQ fun K11 hK11=>?_)
   have hJ1:∀a σ,Rc G 71 N0 (fun a σ=>∃M6:Nat,N0≤M6∧o4<M6∧o5<M6∧M4+8<M6∧a=[(0,.fsl (eL rQuad p0)),(4,.sl o5 0 s13.length),(5,.sl o4 0 s12.length),(7,.int .i64 s11),(8,.ptr (M4+8) 0 0)]∧σ=hp E0 [(o4,some ⟨4,1,eL rB s12⟩),(o5,some ⟨36,5,eL rQuad s13⟩),(M4+8,some ⟨36,5,[[.int .i64 j2.Op,.int .i64 j2.Dst,.int .i64 j2.A,.int .i64 j2.B,.int .i64 j2.N]]⟩)] M6) (a.keep [0,4,5,7,8]) σ→K11 a σ:=by
    rintro a σ ⟨b,τ,hr,M6,fM6_0,fM6_1,fM6_2,fM6_3,rfl,rfl⟩
    refine hK11 _ _ (kI [0,4,5,7,8] (Wre hr ?_))
    obtain⟨l18,hl18,H⟩:=bE H
    have q1:∀σ i,bsA T 34 true i 1 [(0,.agg [.int .i64 j2.Op,.int .i64 j2.Dst,.int .i64 j2.A,.int .i64 j2.B,.int .i64 j2.N])] σ=some (.fsl (eL rQuad ([j2]:List gQuad)),σ):=fun _ _=>rfl
    refine Rt tok [2] [0,4,5,7] (by
     intro K k
     have e0:=nQ o4 o5
     have e1:=nQ o4 (M4+8)
     have e2:=nQ o4 (M6+3)
     have e3:=nQ o5 (M4+8)
     have e4:=nQ o5 (M6+3)
     have e5:=nQ (M4+8) (M6+3)
     have e6:=nQ (M4+5) M6
     simp -dsimp -implicitDefEqProofs [e0,e1,e2,e3,e4,e5,e6,q1,app34 hl18]
     exact k) fun a ha=>?_
    refine hK9 _ _ ?_;rw[ha]
    refine Rc.mk ?_
    refine Rt tok [] [0,4,5,7] (by
     intro K k
     have e0:=nQ o4 (M4+8)
     have e1:=nQ o4 (M6+3)
     have e2:=nQ (M4+8) (M6+3)
     have e3:=nQ (M4+5) M6
     simp -dsimp -implicitDefEqProofs [e0,e1,e2,e3]
     exact k) fun a ha=>?_
    obtain rfl:=oi H
    refine hK7 _ _ _ rfl ?_;rw[ha]
    exact Rc.fin (zP (AHeap.Sub.trans (zP (AHeap.Sub.refl _)) (zY rfl (by simp;try omega)))) ⟨M6+8,o4,(M6+3),(by omega),(by omega),(by omega),(by omega),(by omega),(by omega),rfl,rfl⟩
   replace H:=hj2
   obtain⟨g19,hg19,H⟩:=bE H
   refine Sx tok [] [0,4,5,7,8,60] (X:=[(0,.fsl (eL rQuad p0)),(4,.sl o5 0 s13.length),(5,.sl o4 0 s12.length),(7,.int .i64 s11),(8,.ptr (M4+8) 0 0),(60,.bool g19)]) (Y:=hp E0 [(o4,some ⟨4,1,eL rB s12⟩),(o5,some ⟨36,5,eL rQuad s13⟩),(M4+8,some ⟨36,5,[[.int .i64 v15.Op,.int .i64 v15.Dst,.int .i64 v15.A,.int .i64 v15.B,.int .i64 v15.N]]⟩)] (M4+23)) (by
    intro K k
    have e0:=nQ o4 o5
    have e1:=nQ o4 (M4+8)
    have e2:=nQ o5 (M4+8)
    simp -dsimp -implicitDefEqProofs [e0,e1,e2]
    cases hbg19:ieq v15.Op 4
    ·obtain rfl:=oi (ifF hbg19 hg19)
     try simp -dsimp -implicitDefEqProofs [e0,e1,e2,hbg19]
     exact k
    obtain rfl:=oi (ifT hbg19 hg19)
    try simp -dsimp -implicitDefEqProofs [e0,e1,e2,hbg19]
    exact k) ?_
   refine Ci H (fun H=>?_) fun H=>?_
   ·obtain⟨r20,hr20,H⟩:=bE H
    refine gR tok [] [0,4,5,7,8] (fun a σ=>a=[(0,.fsl (eL rQuad p0)),(4,.sl o5 0 s13.length),(5,.sl o4 0 s12.length),(7,.int .i64 s11),(8,.ptr (M4+8) 0 0)]∧σ=hp E0 [(o4,some ⟨4,1,eL rB s12⟩),(o5,some ⟨36,5,eL rQuad s13⟩),(M4+8,some ⟨36,5,[[.int .i64 v15.Op,.int .i64 v15.Dst,.int .i64 v15.A,.int .i64 v15.B,.int .i64 r20]]⟩)] (M4+29)) (fun K hK=>?_) ?_
    ·skip
     have e0:=nQ o4 o5
     have e1:=nQ o4 (M4+8)
     have e2:=nQ o5 (M4+8)
     simp -dsimp -implicitDefEqProofs [e0,e1,e2]
     refine(borrow 8 (c161 hr20) (by simp[e0,e1,e2]) rfl).mono ?_;rintro _ _ ⟨rfl,rfl⟩;try simp -dsimp -implicitDefEqProofs [e0,e1,e2]
     exact hK _ _ ⟨rfl,rfl⟩
    rintro a σ ⟨ha,rfl⟩
    obtain rfl:=oi H
    refine hJ1 _ _ ?_;rw[ha]
    exact Rf ⟨M4+29,(by omega),(by omega),(by omega),(by omega),rfl,rfl⟩
   refine Wsk ?_
   show K11 _ _
   refine kE [0,4,5,7,8] fun a' ha=>?_
   obtain rfl:=oi H
   refine hJ1 _ _ ?_;rw[ha]
   exact Rf ⟨M4+23,(by omega),(by omega),(by omega),(by omega),rfl,rfl⟩
  obtain rfl:=oi H
  refine zJ (hO7 _ _ _ _ rfl ⟨rfl,?_⟩)
  refine Rc.rw (l:=[4]) (X:=[(4,.sl o5 0 s13.length)]) rfl ?_
  exact Rc.fin (AHeap.Sub.trans (zP (AHeap.Sub.refl _)) (zY rfl (by simp;try omega))) ⟨M4+4,o5,(by omega),(by omega),(by omega),rfl,rfl⟩
 intro x a σ hx
 obtain⟨y14,rfl⟩:∃x,x=e3:=⟨_,rfl⟩
 obtain⟨rfl,b,τ,hr,M5,o6,fM5_0,fM5_1,fM5_2,rfl,rfl⟩:=hx
 (try dsimp only at H)
 show K6 _ _
 refine hK6 _ _ (zK hr ?_)
 refine Rc.mk ?_
 refine S0 tok [] [2,3] ?_
 obtain rfl:=oi H;exact Wr ⟨_,rfl,4,by simp[eN]⟩

theorem c118 {p0:List gQuad}{r:List gQuad}(H:nS p0=some r):APure Tryz.prog G 118 [.fsl (eL rQuad p0)] (.fsl (eL rQuad r)):=by
 refine zE (fun N0=>?_) (by simp)
 refine fnK tok Tryz.func118 Tryz.ntmps118 Tryz.results118 ?_
 simp only[argsA,Nat.reduceAdd,hpN]
 unfold nS at H
 refine S0 tok [] [0] ?_
 obtain⟨r1,hr1,H⟩:=bE H
 refine Sx tok [] [3] (by intro K k;(repeat first|simp -dsimp -implicitDefEqProofs|refine(c130 hr1).app ?_);exact k) ?_
 obtain⟨r2,hr2,H⟩:=bE H
 refine Sx tok [] [5] (by intro K k;(repeat first|simp -dsimp -implicitDefEqProofs|refine(c131 hr2).app ?_);exact k) ?_
 obtain⟨r3,hr3,H⟩:=bE H
 refine Sx tok [] [7] (by intro K k;(repeat first|simp -dsimp -implicitDefEqProofs|refine(c132 hr3).app ?_);exact k) ?_
 obtain⟨r4,hr4,H⟩:=bE H
 refine Sx tok [] [9] (by intro K k;(repeat first|simp -dsimp -implicitDefEqProofs|refine(c133 hr4).app ?_);exact k) ?_
 obtain⟨r5,hr5,H⟩:=bE H
 refine Sx tok [] [11] (by intro K k;(repeat first|simp -dsimp -implicitDefEqProofs|refine(c134 hr5).app ?_);exact k) ?_
 refine S0 tok [] [2] ?_
 obtain rfl:=oi H;exact Wr ⟨_,rfl,4,by simp[eN]⟩

theorem c101 {p0:List gQuad}{p1:Int}{r:(List gQuad)×Bool}(H:jN p0 p1=some r):APure Tryz.prog G 101 [.fsl (eL rQuad p0),.int .i64 p1] (.tup [.fsl (eL rQuad r.1),.bool r.2]):=by
 refine zE (fun N0=>?_) (by simp)
 refine fnK tok Tryz.func101 Tryz.ntmps101 Tryz.results101 ?_
 simp only[argsA,Nat.reduceAdd,hpN]
 unfold jN at H
 refine S0 tok [] [0,1] ?_
 refine Wsq [0,1] fun K1 hK1=>?_
 obtain⟨r1,hr1,H⟩:=bE H
 obtain⟨g3,hg3,H⟩:=bE H
 refine Sx tok [] [0,1,15] (X:=[(0,.fsl (eL rQuad p0)),(1,.int .i64 p1),(15,.bool g3)]) (Y:=hp E0 [] (N0+10)) (by
  intro K k
  simp -dsimp -implicitDefEqProofs
  refine(c103 hr1).app ?_;try simp -dsimp -implicitDefEqProofs
  cases hbg3:bnot r1
  ·replace hg3:=ifF hbg3 hg3
   obtain⟨r2,hr2,hg3⟩:=bE hg3
   obtain rfl:=oi hg3
   try simp -dsimp -implicitDefEqProofs [hbg3]
   refine(c66 hr2).app ?_;try simp -dsimp -implicitDefEqProofs [hbg3]
   exact k
  obtain rfl:=oi (ifT hbg3 hg3)
  try simp -dsimp -implicitDefEqProofs [hbg3]
  exact k) ?_
 refine Ci H (fun H=>?_) fun H=>?_
 ·have q0:∀σ i,bsA T 34 true i 0 [] σ=some (.esl,σ):=fun _ _=>rfl
  refine Sx tok [0] [4,5] (by intro K k;simp -dsimp -implicitDefEqProofs [q0];exact k) ?_
  obtain rfl:=oi H;exact Wr ⟨_,rfl,4,by simp[eN]⟩
 refine Wsk (Jn hK1 ?_)
 obtain⟨l4,hl4,H⟩:=bE H
 have q1:∀σ i,bsA T 34 true i 0 [] σ=some (.esl,σ):=fun _ _=>rfl
 refine Sx tok [0,2] [1,6] (by intro K k;simp -dsimp -implicitDefEqProofs [q1,appf34 hl4];exact k) ?_
 refine Wsq [6] fun K2 hK2=>?_
 refine S0 tok [] [1,6,7] ?_
 refine Wbl (Wth ?_)
 obtain⟨e1,hse1,H⟩:=bE H
 refine zS [1,6,7] (fun s a σ=>∃M1:Nat,N0≤M1∧a=[(1,.int .i64 p1),(6,.fsl (eL rQuad s.1)),(7,.int .i64 s.2)]∧σ=hp E0 [] M1) (fun s x a σ=>x=.exit 0∧Rc G 28 N0 (fun a σ=>∃M2:Nat,N0≤M2∧a=[(6,.fsl (eL rQuad s))]∧σ=hp E0 [] M2) (AAct.keep a [6]) σ) hse1 ?_ ?_ ?_
 ·refine Rc.kp [1,6,7] [(1,.int .i64 p1),(6,.fsl (eL rQuad l4)),(7,.int .i64 0)] rfl ?_
  exact Rf ⟨N0+15,(by omega),rfl,rfl⟩
 ·clear H hse1
  rintro⟨s5,s6⟩ fl a σ H ⟨M1,fM1_0,rfl,rfl⟩ K3 O3 hK3 hO3
  unfold wQ at H;dsimp only at H
  refine Wsq [1,6,7] fun K4 hK4=>?_
  refine S0 tok [] [1,6,7,22] ?_
  refine Ci H (fun H=>?_) fun H=>?_
  ·refine Wsk (Jn hK4 ?_)
   refine Wsq [1,6,7] fun K5 hK5=>?_
   refine Wbl (Wth ?_)
   obtain⟨r8,hr8,H⟩:=bE H
   refine Rt tok [] [1,6,7] (by intro K k;(repeat first|simp -dsimp -implicitDefEqProofs|refine(c118 hr8).app ?_);exact k) fun a ha=>?_
   refine hK5 _ _ ?_;rw[ha]
   refine Rc.mk ?_
   refine Rt0 tok [] [1,6,7] fun a ha=>?_
   obtain rfl:=oi H
   refine hK3 _ _ _ rfl ?_;rw[ha]
   exact Rf ⟨M1+9,(by omega),rfl,rfl⟩
  obtain rfl:=oi H
  refine zJ (hO3 _ _ _ _ rfl ⟨rfl,?_⟩)
  refine Rc.rw (l:=[6]) (X:=[(6,.fsl (eL rQuad s5))]) rfl ?_
  exact Rf ⟨M1+3,(by omega),rfl,rfl⟩
 intro x a σ hx
 obtain⟨y7,rfl⟩:∃x,x=e1:=⟨_,rfl⟩
 obtain⟨rfl,b,τ,hr,M2,fM2_0,rfl,rfl⟩:=hx
 (try dsimp only at H)
 show K2 _ _
 refine hK2 _ _ (zK hr ?_)
 refine Rc.mk ?_
 refine S0 tok [] [4,5] ?_
 obtain rfl:=oi H;exact Wr ⟨_,rfl,4,by simp[eN]⟩

theorem c75 {p0:gL6Rd}{r:(List gQuad)×gL6Rd}(H:nL p0=some r){σ:AHeap}{w0:Nat}{W0:List (List AV)}{r0_:Nat}(q0:σ.objs w0=some ⟨105,2,W0⟩)(g0:W0[r0_]? =some [.fsl (eL rU8 p0.b),.int .i64 p0.p]):ACalls Tryz.prog G 75 [.ptr w0 r0_ 0] σ (fun v σ'=>∃M:Nat,σ.next≤M∧v=.fsl (eL rQuad r.1)∧σ'=hp σ.objs [(w0,some ⟨105,2,W0.set r0_ [.fsl (eL rU8 r.2.b),.int .i64 r.2.p]⟩)] M):=by
 refine fr1 ([(w0,some ⟨105,2,W0⟩)]) (by simp[q0]) (fun hlt=>?_) ⟨_,Tryz.func75,rfl,rfl⟩
 generalize σ.next=N0 at hlt ⊢
 have lw0:w0<N0:=hlt _ (.head _) rfl
 have gs_W0:∀x,(W0.set r0_ x)[r0_]? =some x:=gsetW g0
 rw[← kH g0]
 refine fnK tok Tryz.func75 Tryz.ntmps75 Tryz.results75 ?_
 simp only[argsA,Nat.reduceAdd,hpN]
 unfold nL at H
 refine Sx tok [] [0] (by intro K k;simp -dsimp -implicitDefEqProofs [gs_W0];exact k) ?_
 refine Wsq [0] fun K1 hK1=>?_
 obtain⟨r1,hr1,H⟩:=bE H
 refine Sm tok [] [0,9] (N0+4) (by
  intro K k
  simp -dsimp -implicitDefEqProofs [gs_W0]
  refine(c41 (W0:=W0.set r0_ [.fsl (eL rU8 p0.b),.int .i64 p0.p]) (r0_:=r0_) (H:=hr1) (by simp[gs_W0]) (by simp[gs_W0])).mono ?_;rintro _ _ ⟨M1,fM1_0,rfl,rfl⟩;simp only[hpN] at fM1_0
  try simp -dsimp -implicitDefEqProofs [gs_W0,hoS,hoN]
  exact k M1 (by omega)) fun M1 fM1_0=>?_
 refine Ci H (fun H=>?_) fun H=>?_
 ·obtain⟨r2,hr2,H⟩:=bE H
  refine Sm tok [] [2] (M1+3) (by
   intro K k
   simp -dsimp -implicitDefEqProofs [gs_W0]
   refine(c98 (W0:=W0.set r0_ [.fsl (eL rU8 r1.2.b),.int .i64 r1.2.p]) (r0_:=r0_) (H:=hr2) (by simp[gs_W0]) (by simp[gs_W0])).mono ?_;rintro _ _ ⟨M2,fM2_0,rfl,rfl⟩;simp only[hpN] at fM2_0
   try simp -dsimp -implicitDefEqProofs [gs_W0,hoS,hoN]
   exact k M2 (by omega)) fun M2 fM2_0=>?_
  obtain rfl:=oi H
  refine Kp [2] ?_
  refine Wr ?_
  refine⟨[.fsl (eL rQuad r2.1)],by simp[gs_W0],M2,by omega,?_,?_⟩
  ·simp[eN]
  first|rfl|simp
 refine Wsk (Jn hK1 ?_)
 obtain⟨r3,hr3,H⟩:=bE H
 obtain⟨r4,hr4,H⟩:=bE H
 refine Sm tok [] [0,3] (M1+8) (by
  intro K k
  simp -dsimp -implicitDefEqProofs [gs_W0]
  refine(c100 (W0:=W0.set r0_ [.fsl (eL rU8 r1.2.b),.int .i64 r1.2.p]) (r0_:=r0_) (H:=hr3) (by simp[gs_W0]) (by simp[gs_W0])).mono ?_;rintro _ _ ⟨M3,fM3_0,rfl,rfl⟩;simp only[hpN] at fM3_0
  try simp -dsimp -implicitDefEqProofs [gs_W0,hoS,hoN]
  refine(c99 hr4).app ?_;try simp -dsimp -implicitDefEqProofs [gs_W0,hoS,hoN]
  exact k M3 (by omega)) fun M3 fM3_0=>?_
 refine Wsq [0,3] fun K2 hK2=>?_
 refine Sx tok [] [0,3,20] (by intro K k;simp -dsimp -implicitDefEqProofs [gs_W0];exact k) ?_
 refine Ci H (fun H=>?_) fun H=>?_
 ·obtain⟨r5,hr5,H⟩:=bE H
  refine Sm tok [] [2] (M3+6) (by
   intro K k
   simp -dsimp -implicitDefEqProofs [gs_W0]
   refine(c98 (W0:=W0.set r0_ [.fsl (eL rU8 r3.2.b),.int .i64 r3.2.p]) (r0_:=r0_) (H:=hr5) (by simp[gs_W0]) (by simp[gs_W0])).mono ?_;rintro _ _ ⟨M4,fM4_0,rfl,rfl⟩;simp only[hpN] at fM4_0
   try simp -dsimp -implicitDefEqProofs [gs_W0,hoS,hoN]
   exact k M4 (by omega)) fun M4 fM4_0=>?_
  obtain rfl:=oi H
  refine Kp [2] ?_
  refine Wr ?_
  refine⟨[.fsl (eL rQuad r5.1)],by simp[gs_W0],M4,by omega,?_,?_⟩
  ·simp[eN]
  first|rfl|simp
 refine Wsk (Jn hK2 ?_)
 obtain⟨r6,hr6,H⟩:=bE H
 obtain⟨v7,hv7,H⟩:=bE H
 obtain⟨r8,hr8,H⟩:=bE H
 refine Sm tok [] [5] (M3+13) (by
  intro K k
  simp -dsimp -implicitDefEqProofs [gs_W0,hv7]
  refine(c41 (W0:=W0.set r0_ [.fsl (eL rU8 r3.2.b),.int .i64 r3.2.p]) (r0_:=r0_) (H:=hr6) (by simp[gs_W0,hv7]) (by simp[gs_W0,hv7])).mono ?_;rintro _ _ ⟨M5,fM5_0,rfl,rfl⟩;simp only[hpN] at fM5_0
  try simp -dsimp -implicitDefEqProofs [gs_W0,hv7,hoS,hoN]
  refine(c101 hr8).app ?_;try simp -dsimp -implicitDefEqProofs [gs_W0,hv7,hoS,hoN]
  exact k M5 (by omega)) fun M5 fM5_0=>?_
 refine Sx tok [] [2] (by intro K k;simp -dsimp -implicitDefEqProofs [gs_W0];exact k) ?_
 obtain rfl:=oi H
 refine Kp [2] ?_
 refine Wr ?_
 refine⟨[.fsl (eL rQuad r8.1)],by simp[gs_W0],M5+2,by omega,?_,?_⟩
 ·simp[eN]
 first|rfl|simp

theorem c42_o {p0:gL6Rd}{r:(List (List gQuad))×gL6Rd}(H:vO p0=some r){σ:AHeap}{w0:Nat}{W0:List (List AV)}{r0_:Nat}(q0:σ.objs w0=some ⟨105,2,W0⟩)(g0:W0[r0_]? =some [.fsl (eL rU8 p0.b),.int .i64 p0.p]):ACalls Tryz.prog G 42 [.ptr w0 r0_ 0] σ (fun v σ'=>∃M n0:Nat,σ.next≤M∧σ.next≤n0∧n0<M∧v=.sl n0 0 r.1.length∧σ'=hp σ.objs [(w0,some ⟨105,2,W0.set r0_ [.fsl (eL rU8 r.2.b),.int .i64 r.2.p]⟩),(n0,some ⟨34,1,eL zA r.1⟩)] M):=by
 refine fr2 ([(w0,some ⟨105,2,W0⟩)]) (by simp[q0]) (fun hlt=>?_) ⟨_,Tryz.func42,rfl,rfl⟩
 generalize σ.next=N0 at hlt ⊢
 have lw0:w0<N0:=hlt _ (.head _) rfl
 have gs_W0:∀x,(W0.set r0_ x)[r0_]? =some x:=gsetW g0
 rw[← kH g0]
 refine fnK tok Tryz.func42 Tryz.ntmps42 Tryz.results42 ?_
 simp only[argsA,Nat.reduceAdd,hpN]
 unfold vO at H
 refine Sx tok [] [0] (by intro K k;simp -dsimp -implicitDefEqProofs [gs_W0];exact k) ?_
 have q0:∀σ i,bsA T 24 true i 0 [] σ=some (.esl,σ):=fun _ _=>rfl
 refine Sx tok [0] [0,3] (by intro K k;simp -dsimp -implicitDefEqProofs [gs_W0,q0];exact k) ?_
 obtain⟨r1,hr1,H⟩:=bE H
 refine Sm tok [] [0,3,4] (N0+7) (by
  intro K k
  simp -dsimp -implicitDefEqProofs [gs_W0]
  refine(c41 (W0:=W0.set r0_ [.fsl (eL rU8 p0.b),.int .i64 p0.p]) (r0_:=r0_) (H:=hr1) (by simp[gs_W0]) (by simp[gs_W0])).mono ?_;rintro _ _ ⟨M1,fM1_0,rfl,rfl⟩;simp only[hpN] at fM1_0
  try simp -dsimp -implicitDefEqProofs [gs_W0,hoS,hoN]
  exact k M1 (by omega)) fun M1 fM1_0=>?_
 refine Wsq [3] fun K1 hK1=>?_
 refine Sx tok [] [0,3,4,5] (by intro K k;simp -dsimp -implicitDefEqProofs [gs_W0];exact k) ?_
 refine Wbl (Wth ?_)
 obtain⟨e1,hse1,H⟩:=bE H
 refine zS [0,3,4,5] (fun s a σ=>∃M2 o1:Nat,N0≤M2∧N0≤o1∧o1<M2∧a=[(0,.ptr w0 r0_ 0),(3,.sl o1 0 s.2.2.length),(4,.int .i64 (iadd .i64 1 r1.1)),(5,.int .i64 s.1)]∧σ=hp E0 [(w0,some ⟨105,2,W0.set r0_ [.fsl (eL rU8 s.2.1.b),.int .i64 s.2.1.p]⟩),(o1,some ⟨34,1,eL zA s.2.2⟩)] M2) (fun s x a σ=>x=.exit 0∧Rc G 21 N0 (fun a σ=>∃M3 o2:Nat,N0≤M3∧N0≤o2∧o2<M3∧a=[(3,.sl o2 0 s.2.length)]∧σ=hp E0 [(w0,some ⟨105,2,W0.set r0_ [.fsl (eL rU8 s.1.b),.int .i64 s.1.p]⟩),(o2,some ⟨34,1,eL zA s.2⟩)] M3) (AAct.keep a [3]) σ) hse1 ?_ ?_ ?_
 ·refine Rc.kp [0,3,4,5] [(0,.ptr w0 r0_ 0),(3,.esl),(4,.int .i64 (iadd .i64 1 r1.1)),(5,.int .i64 0)] rfl ?_
  refine gNilS zK 3 34 1 [(w0,some ⟨105,2,W0.set r0_ [.fsl (eL rU8 r1.2.b),.int .i64 r1.2.p]⟩),(M1+1,some ⟨34,1,eL zA ([]:List (List gQuad))⟩)] [(0,.ptr w0 r0_ 0),(3,.sl (M1+1) 0 ([]:List (List gQuad)).length),(4,.int .i64 (iadd .i64 1 r1.1)),(5,.int .i64 0)] (by simp(disch:=omega)) (by simp(disch:=omega) [eN]) [0,3,4,5] rfl ?_
  exact Rf ⟨M1+2,(M1+1),(by omega),(by omega),(by omega),rfl,rfl⟩
 ·clear H hse1
  rintro⟨s2,s3,s4⟩ fl a σ H ⟨M2,o1,fM2_0,fM2_1,fM2_2,rfl,rfl⟩ K2 O2 hK2 hO2
  unfold tE at H;dsimp only at H
  refine Wsq [0,3,4,5] fun K3 hK3=>?_
  refine Sx tok [] [0,3,4,5,12] (by
   intro K k
   have e0:=nQ w0 o1
   simp -dsimp -implicitDefEqProofs [e0,gs_W0]
   exact k) ?_
  refine Ci H (fun H=>?_) fun H=>?_
  ·refine Wsk (Jn hK3 ?_)
   refine Wsq [0,3,4,5] fun K4 hK4=>?_
   refine Wbl (Wth ?_)
   obtain⟨r7,hr7,H⟩:=bE H
   obtain⟨l8,hl8,H⟩:=bE H
   have q1:∀σ i,bsA T 24 true i 1 [(0,.fsl (eL rQuad r7.1))] σ=some (.fsl (eL zA ([r7.1]:List (List gQuad))),σ):=fun _ _=>rfl
   refine gR tok [3] [0,3,4,5] (fun a σ=>∃M4:Nat,M2+9≤M4∧a=[(0,.ptr w0 r0_ 0),(3,.sl (M2+7) 0 l8.length),(4,.int .i64 (iadd .i64 1 r1.1)),(5,.int .i64 s2)]∧σ=hp E0 [(w0,some ⟨105,2,W0.set r0_ [.fsl (eL rU8 r7.2.b),.int .i64 r7.2.p]⟩),(M2+7,some ⟨34,1,eL zA l8⟩)] M4) (fun K hK=>?_) ?_
   ·skip
    have e0:=nQ w0 o1
    have e1:=nQ w0 (M2+7)
    have e2:=nQ o1 (M2+7)
    simp -dsimp -implicitDefEqProofs [e0,e1,e2,gs_W0,q1,app24 hl8]
    refine(c75 (W0:=W0.set r0_ [.fsl (eL rU8 s3.b),.int .i64 s3.p]) (r0_:=r0_) (H:=hr7) (by simp[e0,e1,e2,gs_W0,q1,app24 hl8]) (by simp[e0,e1,e2,gs_W0,q1,app24 hl8])).mono ?_;rintro _ _ ⟨M4,fM4_0,rfl,rfl⟩;simp only[hpN] at fM4_0
    try simp -dsimp -implicitDefEqProofs [e0,e1,e2,gs_W0,q1,app24 hl8,hoS,hoN]
    exact hK _ _ ⟨M4,(by omega),rfl,rfl⟩
   rintro a σ ⟨M4,fM4_0,ha,rfl⟩
   refine hK4 _ _ ?_;rw[ha]
   refine Rc.mk ?_
   refine Rt tok [] [0,3,4,5] (by
    intro K k
    have e0:=nQ w0 (M2+7)
    simp -dsimp -implicitDefEqProofs [e0,gs_W0]
    exact k) fun a ha=>?_
   obtain rfl:=oi H
   refine hK2 _ _ _ rfl ?_;rw[ha]
   exact Rf ⟨M4+3,(M2+7),(by omega),(by omega),(by omega),rfl,rfl⟩
  obtain rfl:=oi H
  refine zJ (hO2 _ _ _ _ rfl ⟨rfl,?_⟩)
  refine Rc.rw (l:=[3]) (X:=[(3,.sl o1 0 s4.length)]) rfl ?_
  exact Rf ⟨M2+3,o1,(by omega),(by omega),(by omega),rfl,rfl⟩
 intro x a σ hx
 obtain⟨y5,y6⟩:=e1
 obtain⟨rfl,b,τ,hr,M3,o2,fM3_0,fM3_1,fM3_2,rfl,rfl⟩:=hx
 (try dsimp only at H)
 show K1 _ _
 refine hK1 _ _ (zK hr ?_)
 refine Rc.mk ?_
 refine Sx tok [] [2] (by
  intro K k
  have e0:=nQ w0 o2
  simp -dsimp -implicitDefEqProofs [e0,gs_W0]
  exact k) ?_
 obtain rfl:=oi H
 refine Kp [2] ?_
 have z0:=nQ w0 o2
 refine Wr ?_
 refine⟨[.sl o2 0 y6.length],by simp[z0,gs_W0],M3+2,o2,by omega,by omega,by omega,?_,?_⟩
 ·simp[eN]
 first|rfl|simp

theorem c12 {p0:List Int}{r:(List Int)×(List (List gQuad))}(H:jJ p0=some r):APure Tryz.prog G 12 [.fsl (eL rU8 p0)] (.tup [.fsl (eL rI r.1),.fsl (eL zA r.2)]):=by
 refine zE (fun N0=>?_) (by simp)
 refine fnK tok Tryz.func12 Tryz.ntmps12 Tryz.results12 ?_
 simp only[argsA,Nat.reduceAdd,hpN]
 unfold jJ at H
 refine S0 tok [] [0] ?_
 obtain⟨r1,hr1,H⟩:=bE H
 refine jV tok [] [4] (fun a σ=>∃M1 o1:Nat,N0+5≤M1∧N0+5≤o1∧o1<M1∧a=[(4,.ptr o1 0 0)]∧σ=hp E0 [(o1,some ⟨105,2,[[.fsl (eL rU8 r1.b),.int .i64 r1.p]]⟩)] M1) (fun K hK=>?_) ?_
 ·skip
  simp -dsimp -implicitDefEqProofs
  refine(c40_o (H:=hr1)).mono ?_;rintro _ _ ⟨M1,o1,fM1_0,fM1_1,fM1_2,rfl,rfl⟩;simp only[hpN] at fM1_0 fM1_1 fM1_2
  try simp -dsimp -implicitDefEqProofs [hoS,hoN]
  exact hK _ _ ⟨M1,o1,(by omega),(by omega),(by omega),rfl,rfl⟩
 rintro a σ ⟨M1,o1,fM1_0,fM1_1,fM1_2,rfl,rfl⟩
 obtain⟨r2,hr2,H⟩:=bE H
 obtain⟨r3,hr3,H⟩:=bE H
 obtain⟨l4,hl4,H⟩:=bE H
 have q0:∀σ i,bsA T 23 false i 2 [(0,.int .i64 (iadd .i64 1 r2.1)),(1,.int .i64 (iadd .i64 1 r3.1))] σ=some (.sl i 0 (List.length l4),σ.put i ⟨3,1,eL rI l4⟩):=by rw[← Option.some.inj hl4];exact fun _ _=>rfl
 refine Sm tok [] [4,5] (M1+8) (by
  intro K k
  have e0:=nQ o1 (M1+6)
  simp -dsimp -implicitDefEqProofs [e0,q0]
  refine(c41 (W0:=[[.fsl (eL rU8 r1.b),.int .i64 r1.p]]) (r0_:=0) (H:=hr2) (by simp[e0,q0]) (by simp[e0,q0])).mono ?_;rintro _ _ ⟨M2,fM2_0,rfl,rfl⟩;simp only[hpN] at fM2_0
  try simp -dsimp -implicitDefEqProofs [e0,q0,hoS,hoN]
  refine(c41 (W0:=[[.fsl (eL rU8 r2.2.b),.int .i64 r2.2.p]]) (r0_:=0) (H:=hr3) (by simp[e0,q0,hoS,hoN]) (by simp[e0,q0,hoS,hoN])).mono ?_;rintro _ _ ⟨M3,fM3_0,rfl,rfl⟩;simp only[hpN] at fM3_0
  try simp -dsimp -implicitDefEqProofs [e0,q0,hoS,hoN]
  exact k M3 (by omega)) fun M3 fM3_0=>?_
 obtain⟨r5,hr5,H⟩:=bE H
 refine jV tok [] [4,5,6] (fun a σ=>∃M4 o2:Nat,M3+3≤M4∧M3+3≤o2∧o2<M4∧a=[(4,.ptr o1 0 0),(5,.sl (M1+6) 0 l4.length),(6,.sl o2 0 r5.1.length)]∧σ=hp E0 [(o1,some ⟨105,2,[[.fsl (eL rU8 r5.2.b),.int .i64 r5.2.p]]⟩),(M1+6,some ⟨3,1,eL rI l4⟩),(o2,some ⟨34,1,eL zA r5.1⟩)] M4) (fun K hK=>?_) ?_
 ·skip
  have e0:=nQ o1 (M1+6)
  simp -dsimp -implicitDefEqProofs [e0]
  refine(c42_o (W0:=[[.fsl (eL rU8 r3.2.b),.int .i64 r3.2.p]]) (r0_:=0) (H:=hr5) (by simp[e0]) (by simp[e0])).mono ?_;rintro _ _ ⟨M4,o2,fM4_0,fM4_1,fM4_2,rfl,rfl⟩;simp only[hpN] at fM4_0 fM4_1 fM4_2
  have eM4_0:=nQ o2 o1
  have eM4_1:=nQ o2 (M1+6)
  try simp -dsimp -implicitDefEqProofs [e0,eM4_0,eM4_1,hoS,hoN]
  exact hK _ _ ⟨M4,o2,(by omega),(by omega),(by omega),rfl,rfl⟩
 rintro a σ ⟨M4,o2,fM4_0,fM4_1,fM4_2,rfl,rfl⟩
 refine Wsq [5,6] fun K1 hK1=>?_
 obtain⟨r6,hr6,H⟩:=bE H
 refine Sm tok [] [5,6,19] (M4+2) (by
  intro K k
  have e0:=nQ o1 (M1+6)
  have e1:=nQ o1 o2
  have e2:=nQ (M1+6) o2
  simp -dsimp -implicitDefEqProofs [e0,e1,e2]
  refine(c41 (W0:=[[.fsl (eL rU8 r5.2.b),.int .i64 r5.2.p]]) (r0_:=0) (H:=hr6) (by simp[e0,e1,e2]) (by simp[e0,e1,e2])).mono ?_;rintro _ _ ⟨M5,fM5_0,rfl,rfl⟩;simp only[hpN] at fM5_0
  try simp -dsimp -implicitDefEqProofs [e0,e1,e2,hoS,hoN]
  exact k M5 (by omega)) fun M5 fM5_0=>?_
 refine Wbl (Wth ?_)
 refine Sx tok [] [5,6,19,20] (by
  intro K k
  have e0:=nQ o1 (M1+6)
  have e1:=nQ o1 o2
  have e2:=nQ (M1+6) o2
  simp -dsimp -implicitDefEqProofs [e0,e1,e2]
  exact k) ?_
 refine Ci H (fun H=>?_) fun H=>?_
 ·have q1:∀σ i,bsA T 23 true i 0 [] σ=some (.esl,σ):=fun _ _=>rfl
  refine Rt tok [0] [5,6] (by
   intro K k
   have e0:=nQ o1 (M1+6)
   have e1:=nQ o1 o2
   have e2:=nQ (M1+6) o2
   simp -dsimp -implicitDefEqProofs [e0,e1,e2,q1]
   exact k) fun a ha=>?_
  refine hK1 _ _ ?_;rw[ha]
  refine Rc.mk ?_
  refine Sx tok [] [2,3] (by
   intro K k
   have e0:=nQ o1 (M1+6)
   have e1:=nQ o1 o2
   have e2:=nQ (M1+6) o2
   simp -dsimp -implicitDefEqProofs [e0,e1,e2]
   exact k) ?_
  obtain rfl:=oi H
  refine Kp [2,3] ?_
  have z0:=nQ o1 (M1+6)
  have z1:=nQ o1 o2
  have z2:=nQ (M1+6) o2
  refine Wr ?_
  exact⟨[.esl,.sl o2 0 r5.1.length],by simp[z0,z1,z2],4,by simp[eN,z0,z1,z2]⟩
 refine Sx tok [] [5,6,19,23] (by
  intro K k
  have e0:=nQ o1 (M1+6)
  have e1:=nQ o1 o2
  have e2:=nQ (M1+6) o2
  simp -dsimp -implicitDefEqProofs [e0,e1,e2]
  exact k) ?_
 refine Ci H (fun H=>?_) fun H=>?_
 ·obtain⟨v7,hv7,H⟩:=bE H
  obtain⟨l8,hl8,H⟩:=bE H
  refine Rt tok [] [5,6] (by
   intro K k
   have e0:=nQ o1 (M1+6)
   have e1:=nQ o1 o2
   have e2:=nQ (M1+6) o2
   simp -dsimp -implicitDefEqProofs [e0,e1,e2,ixo23 hv7,(show _[0]? =some v7 from(zG hv7).2.2),(show List.set _ 0 _=l8 from(setx_iff.1 hl8).2.symm)]
   exact k) fun a ha=>?_
  (try rw[← zH hl8] at ha);(try rw[← zH hl8])
  refine hK1 _ _ ?_;rw[ha]
  refine Rc.mk ?_
  refine Sx tok [] [2,3] (by
   intro K k
   have e0:=nQ o1 (M1+6)
   have e1:=nQ o1 o2
   have e2:=nQ (M1+6) o2
   simp -dsimp -implicitDefEqProofs [e0,e1,e2]
   exact k) ?_
  obtain rfl:=oi H
  refine Kp [2,3] ?_
  have z3:=nQ o1 (M1+6)
  have z4:=nQ o1 o2
  have z5:=nQ (M1+6) o2
  refine Wr ?_
  exact⟨[.sl (M1+6) 0 l8.length,.sl o2 0 r5.1.length],by simp[z3,z4,z5],4,by simp[eN,z3,z4,z5]⟩
 refine Sx tok [] [5,6,27] (by
  intro K k
  have e0:=nQ o1 (M1+6)
  have e1:=nQ o1 o2
  have e2:=nQ (M1+6) o2
  simp -dsimp -implicitDefEqProofs [e0,e1,e2]
  exact k) ?_
 refine Ci H (fun H=>?_) fun H=>?_
 ·obtain⟨l9,hl9,H⟩:=bE H
  have q2:∀σ i,bsA T 34 true i 0 [] σ=some (.esl,σ):=fun _ _=>rfl
  have q3:∀  σ i,bsA T 24 true i 1 [(0,.esl)] σ=some (.fsl [[.esl]],σ):=fun  _ _=>rfl
  refine Rt tok [1,2] [5,6] (by
   intro K k
   have e0:=nQ o1 (M1+6)
   have e1:=nQ o1 o2
   have e2:=nQ o1 (M5+9)
   have e3:=nQ (M1+6) o2
   have e4:=nQ (M1+6) (M5+9)
   have e5:=nQ M1 (M5+3)
   have e6:=nQ o2 (M5+9)
   simp -dsimp -implicitDefEqProofs [e0,e1,e2,e3,e4,e5,e6,q2,q3,apr24 zA hl9]
   exact k) fun a ha=>?_
  refine hK1 _ _ ?_;rw[ha]
  refine Rc.mk ?_
  refine gWkC Wre (o:=(M5+9)) (ob:=⟨34,1,eL zA r5.1++[[.esl]]⟩) (row:=[.esl]) (r:=r5.1.length) (i:=0) [(o1,some ⟨105,2,[[.fsl (eL rU8 r6.2.b),.int .i64 r6.2.p]]⟩),(M1+6,some ⟨3,1,eL rI l4⟩),(M5+9,some ⟨34,1,eL zA r5.1++[[.fsl []]]⟩)] (by simp(disch:=omega)) (fQ _ _ _) rfl (by simp(disch:=omega)) (by simp(disch:=omega) [eN,oU]) ?_
  rw[show hp E0 [(o1,some ⟨105,2,[[.fsl (eL rU8 r6.2.b),.int .i64 r6.2.p]]⟩),(M1+6,some ⟨3,1,eL rI l4⟩),(M5+9,some ⟨34,1,eL zA r5.1++[[.fsl []]]⟩)] (M5+11)=hp E0 [(o1,some ⟨105,2,[[.fsl (eL rU8 r6.2.b),.int .i64 r6.2.p]]⟩),(M1+6,some ⟨3,1,eL rI l4⟩),(M5+9,some ⟨34,1,eL zA l9⟩)] (M5+11) from by rw[← fR (f:=zA) (c:=[.fsl []]) hl9 rfl]]
  refine Sx tok [] [2,3] (by
   intro K k
   have e0:=nQ o1 (M1+6)
   have e1:=nQ o1 (M5+9)
   have e2:=nQ (M1+6) (M5+9)
   have e3:=nQ M1 (M5+3)
   simp -dsimp -implicitDefEqProofs [e0,e1,e2,e3]
   exact k) ?_
  obtain rfl:=oi H
  refine Kp [2,3] ?_
  have z6:=nQ o1 (M1+6)
  have z7:=nQ o1 (M5+9)
  have z8:=nQ (M1+6) (M5+9)
  have z9:=nQ M1 (M5+3)
  refine Wr ?_
  exact⟨[.sl (M1+6) 0 l4.length,.sl (M5+9) 0 l9.length],by simp[z6,z7,z8,z9],4,by simp[eN,z6,z7,z8,z9]⟩
 refine Wsk (Jn hK1 ?_)
 refine Sx tok [] [2,3] (by
  intro K k
  have e0:=nQ o1 (M1+6)
  have e1:=nQ o1 o2
  have e2:=nQ (M1+6) o2
  simp -dsimp -implicitDefEqProofs [e0,e1,e2]
  exact k) ?_
 obtain rfl:=oi H
 refine Kp [2,3] ?_
 have z10:=nQ o1 (M1+6)
 have z11:=nQ o1 o2
 have z12:=nQ (M1+6) o2
 refine Wr ?_
 exact⟨[.sl (M1+6) 0 l4.length,.sl o2 0 r5.1.length],by simp[z10,z11,z12],4,by simp[eN,z10,z11,z12]⟩

theorem c59 {p0:List gQuad}{r:List gQuad}(H:kA p0=some r):APure Tryz.prog G 59 [.fsl (eL rQuad p0)] (.fsl (eL rQuad r)):=by
 refine zE (fun N0=>?_) (by simp)
 refine fnK tok Tryz.func59 Tryz.ntmps59 Tryz.results59 ?_
 simp only[argsA,Nat.reduceAdd,hpN]
 unfold kA at H
 refine S0 tok [] [0] ?_
 refine Wsq [0] fun K1 hK1=>?_
 refine AWP_isnil tok [4,0] ([(0,.fsl (eL rQuad p0))]) rfl rfl (by decide) (by decide) (by decide) (fun _=>rfl) (fun n0=>?_) ?_
 ·replace n0:p0=[]:=encL_isnil n0
  replace H:(if true=true then   some ([]:List gQuad) else   (appx 40 ([]:List gQuad) p0).bind fun l2=>   some l2:Option ((List gQuad)))=some r:=by simpa [n0,appx] using H
  refine Ci H (fun H=>?_) fun H=>?_
  ·refine S0 tok [] [2] ?_
   obtain rfl:=oi H;exact Wr ⟨_,rfl,4,by simp[eN]⟩
  refine Wsk (Jn hK1 ?_)
  obtain⟨l2,hl2,H⟩:=bE H
  have q2:∀σ i,bsA T 34 true i 0 [] σ=some (.esl,σ):=fun _ _=>rfl
  refine Sx tok [0,2] [2] (by intro K k;simp -dsimp -implicitDefEqProofs [q2,appf34 hl2];exact k) ?_
  obtain rfl:=oi H;exact Wr ⟨_,rfl,4,by simp[eN]⟩
 ·
  refine Ci H (fun H=>?_) fun H=>?_
  ·refine S0 tok [] [2] ?_
   obtain rfl:=oi H;exact Wr ⟨_,rfl,4,by simp[eN]⟩
  refine Wsk (Jn hK1 ?_)
  obtain⟨l1,hl1,H⟩:=bE H
  have q1:∀σ i,bsA T 34 true i 0 [] σ=some (.esl,σ):=fun _ _=>rfl
  refine Sx tok [0,2] [2] (by intro K k;simp -dsimp -implicitDefEqProofs [q1,appf34 hl1];exact k) ?_
  obtain rfl:=oi H;exact Wr ⟨_,rfl,4,by simp[eN]⟩

theorem c43 {p0:(List (List gQuad))}{r:(List (List gQuad))}(H:wZ p0=some r):APure Tryz.prog G 43 [.fsl (eL zA p0)] (.fsl (eL zA r)):=by
 refine zE (fun N0=>?_) (by simp)
 refine fnK tok Tryz.func43 Tryz.ntmps43 Tryz.results43 ?_
 simp only[argsA,Nat.reduceAdd,hpN]
 unfold wZ at H
 refine S0 tok [] [0] ?_
 refine S0 tok [] [0,3] ?_
 refine Wsq [3] fun K1 hK1=>?_
 refine S0 tok [] [3,6,7,8] ?_
 refine Wbl (Wth ?_)
 obtain⟨e1,hse1,H⟩:=bE H
 refine zS [3,6,7,8] (fun s a σ=>∃M1 o1:Nat,N0≤M1∧N0≤o1∧o1<M1∧a=[(3,.sl o1 0 s.2.length),(6,.fsl (eL zA p0)),(7,.int .i64 (ilen p0)),(8,.int .i64 s.1)]∧σ=hp E0 [(o1,some ⟨34,1,eL zA s.2⟩)] M1) (fun s x a σ=>x=.exit 0∧Rc G 19 N0 (fun a σ=>∃M2 o2:Nat,N0≤M2∧N0≤o2∧o2<M2∧a=[(3,.sl o2 0 s.length)]∧σ=hp E0 [(o2,some ⟨34,1,eL zA s⟩)] M2) (AAct.keep a [3]) σ) hse1 ?_ ?_ ?_
 ·refine Rc.kp [3,6,7,8] [(3,.nilsl),(6,.fsl (eL zA p0)),(7,.int .i64 (ilen p0)),(8,.int .i64 0)] rfl ?_
  refine gNilS zK 3 34 1 [(N0+5,some ⟨34,1,eL zA ([]:List (List gQuad))⟩)] [(3,.sl (N0+5) 0 ([]:List (List gQuad)).length),(6,.fsl (eL zA p0)),(7,.int .i64 (ilen p0)),(8,.int .i64 0)] (by simp(disch:=omega)) (by simp(disch:=omega) [eN]) [3,6,7,8] rfl ?_
  exact Rf ⟨N0+6,(N0+5),(by omega),(by omega),(by omega),rfl,rfl⟩
 ·clear H hse1
  rintro⟨s1,s2⟩ fl a σ H ⟨M1,o1,fM1_0,fM1_1,fM1_2,rfl,rfl⟩ K2 O2 hK2 hO2
  unfold jT at H;dsimp only at H
  refine S0 tok [] [3,6,7,8,9] ?_
  refine Wsq [3,6,7,8] fun K3 hK3=>?_
  refine Ci H (fun H=>?_) fun H=>?_
  ·refine Wsk (Jn hK3 ?_)
   refine Wsq [3,6,7,8] fun K4 hK4=>?_
   refine Wbl (Wth ?_)
   obtain⟨v4,hv4,H⟩:=bE H
   refine Sx tok [] [3,5,6,7,8] (by intro K k;simp -dsimp -implicitDefEqProofs [ix24 hv4];exact k) ?_
   obtain⟨r5,hr5,H⟩:=bE H
   obtain⟨l6,hl6,H⟩:=bE H
   have q0:∀σ i,bsA T 24 true i 1 [(0,.fsl (eL rQuad r5))] σ=some (.fsl (eL zA ([r5]:List (List gQuad))),σ):=fun _ _=>rfl
   refine Rt tok [3] [3,6,7,8] (by
    intro K k
    have e0:=nQ o1 (M1+8)
    repeat first|simp -dsimp -implicitDefEqProofs [e0,q0,app24 hl6]|refine(c59 hr5).app ?_
    exact k) fun a ha=>?_
   refine hK4 _ _ ?_;rw[ha]
   refine Rc.mk ?_
   refine Rt0 tok [] [3,6,7,8] fun a ha=>?_
   obtain rfl:=oi H
   refine hK2 _ _ _ rfl ?_;rw[ha]
   exact Rf ⟨M1+12,(M1+8),(by omega),(by omega),(by omega),rfl,rfl⟩
  obtain rfl:=oi H
  refine zJ (hO2 _ _ _ _ rfl ⟨rfl,?_⟩)
  refine Rc.rw (l:=[3]) (X:=[(3,.sl o1 0 s2.length)]) rfl ?_
  exact Rf ⟨M1+1,o1,(by omega),(by omega),(by omega),rfl,rfl⟩
 intro x a σ hx
 obtain⟨y3,rfl⟩:∃x,x=e1:=⟨_,rfl⟩
 obtain⟨rfl,b,τ,hr,M2,o2,fM2_0,fM2_1,fM2_2,rfl,rfl⟩:=hx
 (try dsimp only at H)
 show K1 _ _
 refine hK1 _ _ (zK hr ?_)
 refine Rc.mk ?_
 refine S0 tok [] [2] ?_
 obtain rfl:=oi H;exact Wr ⟨_,rfl,4,by simp[eN]⟩

theorem c44 {p0:List Int}{r:List gBox}(H:qX p0=some r):APure Tryz.prog G 44 [.fsl (eL rI p0)] (.fsl (eL rBox r)):=by
 refine zE (fun N0=>?_) (by simp)
 refine fnK tok Tryz.func44 Tryz.ntmps44 Tryz.results44 ?_
 simp only[argsA,Nat.reduceAdd,hpN]
 unfold qX at H
 refine S0 tok [] [0] ?_
 refine S0 tok [] [0,3] ?_
 refine Wsq [3] fun K1 hK1=>?_
 refine S0 tok [] [3,6,7,8] ?_
 refine Wbl (Wth ?_)
 obtain⟨e1,hse1,H⟩:=bE H
 refine zS [3,6,7,8] (fun s a σ=>∃M1 o1:Nat,N0≤M1∧N0≤o1∧o1<M1∧a=[(3,.sl o1 0 s.2.length),(6,.fsl (eL rI p0)),(7,.int .i64 (ilen p0)),(8,.int .i64 s.1)]∧σ=hp E0 [(o1,some ⟨103,2,eL rBox s.2⟩)] M1) (fun s x a σ=>x=.exit 0∧Rc G 19 N0 (fun a σ=>∃M2 o2:Nat,N0≤M2∧N0≤o2∧o2<M2∧a=[(3,.sl o2 0 s.length)]∧σ=hp E0 [(o2,some ⟨103,2,eL rBox s⟩)] M2) (AAct.keep a [3]) σ) hse1 ?_ ?_ ?_
 ·refine Rc.kp [3,6,7,8] [(3,.nilsl),(6,.fsl (eL rI p0)),(7,.int .i64 (ilen p0)),(8,.int .i64 0)] rfl ?_
  refine gNilS zK 3 103 2 [(N0+5,some ⟨103,2,eL rBox ([]:List gBox)⟩)] [(3,.sl (N0+5) 0 ([]:List gBox).length),(6,.fsl (eL rI p0)),(7,.int .i64 (ilen p0)),(8,.int .i64 0)] (by simp(disch:=omega)) (by simp(disch:=omega) [eN]) [3,6,7,8] rfl ?_
  exact Rf ⟨N0+6,(N0+5),(by omega),(by omega),(by omega),rfl,rfl⟩
 ·clear H hse1
  rintro⟨s1,s2⟩ fl a σ H ⟨M1,o1,fM1_0,fM1_1,fM1_2,rfl,rfl⟩ K2 O2 hK2 hO2
  unfold wH at H;dsimp only at H
  refine S0 tok [] [3,6,7,8,9] ?_
  refine Wsq [3,6,7,8] fun K3 hK3=>?_
  refine Ci H (fun H=>?_) fun H=>?_
  ·refine Wsk (Jn hK3 ?_)
   refine Wsq [3,6,7,8] fun K4 hK4=>?_
   refine Wbl (Wth ?_)
   obtain⟨v4,hv4,H⟩:=bE H
   refine Sx tok [] [3,5,6,7,8] (by intro K k;simp -dsimp -implicitDefEqProofs [ix23 hv4];exact k) ?_
   obtain⟨l5,hl5,H⟩:=bE H
   have q0:∀σ i,bsA T 28 true i 1 [(0,.agg [.int .i64 v4,.fsl []])] σ=some (.fsl (eL rBox ([(⟨v4,([]:List Int)⟩:gBox)]:List gBox)),σ):=fun _ _=>rfl
   refine Rt tok [3] [3,6,7,8] (by
    intro K k
    have e0:=nQ o1 (M1+8)
    simp -dsimp -implicitDefEqProofs [e0,q0,app28 hl5]
    exact k) fun a ha=>?_
   refine hK4 _ _ ?_;rw[ha]
   refine Rc.mk ?_
   refine Rt0 tok [] [3,6,7,8] fun a ha=>?_
   obtain rfl:=oi H
   refine hK2 _ _ _ rfl ?_;rw[ha]
   exact Rf ⟨M1+12,(M1+8),(by omega),(by omega),(by omega),rfl,rfl⟩
  obtain rfl:=oi H
  refine zJ (hO2 _ _ _ _ rfl ⟨rfl,?_⟩)
  refine Rc.rw (l:=[3]) (X:=[(3,.sl o1 0 s2.length)]) rfl ?_
  exact Rf ⟨M1+1,o1,(by omega),(by omega),(by omega),rfl,rfl⟩
 intro x a σ hx
 obtain⟨y3,rfl⟩:∃x,x=e1:=⟨_,rfl⟩
 obtain⟨rfl,b,τ,hr,M2,o2,fM2_0,fM2_1,fM2_2,rfl,rfl⟩:=hx
 (try dsimp only at H)
 show K1 _ _
 refine hK1 _ _ (zK hr ?_)
 refine Rc.mk ?_
 refine S0 tok [] [2] ?_
 obtain rfl:=oi H;exact Wr ⟨_,rfl,4,by simp[eN]⟩

theorem c45 {p0:List Int}{r:Bool}(H:uF p0=some r):APure Tryz.prog G 45 [.fsl (eL rI p0)] (.bool r):=by
 refine zE (fun N0=>?_) (by simp)
 refine fnK tok Tryz.func45 Tryz.ntmps45 Tryz.results45 ?_
 simp only[argsA,Nat.reduceAdd,hpN]
 unfold uF at H
 refine S0 tok [] [0] ?_
 refine Wsq [0] fun K1 hK1=>?_
 refine S0 tok [] [0,5,6,7] ?_
 refine Wbl (Wth ?_)
 obtain⟨e1,hse1,H⟩:=bE H
 refine zS [0,5,6,7] (fun s a σ=>∃M1:Nat,N0≤M1∧a=[(0,.fsl (eL rI p0)),(5,.fsl (eL rI p0)),(6,.int .i64 (ilen p0)),(7,.int .i64 s)]∧σ=hp E0 [] M1) (fun e x a σ=>match e with|.inl s=>x=.exit 0∧Rc G 21 N0 (fun a σ=>∃M2:Nat,N0≤M2∧a=[(0,.fsl (eL rI p0))]∧σ=hp E0 [] M2) (AAct.keep a [0]) σ|.inr s=>x=.ret∧∃vs,resA T σ a [.tmp 2]=some vs∧∃d,thawA (fun _=>true) σ d (tupA vs)=.bool s) hse1 ?_ ?_ ?_
 ·refine Rc.kp [0,5,6,7] [(0,.fsl (eL rI p0)),(5,.fsl (eL rI p0)),(6,.int .i64 (ilen p0)),(7,.int .i64 0)] rfl ?_
  exact Rf ⟨N0+4,(by omega),rfl,rfl⟩
 ·clear H hse1
  rintro s1 fl a σ H ⟨M1,fM1_0,rfl,rfl⟩ K2 O2 hK2 hO2
  unfold jE at H;dsimp only at H
  refine S0 tok [] [0,5,6,7,8] ?_
  refine Wsq [0,5,6,7] fun K3 hK3=>?_
  refine Ci H (fun H=>?_) fun H=>?_
  ·refine Wsk (Jn hK3 ?_)
   refine Wsq [0,5,6,7] fun K4 hK4=>?_
   refine Wbl (Wth ?_)
   obtain⟨v2,hv2,H⟩:=bE H
   refine Sx tok [] [0,4,5,6,7] (by intro K k;simp -dsimp -implicitDefEqProofs [ix23 hv2];exact k) ?_
   obtain⟨g3,hg3,H⟩:=bE H
   refine Sx tok [] [0,5,6,7,16] (X:=[(0,.fsl (eL rI p0)),(5,.fsl (eL rI p0)),(6,.int .i64 (ilen p0)),(7,.int .i64 s1),(16,.bool g3)]) (Y:=hp E0 [] (M1+10)) (by
    intro K k
    simp -dsimp -implicitDefEqProofs
    cases hbg3:ilt v2 1
    ·obtain rfl:=oi (ifF hbg3 hg3)
     try simp -dsimp -implicitDefEqProofs [hbg3]
     exact k
    obtain rfl:=oi (ifT hbg3 hg3)
    try simp -dsimp -implicitDefEqProofs [hbg3]
    exact k) ?_
   refine Ci H (fun H=>?_) fun H=>?_
   ·refine S0 tok [] [2] ?_
    obtain rfl:=oi H
    refine Kp [2] ?_
    refine Wr (hO2 _ _ _ _ rfl ⟨rfl,?_⟩)
    exact⟨[.bool false],by simp,4,by simp[eN]⟩
   refine Wsk (Jn hK4 ?_)
   refine Rt0 tok [] [0,5,6,7] fun a ha=>?_
   obtain rfl:=oi H
   refine hK2 _ _ _ rfl ?_;rw[ha]
   exact Rf ⟨M1+12,(by omega),rfl,rfl⟩
  obtain rfl:=oi H
  refine zJ (hO2 _ _ _ _ rfl ⟨rfl,?_⟩)
  refine Rc.rw (l:=[0]) (X:=[(0,.fsl (eL rI p0))]) rfl ?_
  exact Rf ⟨M1+1,(by omega),rfl,rfl⟩
 intro x a σ hx
 rcases e1 with⟨⟩|r0
 ·obtain⟨rfl,b,τ,hr,M2,fM2_0,rfl,rfl⟩:=hx
  (try dsimp only at H)
  show K1 _ _
  refine hK1 _ _ (zK hr ?_)
  refine Rc.mk ?_
  refine S0 tok [] [2] ?_
  obtain rfl:=oi H;exact Wr ⟨_,rfl,4,by simp[eN]⟩
 obtain⟨rfl,hx2⟩:=hx
 (try dsimp only at H)
 obtain rfl:=oi H;first|exact hx2|(simp only[List.set_set] at hx2 ⊢;exact hx2)

theorem c108 {p0:Int}{r:Bool}(H:jY p0=some r):APure Tryz.prog G 108 [.int .i64 p0] (.bool r):=by
 refine zE (fun N0=>?_) (by simp)
 refine fnK tok Tryz.func108 Tryz.ntmps108 Tryz.results108 ?_
 simp only[argsA,Nat.reduceAdd,hpN]
 unfold jY at H
 refine S0 tok [] [0] ?_
 obtain⟨g1,hg1,H⟩:=bE H
 refine Sx tok [] [2] (X:=[(2,.bool g1)]) (Y:=hp E0 [] (N0+8)) (by
  intro K k
  simp -dsimp -implicitDefEqProofs
  cases hbg1:ige p0 (-2147483648)
  ·obtain rfl:=oi (ifF hbg1 hg1)
   try simp -dsimp -implicitDefEqProofs [hbg1]
   exact k
  obtain rfl:=oi (ifT hbg1 hg1)
  try simp -dsimp -implicitDefEqProofs [hbg1]
  exact k) ?_
 obtain rfl:=oi H;exact Wr ⟨_,rfl,4,by simp[eN]⟩

theorem c95 {p0:List Int}{r:Bool}(H:vA p0=some r):APure Tryz.prog G 95 [.fsl (eL rI p0)] (.bool r):=by
 refine zE (fun N0=>?_) (by simp)
 refine fnK tok Tryz.func95 Tryz.ntmps95 Tryz.results95 ?_
 simp only[argsA,Nat.reduceAdd,hpN]
 unfold vA at H
 refine S0 tok [] [0] ?_
 refine Wsq [] fun K1 hK1=>?_
 refine S0 tok [] [5,6,7] ?_
 refine Wbl (Wth ?_)
 obtain⟨e1,hse1,H⟩:=bE H
 refine zS [5,6,7] (fun s a σ=>∃M1:Nat,N0≤M1∧a=[(5,.fsl (eL rI p0)),(6,.int .i64 (ilen p0)),(7,.int .i64 s)]∧σ=hp E0 [] M1) (fun e x a σ=>match e with|.inl s=>x=.exit 0∧Rc G 15 N0 (fun a σ=>∃M2:Nat,N0≤M2∧a=[]∧σ=hp E0 [] M2) (AAct.keep a []) σ|.inr s=>x=.ret∧∃vs,resA T σ a [.tmp 2]=some vs∧∃d,thawA (fun _=>true) σ d (tupA vs)=.bool s) hse1 ?_ ?_ ?_
 ·refine Rc.kp [5,6,7] [(5,.fsl (eL rI p0)),(6,.int .i64 (ilen p0)),(7,.int .i64 0)] rfl ?_
  exact Rf ⟨N0+4,(by omega),rfl,rfl⟩
 ·clear H hse1
  rintro s1 fl a σ H ⟨M1,fM1_0,rfl,rfl⟩ K2 O2 hK2 hO2
  unfold wI at H;dsimp only at H
  refine S0 tok [] [5,6,7,8] ?_
  refine Wsq [5,6,7] fun K3 hK3=>?_
  refine Ci H (fun H=>?_) fun H=>?_
  ·refine Wsk (Jn hK3 ?_)
   refine Wsq [5,6,7] fun K4 hK4=>?_
   refine Wbl (Wth ?_)
   obtain⟨v2,hv2,H⟩:=bE H
   refine Sx tok [] [4,5,6,7] (by intro K k;simp -dsimp -implicitDefEqProofs [ix23 hv2];exact k) ?_
   obtain⟨r3,hr3,H⟩:=bE H
   refine Sx tok [] [5,6,7,13] (by intro K k;(repeat first|simp -dsimp -implicitDefEqProofs|refine(c108 hr3).app ?_);exact k) ?_
   refine Ci H (fun H=>?_) fun H=>?_
   ·refine S0 tok [] [2] ?_
    obtain rfl:=oi H
    refine Kp [2] ?_
    refine Wr (hO2 _ _ _ _ rfl ⟨rfl,?_⟩)
    exact⟨[.bool false],by simp,4,by simp[eN]⟩
   refine Wsk (Jn hK4 ?_)
   refine Rt0 tok [] [5,6,7] fun a ha=>?_
   obtain rfl:=oi H
   refine hK2 _ _ _ rfl ?_;rw[ha]
   exact Rf ⟨M1+9,(by omega),rfl,rfl⟩
  obtain rfl:=oi H
  refine zJ (hO2 _ _ _ _ rfl ⟨rfl,?_⟩)
  refine Rc.rw (l:=[]) (X:=[]) rfl ?_
  exact Rf ⟨M1+1,(by omega),rfl,rfl⟩
 intro x a σ hx
 rcases e1 with⟨⟩|r0
 ·obtain⟨rfl,b,τ,hr,M2,fM2_0,rfl,rfl⟩:=hx
  (try dsimp only at H)
  show K1 _ _
  refine hK1 _ _ (zK hr ?_)
  refine Rc.mk ?_
  refine S0 tok [] [2] ?_
  obtain rfl:=oi H;exact Wr ⟨_,rfl,4,by simp[eN]⟩
 obtain⟨rfl,hx2⟩:=hx
 (try dsimp only at H)
 obtain rfl:=oi H;first|exact hx2|(simp only[List.set_set] at hx2 ⊢;exact hx2)

theorem c69 {p0:Int}{p1:Int}{p2:Int}{p3:List Int}{r:Bool}(H:sK p0 p1 p2 p3=some r):APure Tryz.prog G 69 [.int .i64 p0,.int .i64 p1,.int .i64 p2,.fsl (eL rI p3)] (.bool r):=by
 refine zE (fun N0=>?_) (by simp)
 refine fnK tok Tryz.func69 Tryz.ntmps69 Tryz.results69 ?_
 simp only[argsA,Nat.reduceAdd,hpN]
 unfold sK at H
 refine S0 tok [] [0,1,2,3] ?_
 obtain⟨g1,hg1,H⟩:=bE H
 obtain⟨g2,hg2,H⟩:=bE H
 obtain⟨g3,hg3,H⟩:=bE H
 obtain⟨g4,hg4,H⟩:=bE H
 obtain⟨g5,hg5,H⟩:=bE H
 obtain⟨g7,hg7,H⟩:=bE H
 refine Sx tok [] [8] (X:=[(8,.bool g7)]) (Y:=hp E0 [] (N0+30)) (by
  intro K k
  simp -dsimp -implicitDefEqProofs
  cases hbg1:ige p0 1
  ·obtain rfl:=oi (ifF hbg1 hg1)
   obtain rfl:=oi (ifF rfl hg2)
   obtain rfl:=oi (ifF rfl hg3)
   obtain rfl:=oi (ifF rfl hg4)
   obtain rfl:=oi (ifF rfl hg5)
   obtain rfl:=oi (ifF rfl hg7)
   try simp -dsimp -implicitDefEqProofs [hbg1]
   exact k
  obtain rfl:=oi (ifT hbg1 hg1)
  try simp -dsimp -implicitDefEqProofs [hbg1]
  cases hbg2:(ile p0 3)
  ·obtain rfl:=oi (ifF hbg2 hg2)
   obtain rfl:=oi (ifF rfl hg3)
   obtain rfl:=oi (ifF rfl hg4)
   obtain rfl:=oi (ifF rfl hg5)
   obtain rfl:=oi (ifF rfl hg7)
   try simp -dsimp -implicitDefEqProofs [hbg1,hbg2]
   exact k
  obtain rfl:=oi (ifT hbg2 hg2)
  try simp -dsimp -implicitDefEqProofs [hbg1,hbg2]
  cases hbg3:(ige p1 0)
  ·obtain rfl:=oi (ifF hbg3 hg3)
   obtain rfl:=oi (ifF rfl hg4)
   obtain rfl:=oi (ifF rfl hg5)
   obtain rfl:=oi (ifF rfl hg7)
   try simp -dsimp -implicitDefEqProofs [hbg1,hbg2,hbg3]
   exact k
  obtain rfl:=oi (ifT hbg3 hg3)
  try simp -dsimp -implicitDefEqProofs [hbg1,hbg2,hbg3]
  cases hbg4:(ilt p1 p0)
  ·obtain rfl:=oi (ifF hbg4 hg4)
   obtain rfl:=oi (ifF rfl hg5)
   obtain rfl:=oi (ifF rfl hg7)
   try simp -dsimp -implicitDefEqProofs [hbg1,hbg2,hbg3,hbg4]
   exact k
  obtain rfl:=oi (ifT hbg4 hg4)
  try simp -dsimp -implicitDefEqProofs [hbg1,hbg2,hbg3,hbg4]
  cases hbg5:(ige p2 0)
  ·obtain rfl:=oi (ifF hbg5 hg5)
   obtain rfl:=oi (ifF rfl hg7)
   try simp -dsimp -implicitDefEqProofs [hbg1,hbg2,hbg3,hbg4,hbg5]
   exact k
  obtain rfl:=oi (ifT hbg5 hg5)
  try simp -dsimp -implicitDefEqProofs [hbg1,hbg2,hbg3,hbg4,hbg5]
  cases hbg7:(ile p2 p0)
  ·obtain rfl:=oi (ifF hbg7 hg7)
   try simp -dsimp -implicitDefEqProofs [hbg1,hbg2,hbg3,hbg4,hbg5,hbg7]
   exact k
  replace hg7:=ifT hbg7 hg7
  obtain⟨r6,hr6,hg7⟩:=bE hg7
  obtain rfl:=oi hg7
  try simp -dsimp -implicitDefEqProofs [hbg1,hbg2,hbg3,hbg4,hbg5,hbg7]
  refine(c95 hr6).app ?_;try simp -dsimp -implicitDefEqProofs [hbg1,hbg2,hbg3,hbg4,hbg5,hbg7]
  exact k) ?_
 obtain rfl:=oi H;exact Wr ⟨_,rfl,4,by simp[eN]⟩

theorem c96 {p0:gBox}{r:Bool}(H:pC p0=some r):APure Tryz.prog G 96 [.agg [.int .i64 p0.Room,.fsl (eL rI p0.Items)]] (.bool r):=by
 refine zE (fun N0=>?_) (by simp)
 refine fnK tok Tryz.func96 Tryz.ntmps96 Tryz.results96 ?_
 simp only[argsA,Nat.reduceAdd,hpN]
 unfold pC at H
 refine S0 tok [0] [1] ?_
 obtain⟨g1,hg1,H⟩:=bE H
 obtain⟨g2,hg2,H⟩:=bE H
 obtain⟨g4,hg4,H⟩:=bE H
 refine Sx tok [] [2] (X:=[(2,.bool g4)]) (Y:=hp E0 [] (N0+24)) (by
  intro K k
  simp -dsimp -implicitDefEqProofs
  cases hbg1:ige p0.Room 1
  ·obtain rfl:=oi (ifF hbg1 hg1)
   obtain rfl:=oi (ifF rfl hg2)
   obtain rfl:=oi (ifF rfl hg4)
   try simp -dsimp -implicitDefEqProofs [hbg1]
   exact k
  obtain rfl:=oi (ifT hbg1 hg1)
  try simp -dsimp -implicitDefEqProofs [hbg1]
  cases hbg2:(ile p0.Room 4)
  ·obtain rfl:=oi (ifF hbg2 hg2)
   obtain rfl:=oi (ifF rfl hg4)
   try simp -dsimp -implicitDefEqProofs [hbg1,hbg2]
   exact k
  obtain rfl:=oi (ifT hbg2 hg2)
  try simp -dsimp -implicitDefEqProofs [hbg1,hbg2]
  cases hbg4:(ile (ilen p0.Items) p0.Room)
  ·obtain rfl:=oi (ifF hbg4 hg4)
   try simp -dsimp -implicitDefEqProofs [hbg1,hbg2,hbg4]
   exact k
  replace hg4:=ifT hbg4 hg4
  obtain⟨r3,hr3,hg4⟩:=bE hg4
  obtain rfl:=oi hg4
  try simp -dsimp -implicitDefEqProofs [hbg1,hbg2,hbg4]
  refine(c95 hr3).app ?_;try simp -dsimp -implicitDefEqProofs [hbg1,hbg2,hbg4]
  exact k) ?_
 obtain rfl:=oi H;exact Wr ⟨_,rfl,4,by simp[eN]⟩

theorem c70 {p0:List gBox}{r:Bool}(H:uG p0=some r):APure Tryz.prog G 70 [.fsl (eL rBox p0)] (.bool r):=by
 refine zE (fun N0=>?_) (by simp)
 refine fnK tok Tryz.func70 Tryz.ntmps70 Tryz.results70 ?_
 simp only[argsA,Nat.reduceAdd,hpN]
 unfold uG at H
 refine S0 tok [] [0] ?_
 refine Wsq [0] fun K1 hK1=>?_
 refine S0 tok [] [0,5,6,7] ?_
 refine Wbl (Wth ?_)
 obtain⟨e1,hse1,H⟩:=bE H
 refine zS [0,5,6,7] (fun s a σ=>∃M1:Nat,N0≤M1∧a=[(0,.fsl (eL rBox p0)),(5,.fsl (eL rBox p0)),(6,.int .i64 (ilen p0)),(7,.int .i64 s)]∧σ=hp E0 [] M1) (fun e x a σ=>match e with|.inl s=>x=.exit 0∧Rc G 18 N0 (fun a σ=>∃M2:Nat,N0≤M2∧a=[(0,.fsl (eL rBox p0))]∧σ=hp E0 [] M2) (AAct.keep a [0]) σ|.inr s=>x=.ret∧∃vs,resA T σ a [.tmp 2]=some vs∧∃d,thawA (fun _=>true) σ d (tupA vs)=.bool s) hse1 ?_ ?_ ?_
 ·refine Rc.kp [0,5,6,7] [(0,.fsl (eL rBox p0)),(5,.fsl (eL rBox p0)),(6,.int .i64 (ilen p0)),(7,.int .i64 0)] rfl ?_
  exact Rf ⟨N0+4,(by omega),rfl,rfl⟩
 ·clear H hse1
  rintro s1 fl a σ H ⟨M1,fM1_0,rfl,rfl⟩ K2 O2 hK2 hO2
  unfold jF at H;dsimp only at H
  refine S0 tok [] [0,5,6,7,8] ?_
  refine Wsq [0,5,6,7] fun K3 hK3=>?_
  refine Ci H (fun H=>?_) fun H=>?_
  ·refine Wsk (Jn hK3 ?_)
   refine Wsq [0,5,6,7] fun K4 hK4=>?_
   refine Wbl (Wth ?_)
   obtain⟨v2,hv2,H⟩:=bE H
   refine Sx tok [] [0,4,5,6,7] (by intro K k;simp -dsimp -implicitDefEqProofs [ix28 hv2];exact k) ?_
   obtain⟨r3,hr3,H⟩:=bE H
   refine Sx tok [] [0,5,6,7,13] (by intro K k;(repeat first|simp -dsimp -implicitDefEqProofs|refine(c96 hr3).app ?_);exact k) ?_
   refine Ci H (fun H=>?_) fun H=>?_
   ·refine S0 tok [] [2] ?_
    obtain rfl:=oi H
    refine Kp [2] ?_
    refine Wr (hO2 _ _ _ _ rfl ⟨rfl,?_⟩)
    exact⟨[.bool false],by simp,4,by simp[eN]⟩
   refine Wsk (Jn hK4 ?_)
   refine Rt0 tok [] [0,5,6,7] fun a ha=>?_
   obtain rfl:=oi H
   refine hK2 _ _ _ rfl ?_;rw[ha]
   exact Rc.fin (AHeap.Sub.trans (AHeap.Sub.refl _) (zY rfl (by simp;try omega))) ⟨M1+10,(by omega),rfl,rfl⟩
  obtain rfl:=oi H
  refine zJ (hO2 _ _ _ _ rfl ⟨rfl,?_⟩)
  refine Rc.rw (l:=[0]) (X:=[(0,.fsl (eL rBox p0))]) rfl ?_
  exact Rf ⟨M1+1,(by omega),rfl,rfl⟩
 intro x a σ hx
 rcases e1 with⟨⟩|r0
 ·obtain⟨rfl,b,τ,hr,M2,fM2_0,rfl,rfl⟩:=hx
  (try dsimp only at H)
  show K1 _ _
  refine hK1 _ _ (zK hr ?_)
  refine Rc.mk ?_
  refine S0 tok [] [2] ?_
  obtain rfl:=oi H;exact Wr ⟨_,rfl,4,by simp[eN]⟩
 obtain⟨rfl,hx2⟩:=hx
 (try dsimp only at H)
 obtain rfl:=oi H;first|exact hx2|(simp only[List.set_set] at hx2 ⊢;exact hx2)

theorem c107 {p0:Int}{r:Bool}(H:fM p0=some r):APure Tryz.prog G 107 [.int .i64 p0] (.bool r):=by
 refine zE (fun N0=>?_) (by simp)
 refine fnK tok Tryz.func107 Tryz.ntmps107 Tryz.results107 ?_
 simp only[argsA,Nat.reduceAdd,hpN]
 unfold fM at H
 refine S0 tok [] [0] ?_
 obtain⟨g1,hg1,H⟩:=bE H
 refine Sx tok [] [2] (X:=[(2,.bool g1)]) (Y:=hp E0 [] (N0+8)) (by
  intro K k
  simp -dsimp -implicitDefEqProofs
  cases hbg1:ige p0 0
  ·obtain rfl:=oi (ifF hbg1 hg1)
   try simp -dsimp -implicitDefEqProofs [hbg1]
   exact k
  obtain rfl:=oi (ifT hbg1 hg1)
  try simp -dsimp -implicitDefEqProofs [hbg1]
  exact k) ?_
 obtain rfl:=oi H;exact Wr ⟨_,rfl,4,by simp[eN]⟩

theorem c109 {p0:Int}{r:Bool}(H:gI p0=some r):APure Tryz.prog G 109 [.int .i64 p0] (.bool r):=by
 refine zE (fun N0=>?_) (by simp)
 refine fnK tok Tryz.func109 Tryz.ntmps109 Tryz.results109 ?_
 simp only[argsA,Nat.reduceAdd,hpN]
 unfold gI at H
 refine S0 tok [] [0] ?_
 obtain⟨g1,hg1,H⟩:=bE H
 refine Sx tok [] [2] (X:=[(2,.bool g1)]) (Y:=hp E0 [] (N0+8)) (by
  intro K k
  simp -dsimp -implicitDefEqProofs
  cases hbg1:ige p0 1
  ·obtain rfl:=oi (ifF hbg1 hg1)
   try simp -dsimp -implicitDefEqProofs [hbg1]
   exact k
  obtain rfl:=oi (ifT hbg1 hg1)
  try simp -dsimp -implicitDefEqProofs [hbg1]
  exact k) ?_
 obtain rfl:=oi H;exact Wr ⟨_,rfl,4,by simp[eN]⟩

theorem c80 {p0:gQuad}{p1:Int}{r:Bool}(H:tW p0 p1=some r):APure Tryz.prog G 80 [.agg [.int .i64 p0.Op,.int .i64 p0.Dst,.int .i64 p0.A,.int .i64 p0.B,.int .i64 p0.N],.int .i64 p1] (.bool r):=by
 refine zE (fun N0=>?_) (by simp)
 refine fnK tok Tryz.func80 Tryz.ntmps80 Tryz.results80 ?_
 simp only[argsA,Nat.reduceAdd,hpN]
 unfold tW at H
 refine S0 tok [0] [1,2] ?_
 obtain⟨r1,hr1,H⟩:=bE H
 obtain⟨r2,hr2,H⟩:=bE H
 obtain⟨r3,hr3,H⟩:=bE H
 refine Sd tok tokM [] [] [0,1,2,3,4,5,6,7,8,9,10,11,12,13,14] [1,2,5,6,7,8] (by
  intro K k
  simp only[pickL,zO,zQ]
  repeat first|simp -dsimp -implicitDefEqProofs|refine Pc.mk (c107 hr1) ?_|refine Pc.mk (c107 hr2) ?_|refine Pc.mk (c107 hr3) ?_
  exact k) ?_
 refine Wsq [] fun K1 hK1=>?_
 refine S0 tok [] [1,2,5,6,7,8,21] ?_
 refine Wbl (Wth ?_)
 refine S0 tok [] [1,2,5,6,7,8,21,22] ?_
 refine Ci H (fun H=>?_) fun H=>?_
 ·obtain⟨g4,hg4,H⟩:=bE H
  obtain⟨g6,hg6,H⟩:=bE H
  refine Sx tok [] [4] (X:=[(4,.bool g6)]) (Y:=hp E0 [] (N0+35)) (by
   intro K k
   simp -dsimp -implicitDefEqProofs
   cases hbg4:eqD p0 (⟨1,p0.Dst,0,0,p0.N⟩:gQuad)
   ·obtain rfl:=oi (ifF hbg4 hg4)
    obtain rfl:=oi (ifF rfl hg6)
    try simp -dsimp -implicitDefEqProofs [hbg4]
    exact k
   obtain rfl:=oi (ifT hbg4 hg4)
   try simp -dsimp -implicitDefEqProofs [hbg4]
   cases hbg6:r1
   ·obtain rfl:=oi (ifF hbg6 hg6)
    try simp -dsimp -implicitDefEqProofs [hbg4,hbg6]
    exact k
   replace hg6:=ifT hbg6 hg6
   obtain⟨r5,hr5,hg6⟩:=bE hg6
   obtain rfl:=oi hg6
   try simp -dsimp -implicitDefEqProofs [hbg4,hbg6]
   refine(c108 hr5).app ?_;try simp -dsimp -implicitDefEqProofs [hbg4,hbg6]
   exact k) ?_
  obtain rfl:=oi H;exact Wr ⟨_,rfl,4,by simp[eN]⟩
 refine S0 tok [] [1,2,5,6,7,8,21,37] ?_
 refine Ci H (fun H=>?_) fun H=>?_
 ·obtain⟨g7,hg7,H⟩:=bE H
  obtain⟨g8,hg8,H⟩:=bE H
  refine Sx tok [] [4] (X:=[(4,.bool g8)]) (Y:=hp E0 [] (N0+37)) (by
   intro K k
   simp -dsimp -implicitDefEqProofs
   cases hbg7:eqD p0 (⟨2,p0.Dst,p0.A,0,0⟩:gQuad)
   ·obtain rfl:=oi (ifF hbg7 hg7)
    obtain rfl:=oi (ifF rfl hg8)
    try simp -dsimp -implicitDefEqProofs [hbg7]
    exact k
   obtain rfl:=oi (ifT hbg7 hg7)
   try simp -dsimp -implicitDefEqProofs [hbg7]
   cases hbg8:r1
   ·obtain rfl:=oi (ifF hbg8 hg8)
    try simp -dsimp -implicitDefEqProofs [hbg7,hbg8]
    exact k
   obtain rfl:=oi (ifT hbg8 hg8)
   try simp -dsimp -implicitDefEqProofs [hbg7,hbg8]
   exact k) ?_
  obtain rfl:=oi H;exact Wr ⟨_,rfl,4,by simp[eN]⟩
 refine S0 tok [] [1,2,5,6,7,8,21,52] ?_
 refine Ci H (fun H=>?_) fun H=>?_
 ·obtain⟨g9,hg9,H⟩:=bE H
  obtain⟨g10,hg10,H⟩:=bE H
  obtain⟨g12,hg12,H⟩:=bE H
  refine Sx tok [] [4] (X:=[(4,.bool g12)]) (Y:=hp E0 [] (N0+37)) (by
   intro K k
   simp -dsimp -implicitDefEqProofs
   cases hbg9:r1
   ·obtain rfl:=oi (ifF hbg9 hg9)
    obtain rfl:=oi (ifF rfl hg10)
    obtain rfl:=oi (ifF rfl hg12)
    try simp -dsimp -implicitDefEqProofs [hbg9]
    exact k
   obtain rfl:=oi (ifT hbg9 hg9)
   try simp -dsimp -implicitDefEqProofs [hbg9]
   cases hbg10:r2
   ·obtain rfl:=oi (ifF hbg10 hg10)
    obtain rfl:=oi (ifF rfl hg12)
    try simp -dsimp -implicitDefEqProofs [hbg9,hbg10]
    exact k
   obtain rfl:=oi (ifT hbg10 hg10)
   try simp -dsimp -implicitDefEqProofs [hbg9,hbg10]
   cases hbg12:r3
   ·obtain rfl:=oi (ifF hbg12 hg12)
    try simp -dsimp -implicitDefEqProofs [hbg9,hbg10,hbg12]
    exact k
   replace hg12:=ifT hbg12 hg12
   obtain⟨r11,hr11,hg12⟩:=bE hg12
   obtain rfl:=oi hg12
   try simp -dsimp -implicitDefEqProofs [hbg9,hbg10,hbg12]
   refine(c109 hr11).app ?_;try simp -dsimp -implicitDefEqProofs [hbg9,hbg10,hbg12]
   exact k) ?_
  obtain rfl:=oi H;exact Wr ⟨_,rfl,4,by simp[eN]⟩
 refine S0 tok [] [1,2,5,6,8,21,65] ?_
 refine Ci H (fun H=>?_) fun H=>?_
 ·obtain⟨g13,hg13,H⟩:=bE H
  obtain⟨g14,hg14,H⟩:=bE H
  refine Sx tok [] [4] (X:=[(4,.bool g14)]) (Y:=hp E0 [] (N0+41)) (by
   intro K k
   simp -dsimp -implicitDefEqProofs
   cases hbg13:eqD p0 (⟨4,0,0,0,p0.N⟩:gQuad)
   ·obtain rfl:=oi (ifF hbg13 hg13)
    obtain rfl:=oi (ifF rfl hg14)
    try simp -dsimp -implicitDefEqProofs [hbg13]
    exact k
   obtain rfl:=oi (ifT hbg13 hg13)
   try simp -dsimp -implicitDefEqProofs [hbg13]
   cases hbg14:(ige p0.N 0)
   ·obtain rfl:=oi (ifF hbg14 hg14)
    try simp -dsimp -implicitDefEqProofs [hbg13,hbg14]
    exact k
   obtain rfl:=oi (ifT hbg14 hg14)
   try simp -dsimp -implicitDefEqProofs [hbg13,hbg14]
   exact k) ?_
  obtain rfl:=oi H;exact Wr ⟨_,rfl,4,by simp[eN]⟩
 refine S0 tok [] [1,2,5,6,8,21,80] ?_
 refine Ci H (fun H=>?_) fun H=>?_
 ·obtain⟨g15,hg15,H⟩:=bE H
  obtain⟨g16,hg16,H⟩:=bE H
  obtain⟨g17,hg17,H⟩:=bE H
  refine Sx tok [] [4] (X:=[(4,.bool g17)]) (Y:=hp E0 [] (N0+48)) (by
   intro K k
   simp -dsimp -implicitDefEqProofs
   cases hbg15:eqD p0 (⟨5,0,p0.A,0,p0.N⟩:gQuad)
   ·obtain rfl:=oi (ifF hbg15 hg15)
    obtain rfl:=oi (ifF rfl hg16)
    obtain rfl:=oi (ifF rfl hg17)
    try simp -dsimp -implicitDefEqProofs [hbg15]
    exact k
   obtain rfl:=oi (ifT hbg15 hg15)
   try simp -dsimp -implicitDefEqProofs [hbg15]
   cases hbg16:r2
   ·obtain rfl:=oi (ifF hbg16 hg16)
    obtain rfl:=oi (ifF rfl hg17)
    try simp -dsimp -implicitDefEqProofs [hbg15,hbg16]
    exact k
   obtain rfl:=oi (ifT hbg16 hg16)
   try simp -dsimp -implicitDefEqProofs [hbg15,hbg16]
   cases hbg17:(ige p0.N 0)
   ·obtain rfl:=oi (ifF hbg17 hg17)
    try simp -dsimp -implicitDefEqProofs [hbg15,hbg16,hbg17]
    exact k
   obtain rfl:=oi (ifT hbg17 hg17)
   try simp -dsimp -implicitDefEqProofs [hbg15,hbg16,hbg17]
   exact k) ?_
  obtain rfl:=oi H;exact Wr ⟨_,rfl,4,by simp[eN]⟩
 refine S0 tok [] [2,5,6,8,21,100] ?_
 refine Ci H (fun H=>?_) fun H=>?_
 ·obtain⟨g18,hg18,H⟩:=bE H
  obtain⟨g19,hg19,H⟩:=bE H
  obtain⟨g20,hg20,H⟩:=bE H
  refine Sx tok [] [4] (X:=[(4,.bool g20)]) (Y:=hp E0 [] (N0+49)) (by
   intro K k
   simp -dsimp -implicitDefEqProofs
   cases hbg18:eqD p0 (⟨6,0,p0.A,0,p0.N⟩:gQuad)
   ·obtain rfl:=oi (ifF hbg18 hg18)
    obtain rfl:=oi (ifF rfl hg19)
    obtain rfl:=oi (ifF rfl hg20)
    try simp -dsimp -implicitDefEqProofs [hbg18]
    exact k
   obtain rfl:=oi (ifT hbg18 hg18)
   try simp -dsimp -implicitDefEqProofs [hbg18]
   cases hbg19:r2
   ·obtain rfl:=oi (ifF hbg19 hg19)
    obtain rfl:=oi (ifF rfl hg20)
    try simp -dsimp -implicitDefEqProofs [hbg18,hbg19]
    exact k
   obtain rfl:=oi (ifT hbg19 hg19)
   try simp -dsimp -implicitDefEqProofs [hbg18,hbg19]
   cases hbg20:(ige p0.N 0)
   ·obtain rfl:=oi (ifF hbg20 hg20)
    try simp -dsimp -implicitDefEqProofs [hbg18,hbg19,hbg20]
    exact k
   obtain rfl:=oi (ifT hbg20 hg20)
   try simp -dsimp -implicitDefEqProofs [hbg18,hbg19,hbg20]
   exact k) ?_
  obtain rfl:=oi H;exact Wr ⟨_,rfl,4,by simp[eN]⟩
 refine S0 tok [] [2,5,6,8,21,119] ?_
 refine Ci H (fun H=>?_) fun H=>?_
 ·obtain⟨g21,hg21,H⟩:=bE H
  obtain⟨g22,hg22,H⟩:=bE H
  obtain⟨g23,hg23,H⟩:=bE H
  refine Sx tok [] [4] (X:=[(4,.bool g23)]) (Y:=hp E0 [] (N0+51)) (by
   intro K k
   simp -dsimp -implicitDefEqProofs
   cases hbg21:eqD p0 (⟨7,p0.Dst,0,0,p0.N⟩:gQuad)
   ·obtain rfl:=oi (ifF hbg21 hg21)
    obtain rfl:=oi (ifF rfl hg22)
    obtain rfl:=oi (ifF rfl hg23)
    try simp -dsimp -implicitDefEqProofs [hbg21]
    exact k
   obtain rfl:=oi (ifT hbg21 hg21)
   try simp -dsimp -implicitDefEqProofs [hbg21]
   cases hbg22:r1
   ·obtain rfl:=oi (ifF hbg22 hg22)
    obtain rfl:=oi (ifF rfl hg23)
    try simp -dsimp -implicitDefEqProofs [hbg21,hbg22]
    exact k
   obtain rfl:=oi (ifT hbg22 hg22)
   try simp -dsimp -implicitDefEqProofs [hbg21,hbg22]
   cases hbg23:(ige p0.N 0)
   ·obtain rfl:=oi (ifF hbg23 hg23)
    try simp -dsimp -implicitDefEqProofs [hbg21,hbg22,hbg23]
    exact k
   obtain rfl:=oi (ifT hbg23 hg23)
   try simp -dsimp -implicitDefEqProofs [hbg21,hbg22,hbg23]
   exact k) ?_
  obtain rfl:=oi H;exact Wr ⟨_,rfl,4,by simp[eN]⟩
 refine S0 tok [] [2,6,21,138] ?_
 refine Ci H (fun H=>?_) fun H=>?_
 ·obtain⟨g24,hg24,H⟩:=bE H
  refine Sx tok [] [4] (X:=[(4,.bool g24)]) (Y:=hp E0 [] (N0+44)) (by
   intro K k
   simp -dsimp -implicitDefEqProofs
   cases hbg24:eqD p0 (⟨9,0,p0.A,0,0⟩:gQuad)
   ·obtain rfl:=oi (ifF hbg24 hg24)
    try simp -dsimp -implicitDefEqProofs [hbg24]
    exact k
   obtain rfl:=oi (ifT hbg24 hg24)
   try simp -dsimp -implicitDefEqProofs [hbg24]
   exact k) ?_
  obtain rfl:=oi H;exact Wr ⟨_,rfl,4,by simp[eN]⟩
 obtain⟨j1,hj1,H⟩:=bE H
 refine kR (kQ fun K2 hK2=>?_)
 have hJ1:∀a σ,Rc G 156 N0 (fun a σ=>∃M1:Nat,N0≤M1∧a=[(2,.fptr [.int .i64 p0.Op,.int .i64 p0.Dst,.int .i64 p0.A,.int .i64 p0.B,.int .i64 p0.N] 0),(148,.bool j1)]∧σ=hp E0 [] M1) (a.keep [2,148]) σ→K2 a σ:=by
  rintro a σ ⟨b,τ,hr,M1,fM1_0,rfl,rfl⟩
  refine hK2 _ _ (kI [2,148] (Wre hr ?_))
  refine Ci H (fun H=>?_) fun H=>?_
  ·refine S0 tok [] [4] ?_
   obtain rfl:=oi H;exact Wr ⟨_,rfl,4,by simp[eN]⟩
  refine Wsk (Jn hK1 ?_)
  refine S0 tok [] [4] ?_
  obtain rfl:=oi H;exact Wr ⟨_,rfl,4,by simp[eN]⟩
 replace H:=hj1
 refine S0 tok [] [2,21,148] ?_
 refine Ci H (fun H=>?_) fun H=>?_
 ·refine Wsk ?_
  show K2 _ _
  refine kE [2,148] fun a' ha=>?_
  obtain rfl:=oi H
  refine hJ1 _ _ ?_;rw[ha]
  exact Rf ⟨N0+37,(by omega),rfl,rfl⟩
 refine Rt0 tok [] [2,148] fun a ha=>?_
 obtain rfl:=oi H
 refine hJ1 _ _ ?_;rw[ha]
 exact Rf ⟨N0+39,(by omega),rfl,rfl⟩

theorem c50 {p0:List gQuad}{r:Bool}(H:vC p0=some r):APure Tryz.prog G 50 [.fsl (eL rQuad p0)] (.bool r):=by
 refine zE (fun N0=>?_) (by simp)
 refine fnK tok Tryz.func50 Tryz.ntmps50 Tryz.results50 ?_
 simp only[argsA,Nat.reduceAdd,hpN]
 unfold vC at H
 refine S0 tok [] [0] ?_
 refine Wsq [0] fun K1 hK1=>?_
 obtain⟨g1,hg1,H⟩:=bE H
 refine Sx tok [] [0,13] (X:=[(0,.fsl (eL rQuad p0)),(13,.bool g1)]) (Y:=hp E0 [] (N0+9)) (by
  intro K k
  simp -dsimp -implicitDefEqProofs
  cases hbg1:ilt (ilen p0) 1
  ·obtain rfl:=oi (ifF hbg1 hg1)
   try simp -dsimp -implicitDefEqProofs [hbg1]
   exact k
  obtain rfl:=oi (ifT hbg1 hg1)
  try simp -dsimp -implicitDefEqProofs [hbg1]
  exact k) ?_
 refine Ci H (fun H=>?_) fun H=>?_
 ·refine S0 tok [] [2] ?_
  obtain rfl:=oi H;exact Wr ⟨_,rfl,4,by simp[eN]⟩
 refine Wsk (Jn hK1 ?_)
 refine Wsq [0] fun K2 hK2=>?_
 refine S0 tok [] [0,14,15,16] ?_
 refine Wbl (Wth ?_)
 obtain⟨e1,hse1,H⟩:=bE H
 refine zS [0,14,15,16] (fun s a σ=>∃M1:Nat,N0≤M1∧a=[(0,.fsl (eL rQuad p0)),(14,.fsl (eL rQuad p0)),(15,.int .i64 (ilen p0)),(16,.int .i64 s)]∧σ=hp E0 [] M1) (fun e x a σ=>match e with|.inl s=>x=.exit 0∧Rc G 39 N0 (fun a σ=>∃M2:Nat,N0≤M2∧a=[(0,.fsl (eL rQuad p0))]∧σ=hp E0 [] M2) (AAct.keep a [0]) σ|.inr s=>x=.ret∧∃vs,resA T σ a [.tmp 2]=some vs∧∃d,thawA (fun _=>true) σ d (tupA vs)=.bool s) hse1 ?_ ?_ ?_
 ·refine Rc.kp [0,14,15,16] [(0,.fsl (eL rQuad p0)),(14,.fsl (eL rQuad p0)),(15,.int .i64 (ilen p0)),(16,.int .i64 0)] rfl ?_
  exact Rf ⟨N0+12,(by omega),rfl,rfl⟩
 ·clear H hse1
  rintro s2 fl a σ H ⟨M1,fM1_0,rfl,rfl⟩ K3 O3 hK3 hO3
  unfold vK at H;dsimp only at H
  refine S0 tok [] [0,14,15,16,17] ?_
  refine Wsq [0,14,15,16] fun K4 hK4=>?_
  refine Ci H (fun H=>?_) fun H=>?_
  ·refine Wsk (Jn hK4 ?_)
   refine Wsq [0,14,15,16] fun K5 hK5=>?_
   refine Wbl (Wth ?_)
   obtain⟨v3,hv3,H⟩:=bE H
   refine Sx tok [] [0,4,14,15,16] (by intro K k;simp -dsimp -implicitDefEqProofs [ix34 hv3];exact k) ?_
   obtain⟨r4,hr4,H⟩:=bE H
   refine Sx tok [] [0,14,15,16,24] (by intro K k;(repeat first|simp -dsimp -implicitDefEqProofs|refine(c80 hr4).app ?_);exact k) ?_
   refine Ci H (fun H=>?_) fun H=>?_
   ·refine S0 tok [] [2] ?_
    obtain rfl:=oi H
    refine Kp [2] ?_
    refine Wr (hO3 _ _ _ _ rfl ⟨rfl,?_⟩)
    exact⟨[.bool false],by simp,4,by simp[eN]⟩
   refine Wsk (Jn hK5 ?_)
   refine Rt0 tok [] [0,14,15,16] fun a ha=>?_
   obtain rfl:=oi H
   refine hK3 _ _ _ rfl ?_;rw[ha]
   exact Rc.fin (AHeap.Sub.trans (AHeap.Sub.refl _) (zY rfl (by simp;try omega))) ⟨M1+12,(by omega),rfl,rfl⟩
  obtain rfl:=oi H
  refine zJ (hO3 _ _ _ _ rfl ⟨rfl,?_⟩)
  refine Rc.rw (l:=[0]) (X:=[(0,.fsl (eL rQuad p0))]) rfl ?_
  exact Rf ⟨M1+1,(by omega),rfl,rfl⟩
 intro x a σ hx
 rcases e1 with⟨⟩|r0
 ·obtain⟨rfl,b,τ,hr,M2,fM2_0,rfl,rfl⟩:=hx
  (try dsimp only at H)
  show K2 _ _
  refine hK2 _ _ (zK hr ?_)
  refine Rc.mk ?_
  obtain⟨v5,hv5,H⟩:=bE H
  refine Sx tok [] [5] (by intro K k;simp -dsimp -implicitDefEqProofs [ix34 hv5];exact k) ?_
  obtain⟨g6,hg6,H⟩:=bE H
  refine Sx tok [] [2] (X:=[(2,.bool g6)]) (Y:=hp E0 [] (M2+15)) (by
   intro K k
   simp -dsimp -implicitDefEqProofs
   cases hbg6:ieq v5.Op 10
   ·obtain rfl:=oi (ifF hbg6 hg6)
    try simp -dsimp -implicitDefEqProofs [hbg6]
    exact k
   obtain rfl:=oi (ifT hbg6 hg6)
   try simp -dsimp -implicitDefEqProofs [hbg6]
   exact k) ?_
  obtain rfl:=oi H;exact Wr ⟨_,rfl,4,by simp[eN]⟩
 obtain⟨rfl,hx2⟩:=hx
 (try dsimp only at H)
 obtain rfl:=oi H;first|exact hx2|(simp only[List.set_set] at hx2 ⊢;exact hx2)

theorem c97 {p0:gThread}{p1:List gQuad}{r:Bool}(H:uE p0 p1=some r):APure Tryz.prog G 97 [.agg [.fsl (eL rI p0.Regs),.int .i64 p0.Pc],.fsl (eL rQuad p1)] (.bool r):=by
 refine zE (fun N0=>?_) (by simp)
 refine fnK tok Tryz.func97 Tryz.ntmps97 Tryz.results97 ?_
 simp only[argsA,Nat.reduceAdd,hpN]
 unfold uE at H
 refine S0 tok [0] [1,2] ?_
 obtain⟨g2,hg2,H⟩:=bE H
 obtain⟨g3,hg3,H⟩:=bE H
 obtain⟨g4,hg4,H⟩:=bE H
 refine Sx tok [] [4] (X:=[(4,.bool g4)]) (Y:=hp E0 [] (N0+24)) (by
  intro K k
  simp -dsimp -implicitDefEqProofs
  cases hbg2:ieq (ilen p0.Regs) 12
  ·obtain rfl:=oi (ifF hbg2 hg2)
   obtain rfl:=oi (ifF rfl hg3)
   obtain rfl:=oi (ifF rfl hg4)
   try simp -dsimp -implicitDefEqProofs [hbg2]
   exact k
  replace hg2:=ifT hbg2 hg2
  obtain⟨r1,hr1,hg2⟩:=bE hg2
  obtain rfl:=oi hg2
  try simp -dsimp -implicitDefEqProofs [hbg2]
  refine(c95 hr1).app ?_;try simp -dsimp -implicitDefEqProofs [hbg2]
  cases hbg3:r1
  ·obtain rfl:=oi (ifF hbg3 hg3)
   obtain rfl:=oi (ifF rfl hg4)
   try simp -dsimp -implicitDefEqProofs [hbg2,hbg3]
   exact k
  obtain rfl:=oi (ifT hbg3 hg3)
  try simp -dsimp -implicitDefEqProofs [hbg2,hbg3]
  cases hbg4:(ige p0.Pc 0)
  ·obtain rfl:=oi (ifF hbg4 hg4)
   try simp -dsimp -implicitDefEqProofs [hbg2,hbg3,hbg4]
   exact k
  obtain rfl:=oi (ifT hbg4 hg4)
  try simp -dsimp -implicitDefEqProofs [hbg2,hbg3,hbg4]
  exact k) ?_
 obtain rfl:=oi H;exact Wr ⟨_,rfl,4,by simp[eN]⟩

theorem c71 {p0:gThread}{p1:List gQuad}{r:Bool}(H:jK p0 p1=some r):APure Tryz.prog G 71 [.agg [.fsl (eL rI p0.Regs),.int .i64 p0.Pc],.fsl (eL rQuad p1)] (.bool r):=by
 refine zE (fun N0=>?_) (by simp)
 refine fnK tok Tryz.func71 Tryz.ntmps71 Tryz.results71 ?_
 simp only[argsA,Nat.reduceAdd,hpN]
 unfold jK at H
 refine S0 tok [0] [1,2] ?_
 obtain⟨r1,hr1,H⟩:=bE H
 obtain⟨g3,hg3,H⟩:=bE H
 refine Sx tok [] [4] (X:=[(4,.bool g3)]) (Y:=hp E0 [] (N0+10)) (by
  intro K k
  simp -dsimp -implicitDefEqProofs
  refine(c50 hr1).app ?_;try simp -dsimp -implicitDefEqProofs
  cases hbg3:r1
  ·obtain rfl:=oi (ifF hbg3 hg3)
   try simp -dsimp -implicitDefEqProofs [hbg3]
   exact k
  replace hg3:=ifT hbg3 hg3
  obtain⟨r2,hr2,hg3⟩:=bE hg3
  obtain rfl:=oi hg3
  try simp -dsimp -implicitDefEqProofs [hbg3]
  refine(c97 hr2).app ?_;try simp -dsimp -implicitDefEqProofs [hbg3]
  exact k) ?_
 obtain rfl:=oi H;exact Wr ⟨_,rfl,4,by simp[eN]⟩
end Go.Proofs.YtolmjhgondilhaaGreat
