/- The contracts of functions of the program (UXUsesStep): each computes what its mirror computes. No conditions. -/
import Derived.Test.YtdnkfkfjaaedpaaGreatNUNUsesStep
import Derived.Test.YtdnkfkfjaaedpaaGreatNUT3
set_option linter.unusedSimpArgs false
set_option linter.unusedVariables false
set_option maxRecDepth 20000
set_option maxHeartbeats 4000000
namespace Go.Proofs.YtdnkfkfjaaedpaaGreat
open Go Go.Abs Go.RowKit

theorem c36 {p0:(List Int)}{p1:Int}{r:Bool}(H:l_hasInt p0 p1=some r):APure Tryz.prog G 36 [.fsl (eL rI p0),.int .i64 p1] (.bool r):=by
 refine zB (fun N0=>?_) (by simp)
 refine fnK tok Tryz.func36 Tryz.ntmps36 Tryz.results36 ?_
 simp only[argsA,Nat.reduceAdd,hpN]
 unfold l_hasInt at H
 refine S0 tok [] [0,1] ?_
 refine Wsq [] fun K1 hK1=>?_
 refine S0 tok [] [0,1,5] ?_
 refine Wbl (Wth ?_)
 obtain⟨e1,hse1,H⟩:=bE H
 refine zU [0,1,5] (fun s a σ=>∃M1:Nat,N0≤M1∧a=[(0,.fsl (eL rI p0)),(1,.int .i64 p1),(5,.int .i64 s)]∧σ=hp E0 [] M1) (fun e x a σ=>match e with|.inl s=>x=.exit 0∧Rc G 18 N0 (fun a σ=>∃M2:Nat,N0≤M2∧a=[]∧σ=hp E0 [] M2) (AAct.keep a []) σ|.inr s=>x=.ret∧∃vs,resA T σ a [.tmp 4]=some vs∧∃d,thawA (fun _=>true) σ d (tupA vs)=.bool s) hse1 ?_ ?_ ?_
 ·refine Rc.kp [0,1,5] [(0,.fsl (eL rI p0)),(1,.int .i64 p1),(5,.int .i64 0)] rfl ?_
  exact Rf ⟨N0+2,(by omega),rfl,rfl⟩
 ·clear H hse1
  rintro s1 fl a σ H ⟨M1,fM1_0,rfl,rfl⟩ K2 O2 hK2 hO2
  unfold l_hasInt_L1 at H;dsimp only at H
  refine Wsq [0,1,5] fun K3 hK3=>?_
  refine S0 tok [] [0,1,5,9] ?_
  refine Cd (fun C1=>?_) fun C1=>?_
  ·replace H:=ifT C1 H
   refine Wsk (Jn hK3 ?_)
   refine Wsq [0,1,5] fun K4 hK4=>?_
   refine Wbl (Wth ?_)
   obtain⟨v2,hv2,H⟩:=bE H
   refine Sx tok [] [0,1,5,17] (by intro K k;simp -dsimp -implicitDefEqProofs [ix24 hv2];exact k) ?_
   refine Cd (fun C2=>?_) fun C2=>?_
   ·replace H:=ifT C2 H
    refine S0 tok [] [4] ?_
    obtain rfl:=oi H
    refine Kp [4] ?_
    refine Wr (hO2 _ _ _ _ rfl ⟨rfl,?_⟩)
    exact⟨[.bool true],by simp,4,by simp[eN]⟩
   replace H:=ifF C2 H
   refine Wsk (Jn hK4 ?_)
   refine Rt0 tok [] [0,1,5] fun a ha=>?_
   obtain rfl:=oi H
   refine hK2 _ _ _ rfl ?_;rw[ha]
   exact Rf ⟨M1+13,(by omega),rfl,rfl⟩
  obtain rfl:=oi (ifF C1 H)
  refine zM (hO2 _ _ _ _ rfl ⟨rfl,?_⟩)
  refine Rc.rw (l:=[]) (X:=[]) rfl ?_
  exact Rf ⟨M1+4,(by omega),rfl,rfl⟩
 intro x a σ hx
 rcases e1 with⟨⟩|r0
 ·obtain⟨rfl,b,τ,hr,M2,fM2_0,rfl,rfl⟩:=hx
  (try dsimp only at H)
  show K1 _ _
  refine hK1 _ _ (zL hr ?_)
  refine Rc.mk ?_
  refine S0 tok [] [4] ?_
  obtain rfl:=oi H;exact Wr ⟨_,rfl,4,by simp[eN]⟩
 obtain⟨rfl,hx2⟩:=hx
 (try dsimp only at H)
 obtain rfl:=oi H;first|exact hx2|(simp only[List.set_set] at hx2 ⊢;exact hx2)

theorem c85 {p0:gQuad}{r:Int}(H:i_usesOf p0=some r):APure Tryz.prog G 85 [.agg [.int .i64 p0.Op,.int .i64 p0.Dst,.int .i64 p0.A,.int .i64 p0.B,.int .i64 p0.N]] (.int .u16 r):=by
 refine zB (fun N0=>?_) (by simp)
 refine fnK tok Tryz.func85 Tryz.ntmps85 Tryz.results85 ?_
 simp only[argsA,Nat.reduceAdd,hpN]
 unfold i_usesOf at H
 refine S0 tok [0] [1] ?_
 refine Wsq [] fun K1 hK1=>?_
 refine S0 tok [] [1,4] ?_
 refine Wbl (Wth ?_)
 obtain⟨j1,hj1,H⟩:=bE H
 refine kL (kI fun K2 hK2=>?_)
 have hJ1:∀a σ,Rc G 22 N0 (fun a σ=>∃M1:Nat,N0≤M1∧a=[(1,.fptr [.int .i64 p0.Op,.int .i64 p0.Dst,.int .i64 p0.A,.int .i64 p0.B,.int .i64 p0.N] 0),(4,.int .i64 p0.Op),(5,.bool j1)]∧σ=hp E0 [] M1) (a.keep [1,4,5]) σ→K2 a σ:=by
  rintro a σ ⟨b,τ,hr,M1,fM1_0,rfl,rfl⟩
  refine hK2 _ _ (kA [1,4,5] (Wre hr ?_))
  refine Cd (fun C1=>?_) fun C1=>?_
  ·replace H:=ifT C1 H
   obtain⟨v2,hv2,H⟩:=bE H
   refine Sx tok [] [2] (by intro K k;simp -dsimp -implicitDefEqProofs [hv2];exact k) ?_
   obtain rfl:=oi H;exact Wr ⟨_,rfl,4,by simp[eN]⟩
  replace H:=ifF C1 H
  refine S0 tok [] [1,13] ?_
  refine Cd (fun C2=>?_) fun C2=>?_
  ·replace H:=ifT C2 H
   obtain⟨v3,hv3,H⟩:=bE H
   obtain⟨v4,hv4,H⟩:=bE H
   refine Sd tok tokM [] [] [0,1,2,3,4,5,6,7] [2] (by
    intro K k
    simp only[pickL,zH,zJ]
    simp -dsimp -implicitDefEqProofs [hv3,hv4]
    exact k) ?_
   obtain rfl:=oi H;exact Wr ⟨_,rfl,4,by simp[eN]⟩
  replace H:=ifF C2 H
  refine Wsk (Jn hK1 ?_)
  refine S0 tok [] [2] ?_
  obtain rfl:=oi H;exact Wr ⟨_,rfl,4,by simp[eN]⟩
 replace H:=hj1
 refine S0 tok [] [1,4,5] ?_
 refine Cd (fun C3=>?_) fun C3=>?_
 ·replace H:=ifT C3 H
  refine Wsk ?_
  show K2 _ _
  refine kE [1,4,5] fun a' ha=>?_
  obtain rfl:=oi H
  refine hJ1 _ _ ?_;rw[ha]
  exact Rf ⟨N0+6,(by omega),rfl,rfl⟩
 replace H:=ifF C3 H
 refine S0 tok [] [1,4,5] ?_
 refine Cd (fun C4=>?_) fun C4=>?_
 ·replace H:=ifT C4 H
  refine Wsk ?_
  show K2 _ _
  refine kE [1,4,5] fun a' ha=>?_
  obtain rfl:=oi H
  refine hJ1 _ _ ?_;rw[ha]
  exact Rf ⟨N0+8,(by omega),rfl,rfl⟩
 replace H:=ifF C4 H
 refine S0 tok [] [1,4,5] ?_
 refine Cd (fun C5=>?_) fun C5=>?_
 ·replace H:=ifT C5 H
  refine Wsk ?_
  show K2 _ _
  refine kE [1,4,5] fun a' ha=>?_
  obtain rfl:=oi H
  refine hJ1 _ _ ?_;rw[ha]
  exact Rf ⟨N0+10,(by omega),rfl,rfl⟩
 replace H:=ifF C5 H
 refine Rt0 tok [] [1,4,5] fun a ha=>?_
 obtain rfl:=oi H
 refine hJ1 _ _ ?_;rw[ha]
 exact Rf ⟨N0+12,(by omega),rfl,rfl⟩

theorem c126 {p0:Int}{p1:Int}{r:Bool}(H:yI p0 p1=some r):APure Tryz.prog G 126 [.int .u16 p0,.int .i64 p1] (.bool r):=by
 refine zB (fun N0=>?_) (by simp)
 refine fnK tok Tryz.func126 Tryz.ntmps126 Tryz.results126 ?_
 simp only[argsA,Nat.reduceAdd,hpN]
 unfold yI at H
 refine S0 tok [] [0,1] ?_
 obtain⟨v1,hv1,H⟩:=bE H
 refine Sx tok [] [4] (by intro K k;simp -dsimp -implicitDefEqProofs [hv1];exact k) ?_
 obtain rfl:=oi H;exact Wr ⟨_,rfl,4,by simp[eN]⟩

theorem c86 {p0:Int}{r:(List Int)}(H:yR p0=some r):APure Tryz.prog G 86 [.int .u16 p0] (.fsl (eL rI r)):=by
 refine zB (fun N0=>?_) (by simp)
 refine fnK tok Tryz.func86 Tryz.ntmps86 Tryz.results86 ?_
 simp only[argsA,Nat.reduceAdd,hpN]
 unfold yR at H
 refine S0 tok [] [0] ?_
 refine S0 tok [] [0,3] ?_
 refine Wsq [3] fun K1 hK1=>?_
 refine S0 tok [] [0,3,5] ?_
 refine Wbl (Wth ?_)
 obtain⟨e1,hse1,H⟩:=bE H
 refine zU [0,3,5] (fun s a σ=>∃M1 o1:Nat,N0≤M1∧N0≤o1∧o1<M1∧a=[(0,.int .u16 p0),(3,.sl o1 0 s.2.length),(5,.int .i64 s.1)]∧σ=hp E0 [(o1,some ⟨3,1,eL rI s.2⟩)] M1) (fun s x a σ=>x=.exit 0∧Rc G 17 N0 (fun a σ=>∃M2 o2:Nat,N0≤M2∧N0≤o2∧o2<M2∧a=[(3,.sl o2 0 s.length)]∧σ=hp E0 [(o2,some ⟨3,1,eL rI s⟩)] M2) (AAct.keep a [3]) σ) hse1 ?_ ?_ ?_
 ·refine Rc.kp [0,3,5] [(0,.int .u16 p0),(3,.nilsl),(5,.int .i64 0)] rfl ?_
  refine gNilS zL 3 3 1 [(N0+3,some ⟨3,1,eL rI ([]:List Int)⟩)] [(0,.int .u16 p0),(3,.sl (N0+3) 0 ([]:List Int).length),(5,.int .i64 0)] (by simp(disch:=omega)) (by simp(disch:=omega) [eN]) [0,3,5] rfl ?_
  exact Rf ⟨N0+4,(N0+3),(by omega),(by omega),(by omega),rfl,rfl⟩
 ·clear H hse1
  rintro⟨s1,s2⟩ fl a σ H ⟨M1,o1,fM1_0,fM1_1,fM1_2,rfl,rfl⟩ K2 O2 hK2 hO2
  unfold jU at H;dsimp only at H
  refine S0 tok [] [0,3,5,6] ?_
  refine Wsq [0,3,5] fun K3 hK3=>?_
  refine Cd (fun C1=>?_) fun C1=>?_
  ·replace H:=ifT C1 H
   refine Wsk (Jn hK3 ?_)
   refine Wsq [0,3,5] fun K4 hK4=>?_
   refine Wbl (Wth ?_)
   refine S0 tok [] [0,3,4,5] ?_
   obtain⟨r4,hr4,H⟩:=bE H
   refine Sx tok [] [0,3,4,5,10] (by intro K k;(repeat first|simp -dsimp -implicitDefEqProofs|refine(c126 hr4).app ?_);exact k) ?_
   refine Cd (fun C2=>?_) fun C2=>?_
   ·replace H:=ifT C2 H
    obtain⟨l5,hl5,H⟩:=bE H
    have q0:∀σ i,bsA T 24 true i 1 [(0,.int .i64 s1)] σ=some (.fsl (eL rI ([s1]:List Int)),σ):=fun _ _=>rfl
    refine Rt tok [2] [0,3,5] (by
     intro K k
     have e0:=nQ o1 (M1+9)
     simp -dsimp -implicitDefEqProofs [e0,q0,app24 hl5]
     exact k) fun a ha=>?_
    refine hK4 _ _ ?_;rw[ha]
    refine Rc.mk ?_
    refine Rt0 tok [] [0,3,5] fun a ha=>?_
    obtain rfl:=oi H
    refine hK2 _ _ _ rfl ?_;rw[ha]
    exact Rf ⟨M1+13,(M1+9),(by omega),(by omega),(by omega),rfl,rfl⟩
   replace H:=ifF C2 H
   refine Wsk (Jn hK4 ?_)
   refine Rt0 tok [] [0,3,5] fun a ha=>?_
   obtain rfl:=oi H
   refine hK2 _ _ _ rfl ?_;rw[ha]
   exact Rf ⟨M1+8,o1,(by omega),(by omega),(by omega),rfl,rfl⟩
  obtain rfl:=oi (ifF C1 H)
  refine zM (hO2 _ _ _ _ rfl ⟨rfl,?_⟩)
  refine Rc.rw (l:=[3]) (X:=[(3,.sl o1 0 s2.length)]) rfl ?_
  exact Rf ⟨M1+1,o1,(by omega),(by omega),(by omega),rfl,rfl⟩
 intro x a σ hx
 obtain⟨y3,rfl⟩:∃x,x=e1:=⟨_,rfl⟩
 obtain⟨rfl,b,τ,hr,M2,o2,fM2_0,fM2_1,fM2_2,rfl,rfl⟩:=hx
 (try dsimp only at H)
 show K1 _ _
 refine hK1 _ _ (zL hr ?_)
 refine Rc.mk ?_
 refine S0 tok [] [2] ?_
 obtain rfl:=oi H;exact Wr ⟨_,rfl,4,by simp[eN]⟩

theorem c38 {p0:gQuad}{r:(List Int)}(H:i_QuadUses p0=some r):APure Tryz.prog G 38 [.agg [.int .i64 p0.Op,.int .i64 p0.Dst,.int .i64 p0.A,.int .i64 p0.B,.int .i64 p0.N]] (.fsl (eL rI r)):=by
 refine zB (fun N0=>?_) (by simp)
 refine fnK tok Tryz.func38 Tryz.ntmps38 Tryz.results38 ?_
 simp only[argsA,Nat.reduceAdd,hpN]
 unfold i_QuadUses at H
 refine S0 tok [0] [1] ?_
 refine Wsq [1] fun K1 hK1=>?_
 obtain⟨r1,hr1,H⟩:=bE H
 refine Sx tok [] [1,5] (by intro K k;(repeat first|simp -dsimp -implicitDefEqProofs|refine(c84 hr1).app ?_);exact k) ?_
 refine Cd (fun C1=>?_) fun C1=>?_
 ·replace H:=ifT C1 H
  refine S0 tok [] [2] ?_
  obtain rfl:=oi H;exact Wr ⟨_,rfl,4,by simp[eN]⟩
 replace H:=ifF C1 H
 refine Wsk (Jn hK1 ?_)
 obtain⟨r2,hr2,H⟩:=bE H
 obtain⟨r3,hr3,H⟩:=bE H
 refine Sx tok [] [2] (by intro K k;(repeat first|simp -dsimp -implicitDefEqProofs|refine(c85 hr2).app ?_|refine(c86 hr3).app ?_);exact k) ?_
 obtain rfl:=oi H;exact Wr ⟨_,rfl,4,by simp[eN]⟩

theorem c24_o4 {p0:(List gQuad)}{p1:gThread}{p2:(List gBox)}{r:gThread×(List gBox)×(List Int)×Int}(H:jC p0 p1 p2=some r){σ:AHeap}:ACalls Tryz.prog G 24 [.fsl (eL rQuad p0),.agg [.fsl (eL rI p1.Regs),.int .i64 p1.Pc],.fsl (eL rBox p2)] σ (fun v σ'=>∃M n0 n1 n2:Nat,σ.next≤M∧σ.next≤n0∧n0<M∧σ.next≤n1∧n1<M∧σ.next≤n2∧n2<M∧¬n0=n1∧¬n0=n2∧¬n1=n2∧v=.tup [.agg [.sl n0 0 r.1.Regs.length,.int .i64 r.1.Pc],.sl n1 0 r.2.1.length,.sl n2 0 r.2.2.1.length,.int .i64 r.2.2.2]∧σ'=hp σ.objs [(n0,some ⟨3,1,eL rI r.1.Regs⟩),(n1,some ⟨40,2,eL zW r.2.1⟩),(n2,some ⟨3,1,eL rI r.2.2.1⟩)] M):=by
 refine zP (L:=[]) (Q1:=fun v σ'=>∃M n0 n1 n2:Nat,σ.next≤M∧σ.next≤n0∧n0<M∧σ.next≤n1∧n1<M∧σ.next≤n2∧n2<M∧¬n0=n1∧¬n0=n2∧¬n1=n2∧v=.tup [.agg [.sl n0 0 r.1.Regs.length,.int .i64 r.1.Pc],.sl n1 0 r.2.1.length,.sl n2 0 r.2.2.1.length,.int .i64 r.2.2.2]∧σ'=hp E0 [(n0,some ⟨3,1,eL rI r.1.Regs⟩),(n1,some ⟨40,2,eL zW r.2.1⟩),(n2,some ⟨3,1,eL rI r.2.2.1⟩)] M) (by simp) (fun hlt=>?_) ?_ ⟨_,Tryz.func24,rfl,rfl⟩
 rotate_left
 ·rintro v σ1 ⟨M,n0,n1,n2,h0,h1,h2,h3,h4,h5,h6,h7,h8,h9,rfl,rfl⟩
  exact⟨_,M,rfl,by simp,by simp;try omega,M,n0,n1,n2,h0,h1,h2,h3,h4,h5,h6,h7,h8,h9,rfl,rfl⟩
 generalize σ.next=N0 at hlt ⊢
 refine jF 4 ?_
 refine fnK tok Tryz.func24 Tryz.ntmps24 Tryz.results24 ?_
 simp only[argsA,Nat.reduceAdd,hpN]
 unfold jC at H
 refine S0 tok [0] [0,2,4,6] ?_
 refine Wsq [0,2,4,6] fun K1 hK1=>?_
 refine gP0 Wre (N0+1) 0 0 3 1 (eL rI ([]:List Int)) ?_
 obtain⟨r1,hr1,H⟩:=bE H
 obtain⟨g3,hg3,H⟩:=bE H
 obtain⟨g6,hg6,H⟩:=bE H
 refine Sx tok [] [0,2,4,6,33] (X:=[(0,.fsl (eL rQuad p0)),(2,.fsl (eL rBox p2)),(4,.fptr [.fsl (eL rI p1.Regs),.int .i64 p1.Pc] 0),(6,.ptr (N0+1) 0 0),(33,.bool g6)]) (Y:=hp E0 [(N0+1,some ⟨26,2,[[.osl 3 1 (eL rI ([]:List Int)),.int .i64 0]]⟩)] (N0+25)) (by
  intro K k
  simp -dsimp -implicitDefEqProofs
  refine(c30 hr1).app ?_;try simp -dsimp -implicitDefEqProofs
  cases hbg3:bnot r1
  ·replace hg3:=ifF hbg3 hg3
   obtain⟨r2,hr2,hg3⟩:=bE hg3
   obtain rfl:=oi hg3
   try simp -dsimp -implicitDefEqProofs [hbg3]
   refine(c68 hr2).app ?_;try simp -dsimp -implicitDefEqProofs [hbg3]
   cases hbg6:(bnot r2)
   ·replace hg6:=ifF hbg6 hg6
    obtain⟨v4,hv4,hg6⟩:=bE hg6
    obtain⟨r5,hr5,hg6⟩:=bE hg6
    obtain rfl:=oi hg6
    try simp -dsimp -implicitDefEqProofs [hbg3,hbg6,ix23 hv4]
    refine(c69 hr5).app ?_;try simp -dsimp -implicitDefEqProofs [hbg3,hbg6,ix23 hv4]
    exact k
   obtain rfl:=oi (ifT hbg6 hg6)
   try simp -dsimp -implicitDefEqProofs [hbg3,hbg6]
   exact k
  obtain rfl:=oi (ifT hbg3 hg3)
  obtain rfl:=oi (ifT rfl hg6)
  try simp -dsimp -implicitDefEqProofs [hbg3]
  exact k) ?_
 refine Cd (fun C1=>?_) fun C1=>?_
 ·replace H:=ifT C1 H
  refine S0 tok [0] [6,7,8,9] ?_
  obtain rfl:=oi H
  refine Kp [6,7,8,9] ?_
  refine gP0 Wre (N0+1) 0 0 3 1 (eL rI ([]:List Int)) ?_
  refine gU Wre (N0+1) 0 0 ?_
  refine gNilS Wre 7 40 2 [(N0+1,some ⟨26,2,[[.sl (N0+30) 0 ([]:List Int).length,.int .i64 0]]⟩),(N0+30,some ⟨3,1,eL rI ([]:List Int)⟩),(N0+31,some ⟨40,2,eL zW ([]:List gBox)⟩)] [(6,.ptr (N0+1) 0 0),(7,.sl (N0+31) 0 ([]:List gBox).length),(8,.nilsl),(9,.int .i64 0)] (by simp(disch:=omega)) (by simp(disch:=omega) [eN]) [6,7,8,9] rfl ?_
  refine gNilS Wre 8 3 1 [(N0+1,some ⟨26,2,[[.sl (N0+30) 0 ([]:List Int).length,.int .i64 0]]⟩),(N0+30,some ⟨3,1,eL rI ([]:List Int)⟩),(N0+31,some ⟨40,2,eL zW ([]:List gBox)⟩),(N0+32,some ⟨3,1,eL rI ([]:List Int)⟩)] [(6,.ptr (N0+1) 0 0),(7,.sl (N0+31) 0 ([]:List gBox).length),(8,.sl (N0+32) 0 ([]:List Int).length),(9,.int .i64 0)] (by simp(disch:=omega)) (by simp(disch:=omega) [eN]) [6,7,8,9] rfl ?_
  refine Wr ?_
  refine⟨[.agg [.sl (N0+30) 0 ([]:List Int).length,.int .i64 0],.sl (N0+31) 0 ([]:List gBox).length,.sl (N0+32) 0 ([]:List Int).length,.int .i64 0],by simp,(fun o=>[N0+1].contains o),N0+33,N0+30,N0+31,N0+32,by omega,by omega,by omega,by omega,by omega,by omega,by omega,by omega,by omega,by omega,?_,?_⟩
  ·simp[eN]
  rw[cutD (L':=[(N0+30,some ⟨3,1,eL rI ([]:List Int)⟩),(N0+31,some ⟨40,2,eL zW ([]:List gBox)⟩),(N0+32,some ⟨3,1,eL rI ([]:List Int)⟩)]) (by simp)]
  first|done|rfl|simp
 replace H:=ifF C1 H
 refine Wsk (Jn hK1 ?_)
 obtain⟨r7,hr7,H⟩:=bE H
 refine AWP_syC tok tokM [] [2,6,7] [0,1,3,4,2,5,6,7] [] [0,2,6,10] (fun a σ=>∃M1 o1:Nat,N0+33≤M1∧N0+33≤o1∧o1<M1∧a=[(0,.fsl (eL rQuad p0)),(2,.fsl (eL rBox p2)),(6,.ptr (N0+1) 0 0),(10,.ptr (N0+31) 0 0)]∧σ=hp E0 [(N0+1,some ⟨26,2,[[.osl 3 1 (eL rI ([]:List Int)),.int .i64 0]]⟩),(o1,some ⟨3,1,eL rI r7⟩),(N0+31,some ⟨26,2,[[.sl o1 0 r7.length,.int .i64 p1.Pc]]⟩)] M1) (by decide) (by kernel_rfl) (fun K hK=>?_) ?_
 ·simp only[pickL,zH,zJ]
  simp -dsimp -implicitDefEqProofs
  refine(c70_o (H:=hr7)).mono ?_;rintro _ _ ⟨M1,o1,fM1_0,fM1_1,fM1_2,rfl,rfl⟩;simp only[hpN] at fM1_0 fM1_1 fM1_2
  have eM1_0:=nQ o1 (N0+1)
  have eM1_1:=nQ o1 (N0+31)
  try simp -dsimp -implicitDefEqProofs [eM1_0,eM1_1,hoS,hoN]
  exact hK _ _ ⟨M1,o1,(by omega),(by omega),(by omega),rfl,rfl⟩
 rintro a σ ⟨M1,o1,fM1_0,fM1_1,fM1_2,rfl,rfl⟩
 refine gP Wre (N0+31) 0 0 ?_
 obtain⟨r8,hr8,H⟩:=bE H
 refine kX tok [] [0,6,10,11] (fun a σ=>∃M2 o2:Nat,M1+3≤M2∧M1+3≤o2∧o2<M2∧a=[(0,.fsl (eL rQuad p0)),(6,.ptr (N0+1) 0 0),(10,.ptr (N0+31) 0 0),(11,.sl o2 0 r8.length)]∧σ=hp E0 [(N0+1,some ⟨26,2,[[.osl 3 1 (eL rI ([]:List Int)),.int .i64 0]]⟩),(N0+31,some ⟨26,2,[[.osl 3 1 (eL rI r7),.int .i64 p1.Pc]]⟩),(o2,some ⟨40,2,eL zW r8⟩)] M2) (fun K hK=>?_) ?_
 ·skip
  simp -dsimp -implicitDefEqProofs
  refine(c71_o2 (H:=hr8)).mono ?_;rintro _ _ ⟨M2,o2,fM2_0,fM2_1,fM2_2,rfl,rfl⟩;simp only[hpN] at fM2_0 fM2_1 fM2_2
  have eM2_0:=nQ o2 (N0+1)
  have eM2_1:=nQ o2 (N0+31)
  try simp -dsimp -implicitDefEqProofs [eM2_0,eM2_1,hoS,hoN]
  exact hK _ _ ⟨M2,o2,(by omega),(by omega),(by omega),rfl,rfl⟩
 rintro a σ ⟨M2,o2,fM2_0,fM2_1,fM2_2,rfl,rfl⟩
 refine Sx tok [] [0,6,10,11,12] (by
  intro K k
  have e0:=nQ (N0+1) o2
  have e1:=nQ (N0+1) M2
  have e2:=nQ (N0+31) o2
  have e3:=nQ (N0+31) M2
  have e4:=nQ o2 M2
  simp -dsimp -implicitDefEqProofs [e0,e1,e2,e3,e4]
  exact k) ?_
 refine gP0 Wre M2 0 0 3 1 (eL rI ([]:List Int)) ?_
 obtain⟨r9,hr9,H⟩:=bE H
 refine kX tok [] [6,10,11,12,13] (fun a σ=>∃M3:Nat,M2+5≤M3∧r9.2.2.1.length=r8.length∧a=[(6,.ptr (N0+1) 0 0),(10,.ptr (N0+31) 0 0),(11,.sl o2 0 r8.length),(12,.ptr M2 0 0),(13,.int .i64 r9.1)]∧σ=hp E0 [(N0+1,some ⟨26,2,[[.osl 3 1 (eL rI ([]:List Int)),.int .i64 0]]⟩),(N0+31,some ⟨26,2,[[.osl 3 1 (eL rI r9.2.1.Regs),.int .i64 r9.2.1.Pc]]⟩),(o2,some ⟨40,2,eL zW r9.2.2.1⟩),(M2,some ⟨24,1,[[.osl 3 1 (eL rI r9.2.2.2)]]⟩)] M3) (fun K hK=>?_) ?_
 ·skip
  have e0:=nQ (N0+1) o2
  have e1:=nQ (N0+1) M2
  have e2:=nQ (N0+31) o2
  have e3:=nQ (N0+31) M2
  have e4:=nQ o2 M2
  simp -dsimp -implicitDefEqProofs [e0,e1,e2,e3,e4]
  refine(c72 (W0:=[[.osl 3 1 (eL rI r7),.int .i64 p1.Pc]]) (r0_:=0) (W3:=[[.osl 3 1 (eL rI ([]:List Int))]]) (r3_:=0) (x3_:=[.osl 3 1 (eL rI ([]:List Int))]) (i3_:=0) (t3_:=24) (s3_:=1) (H:=hr9) (by simp[e0,e1,e2,e3,e4]) (by simp[e0,e1,e2,e3,e4]) (by simp[e0,e1,e2,e3,e4]) (by simp[e0,e1,e2,e3,e4]) (by simp[e0,e1,e2,e3,e4]) (by simp[e0,e1,e2,e3,e4]) (by simp[e0,e1,e2,e3,e4]) (by simp[e0,e1,e2,e3,e4]) (by simp[e0,e1,e2,e3,e4])).mono ?_;rintro _ _ ⟨M3,fM3_0,fM3_1,rfl,rfl⟩;simp only[hpN] at fM3_0
  try simp -dsimp -implicitDefEqProofs [e0,e1,e2,e3,e4,hoS,hoN]
  exact hK _ _ ⟨M3,(by omega),fM3_1,rfl,rfl⟩
 rintro a σ ⟨M3,fM3_0,fM3_1,rfl,rfl⟩
 try rw[← fM3_1]
 refine gU Wre (N0+31) 0 0 ?_
 refine gU Wre M2 0 0 ?_
 refine AWP_sy tok tokM [] [0,2,4,5] [1,3,0,2,4,5,6,7] [(4,[2])] [6,7,8,9] (fun a σ=>a=[(6,.ptr (N0+1) 0 0),(7,.sl o2 0 r9.2.2.1.length),(8,.sl (M3+1) 0 r9.2.2.2.length),(9,.int .i64 r9.1)]∧σ=hp E0 [(N0+1,some ⟨26,2,[[.sl M3 0 r9.2.1.Regs.length,.int .i64 r9.2.1.Pc]]⟩),(N0+31,some ⟨26,2,[[.sl M3 0 r9.2.1.Regs.length,.int .i64 r9.2.1.Pc]]⟩),(o2,some ⟨40,2,eL zW r9.2.2.1⟩),(M2,some ⟨24,1,[[.sl (M3+1) 0 r9.2.2.2.length]]⟩),(M3,some ⟨3,1,eL rI r9.2.1.Regs⟩),(M3+1,some ⟨3,1,eL rI r9.2.2.2⟩)] (M3+10)) (by decide) (fun K hK=>?_) ?_
 ·simp only[pickL,zH,zJ]
  have e0:=nQ (N0+1) o2
  have e1:=nQ (N0+1) M2
  have e2:=nQ (N0+1) M3
  have e3:=nQ (N0+1) (M3+1)
  have e4:=nQ N0 M3
  have e5:=nQ (N0+31) o2
  have e6:=nQ (N0+31) M2
  have e7:=nQ (N0+31) M3
  have e8:=nQ (N0+31) (M3+1)
  have e9:=nQ (N0+30) M3
  have e10:=nQ o2 M2
  have e11:=nQ o2 M3
  have e12:=nQ o2 (M3+1)
  have e13:=nQ M2 M3
  have e14:=nQ M2 (M3+1)
  simp -dsimp -implicitDefEqProofs [e0,e1,e2,e3,e4,e5,e6,e7,e8,e9,e10,e11,e12,e13,e14]
  exact hK _ _ ⟨rfl,rfl⟩
 rintro a σ ⟨rfl,rfl⟩
 obtain rfl:=oi H
 refine Kp [6,7,8,9] ?_
 refine gDrop Wre [(N0+1,some ⟨26,2,[[.sl M3 0 r9.2.1.Regs.length,.int .i64 r9.2.1.Pc]]⟩),(o2,some ⟨40,2,eL zW r9.2.2.1⟩),(M3,some ⟨3,1,eL rI r9.2.1.Regs⟩),(M3+1,some ⟨3,1,eL rI r9.2.2.2⟩)] (zK (AHeap.Sub.trans (zK (AHeap.Sub.trans (zK (zK (AHeap.Sub.refl _))) (zR rfl (by simp;try omega)))) (zR rfl (by simp;try omega)))) ?_
 refine gP Wre (N0+1) 0 0 ?_
 refine gU Wre (N0+1) 0 0 ?_
 have z0:=nQ (N0+1) o2
 have z1:=nQ (N0+1) (M3+1)
 have z2:=nQ N0 M3
 have z3:=nQ (N0+1) (M3+10)
 have z4:=nQ N0 (M3+9)
 have z5:=nQ o2 (M3+1)
 have z6:=nQ o2 (M3+10)
 have z7:=nQ (N0+1) o2
 have z8:=nQ (N0+1) (M3+1)
 have z9:=nQ N0 M3
 have z10:=nQ (N0+1) (M3+10)
 have z11:=nQ N0 (M3+9)
 have z12:=nQ o2 (M3+1)
 have z13:=nQ o2 (M3+10)
 rw[show hp E0 [(N0+1,some ⟨26,2,[[.sl (M3+10) 0 r9.2.1.Regs.length,.int .i64 r9.2.1.Pc]]⟩),(o2,some ⟨40,2,eL zW r9.2.2.1⟩),(M3+1,some ⟨3,1,eL rI r9.2.2.2⟩),(M3+10,some ⟨3,1,eL rI r9.2.1.Regs⟩)] (M3+11)=hp E0 [(N0+1,some ⟨26,2,[[.sl (M3+10) 0 r9.2.1.Regs.length,.int .i64 r9.2.1.Pc]]⟩),(M3+10,some ⟨3,1,eL rI r9.2.1.Regs⟩),(o2,some ⟨40,2,eL zW r9.2.2.1⟩),(M3+1,some ⟨3,1,eL rI r9.2.2.2⟩)] (M3+11) from hp_perm (by simp[z7,z8,z9,z10,z11,z12,z13]) (by simp)]
 refine Wr ?_
 refine⟨[.agg [.sl (M3+10) 0 r9.2.1.Regs.length,.int .i64 r9.2.1.Pc],.sl o2 0 r9.2.2.1.length,.sl (M3+1) 0 r9.2.2.2.length,.int .i64 r9.1],by simp[z0,z1,z2,z3,z4,z5,z6],(fun o=>[N0+1].contains o),M3+11,M3+10,o2,M3+1,by omega,by omega,by omega,by omega,by omega,by omega,by omega,by omega,by omega,by omega,?_,?_⟩
 ·simp[eN,z0,z1,z2,z3,z4,z5,z6]
 rw[cutD (L':=[(M3+10,some ⟨3,1,eL rI r9.2.1.Regs⟩),(o2,some ⟨40,2,eL zW r9.2.2.1⟩),(M3+1,some ⟨3,1,eL rI r9.2.2.2⟩)]) (by simp[z0,z1,z2,z3,z4,z5,z6])]
 first|done|rfl|simp

theorem c24_o4_b {p0:(List gQuad)}{p1:gThread}{p2:(List gBox)}{r:gThread×(List gBox)×(List Int)×Int}(H:jC p0 p1 p2=some r){σ:AHeap}{args:List AV}(hy:args.map (thawA (fun _=>true) σ 8)=[.fsl (eL rQuad p0),.agg [.fsl (eL rI p1.Regs),.int .i64 p1.Pc],.fsl (eL rBox p2)]):ACalls Tryz.prog G 24 args σ (fun v σ'=>∃M n0 n1 n2:Nat,σ.next≤M∧σ.next≤n0∧n0<M∧σ.next≤n1∧n1<M∧σ.next≤n2∧n2<M∧¬n0=n1∧¬n0=n2∧¬n1=n2∧v=.tup [.agg [.sl n0 0 r.1.Regs.length,.int .i64 r.1.Pc],.sl n1 0 r.2.1.length,.sl n2 0 r.2.2.1.length,.int .i64 r.2.2.2]∧σ'=hp σ.objs [(n0,some ⟨3,1,eL rI r.1.Regs⟩),(n1,some ⟨40,2,eL zW r.2.1⟩),(n2,some ⟨3,1,eL rI r.2.2.1⟩)] M):=by
 refine borrowQ 8 8 (c24_o4 (σ:=⟨E0,σ.next⟩) H) hy ?_
 rintro _ _ ⟨M,n0,n1,n2,h0,h1,h2,h3,h4,h5,h6,h7,h8,h9,rfl,rfl⟩
 refine⟨_,M,rfl,by simp[AV.rnf,AV.simp1],fun p hp ob ho=>?_,by simp,M,n0,n1,n2,h0,h1,h2,h3,h4,h5,h6,h7,h8,h9,rfl,rfl⟩
 simp only[List.mem_cons,List.not_mem_nil,or_false] at hp
 rcases hp with rfl|rfl|rfl<;>(cases ho;first|exact encL_nf (fun x=>nf_rI 7 x) _|exact encL_nf (fun x=>nf_rBox_o 6 x) _|exact encL_nf (fun x=>nf_rI 7 x) _|simp[AV.nf,AV.simp1])

theorem c87 {p0:gQuad}{r:Int}(H:i_setsOf p0=some r):APure Tryz.prog G 87 [.agg [.int .i64 p0.Op,.int .i64 p0.Dst,.int .i64 p0.A,.int .i64 p0.B,.int .i64 p0.N]] (.int .i64 r):=by
 refine zB (fun N0=>?_) (by simp)
 refine fnK tok Tryz.func87 Tryz.ntmps87 Tryz.results87 ?_
 simp only[argsA,Nat.reduceAdd,hpN]
 unfold i_setsOf at H
 refine S0 tok [0] [1] ?_
 refine Wsq [] fun K1 hK1=>?_
 refine S0 tok [] [1,4] ?_
 refine Wbl (Wth ?_)
 obtain⟨j1,hj1,H⟩:=bE H
 refine kL (kI fun K2 hK2=>?_)
 have hJ1:∀a σ,Rc G 12 N0 (fun a σ=>∃M1:Nat,N0≤M1∧a=[(1,.fptr [.int .i64 p0.Op,.int .i64 p0.Dst,.int .i64 p0.A,.int .i64 p0.B,.int .i64 p0.N] 0),(5,.bool j1)]∧σ=hp E0 [] M1) (a.keep [1,5]) σ→K2 a σ:=by
  rintro a σ ⟨b,τ,hr,M1,fM1_0,rfl,rfl⟩
  refine hK2 _ _ (kA [1,5] (Wre hr ?_))
  refine Cd (fun C1=>?_) fun C1=>?_
  ·replace H:=ifT C1 H
   refine S0 tok [] [2] ?_
   obtain rfl:=oi H;exact Wr ⟨_,rfl,4,by simp[eN]⟩
  replace H:=ifF C1 H
  refine Wsk (Jn hK1 ?_)
  refine S0 tok [] [2] ?_
  obtain rfl:=oi H;exact Wr ⟨_,rfl,4,by simp[eN]⟩
 replace H:=hj1
 refine S0 tok [] [1,4,5] ?_
 refine Cd (fun C2=>?_) fun C2=>?_
 ·replace H:=ifT C2 H
  refine Wsk ?_
  show K2 _ _
  refine kE [1,5] fun a' ha=>?_
  obtain rfl:=oi H
  refine hJ1 _ _ ?_;rw[ha]
  exact Rf ⟨N0+6,(by omega),rfl,rfl⟩
 replace H:=ifF C2 H
 refine S0 tok [] [1,4,5] ?_
 refine Cd (fun C3=>?_) fun C3=>?_
 ·replace H:=ifT C3 H
  refine Wsk ?_
  show K2 _ _
  refine kE [1,5] fun a' ha=>?_
  obtain rfl:=oi H
  refine hJ1 _ _ ?_;rw[ha]
  exact Rf ⟨N0+8,(by omega),rfl,rfl⟩
 replace H:=ifF C3 H
 refine S0 tok [] [1,4,5] ?_
 refine Cd (fun C4=>?_) fun C4=>?_
 ·replace H:=ifT C4 H
  refine Wsk ?_
  show K2 _ _
  refine kE [1,5] fun a' ha=>?_
  obtain rfl:=oi H
  refine hJ1 _ _ ?_;rw[ha]
  exact Rf ⟨N0+10,(by omega),rfl,rfl⟩
 replace H:=ifF C4 H
 refine Rt0 tok [] [1,5] fun a ha=>?_
 obtain rfl:=oi H
 refine hJ1 _ _ ?_;rw[ha]
 exact Rf ⟨N0+12,(by omega),rfl,rfl⟩

theorem c39 {p0:gQuad}{r:Int}(H:i_QuadSets p0=some r):APure Tryz.prog G 39 [.agg [.int .i64 p0.Op,.int .i64 p0.Dst,.int .i64 p0.A,.int .i64 p0.B,.int .i64 p0.N]] (.int .i64 r):=by
 refine zB (fun N0=>?_) (by simp)
 refine fnK tok Tryz.func39 Tryz.ntmps39 Tryz.results39 ?_
 simp only[argsA,Nat.reduceAdd,hpN]
 unfold i_QuadSets at H
 refine S0 tok [0] [1] ?_
 refine Wsq [1] fun K1 hK1=>?_
 obtain⟨r1,hr1,H⟩:=bE H
 refine Sx tok [] [1,5] (by intro K k;(repeat first|simp -dsimp -implicitDefEqProofs|refine(c84 hr1).app ?_);exact k) ?_
 refine Cd (fun C1=>?_) fun C1=>?_
 ·replace H:=ifT C1 H
  refine S0 tok [] [2] ?_
  obtain rfl:=oi H;exact Wr ⟨_,rfl,4,by simp[eN]⟩
 replace H:=ifF C1 H
 refine Wsk (Jn hK1 ?_)
 obtain⟨r2,hr2,H⟩:=bE H
 refine Sx tok [] [2] (by intro K k;(repeat first|simp -dsimp -implicitDefEqProofs|refine(c87 hr2).app ?_);exact k) ?_
 obtain rfl:=oi H;exact Wr ⟨_,rfl,4,by simp[eN]⟩

theorem c12 {p0:(List Int)}{r:Bool}(H:l_FnUsesStep p0=some r):APure Tryz.prog G 12 [.fsl (eL rU8 p0)] (.bool r):=by
 refine zB (fun N0=>?_) (by simp)
 refine fnK tok Tryz.func12 Tryz.ntmps12 Tryz.results12 ?_
 simp only[argsA,Nat.reduceAdd,hpN]
 unfold l_FnUsesStep at H
 refine S0 tok [] [0] ?_
 refine Wsq [0] fun K1 hK1=>?_
 refine S0 tok [] [0,24] ?_
 refine Cd (fun C1=>?_) fun C1=>?_
 ·replace H:=ifT C1 H
  refine S0 tok [] [2] ?_
  obtain rfl:=oi H;exact Wr ⟨_,rfl,4,by simp[eN]⟩
 replace H:=ifF C1 H
 refine Wsk (Jn hK1 ?_)
 obtain⟨r1,hr1,H⟩:=bE H
 refine Sx tok [] [3,4,5] (by intro K k;(repeat first|simp -dsimp -implicitDefEqProofs|refine(c23 hr1).app ?_);exact k) ?_
 obtain⟨r2,hr2,H⟩:=bE H
 refine Sx tok [] [3,4,5,6,7,8,9] (by intro K k;(repeat first|simp -dsimp -implicitDefEqProofs|refine(c24 hr2).app ?_);exact k) ?_
 obtain⟨r3,hr3,H⟩:=bE H
 refine Sx tok [] [3,4,5,6,7,8,9,10,11,12,13] (by intro K k;(repeat first|simp -dsimp -implicitDefEqProofs|refine(c25 hr3).app ?_);exact k) ?_
 refine Wsq [3,4,5,6,7,8,9] fun K2 hK2=>?_
 obtain⟨g5,hg5,H⟩:=bE H
 obtain⟨g7,hg7,H⟩:=bE H
 obtain⟨g9,hg9,H⟩:=bE H
 refine Sx tok [] [3,4,5,6,7,8,9,69] (X:=[(3,.fsl (eL rQuad r1.1)),(4,.ptr (N0+10) 0 0),(5,.fsl (eL rBox r1.2.2)),(6,.ptr (N0+23) 0 0),(7,.fsl (eL rBox r2.2.1)),(8,.fsl (eL rI r2.2.2.1)),(9,.int .i64 r2.2.2.2),(69,.bool g9)]) (Y:=hp E0 [(N0+10,some ⟨26,2,[[.fsl (eL rI r1.2.1.Regs),.int .i64 r1.2.1.Pc]]⟩),(N0+23,some ⟨26,2,[[.fsl (eL rI r2.1.Regs),.int .i64 r2.1.Pc]]⟩),(N0+37,some ⟨26,2,[[.fsl (eL rI r3.1.Regs),.int .i64 r3.1.Pc]]⟩)] (N0+63)) (by
  intro K k
  simp -dsimp -implicitDefEqProofs
  cases hbg5:ine r2.2.2.2 r3.2.2.2
  ·replace hg5:=ifF hbg5 hg5
   obtain⟨r4,hr4,hg5⟩:=bE hg5
   obtain rfl:=oi hg5
   try simp -dsimp -implicitDefEqProofs [hbg5]
   refine(c26 hr4).app ?_;try simp -dsimp -implicitDefEqProofs [hbg5]
   cases hbg7:(bnot r4)
   ·replace hg7:=ifF hbg7 hg7
    obtain⟨r6,hr6,hg7⟩:=bE hg7
    obtain rfl:=oi hg7
    try simp -dsimp -implicitDefEqProofs [hbg5,hbg7]
    refine(c27 hr6).app ?_;try simp -dsimp -implicitDefEqProofs [hbg5,hbg7]
    cases hbg9:(bnot r6)
    ·replace hg9:=ifF hbg9 hg9
     obtain⟨r8,hr8,hg9⟩:=bE hg9
     obtain rfl:=oi hg9
     try simp -dsimp -implicitDefEqProofs [hbg5,hbg7,hbg9]
     refine(c28 hr8).app ?_;try simp -dsimp -implicitDefEqProofs [hbg5,hbg7,hbg9]
     exact k
    obtain rfl:=oi (ifT hbg9 hg9)
    try simp -dsimp -implicitDefEqProofs [hbg5,hbg7,hbg9]
    exact k
   obtain rfl:=oi (ifT hbg7 hg7)
   obtain rfl:=oi (ifT rfl hg9)
   try simp -dsimp -implicitDefEqProofs [hbg5,hbg7]
   exact k
  obtain rfl:=oi (ifT hbg5 hg5)
  obtain rfl:=oi (ifT rfl hg7)
  obtain rfl:=oi (ifT rfl hg9)
  try simp -dsimp -implicitDefEqProofs [hbg5]
  exact k) ?_
 refine Cd (fun C2=>?_) fun C2=>?_
 ·replace H:=ifT C2 H
  refine S0 tok [] [2] ?_
  obtain rfl:=oi H;exact Wr ⟨_,rfl,4,by simp[eN]⟩
 replace H:=ifF C2 H
 refine Wsk (Jn hK2 ?_)
 refine Wsq [3,4,5,6,7,8,9] fun K3 hK3=>?_
 refine S0 tok [] [3,4,5,6,7,8,9,71] ?_
 refine Cd (fun C3=>?_) fun C3=>?_
 ·replace H:=ifT C3 H
  refine S0 tok [] [2] ?_
  obtain rfl:=oi H;exact Wr ⟨_,rfl,4,by simp[eN]⟩
 replace H:=ifF C3 H
 refine Wsk (Jn hK3 ?_)
 obtain⟨v10,hv10,H⟩:=bE H
 refine Sx tok [] [3,4,5,6,7,8,9,14] (by intro K k;simp -dsimp -implicitDefEqProofs [ix23 hv10];exact k) ?_
 refine gFrz Wre 4 [N0+10] [(N0+23,some ⟨26,2,[[.fsl (eL rI r2.1.Regs),.int .i64 r2.1.Pc]]⟩),(N0+37,some ⟨26,2,[[.fsl (eL rI r3.1.Regs),.int .i64 r3.1.Pc]]⟩),(N0+70,some ⟨36,5,[[.int .i64 v10.Op,.int .i64 v10.Dst,.int .i64 v10.A,.int .i64 v10.B,.int .i64 v10.N]]⟩)] [(3,.fsl (eL rQuad r1.1)),(4,.fptr [.fsl (eL rI r1.2.1.Regs),.int .i64 r1.2.1.Pc] 0),(5,.fsl (eL rBox r1.2.2)),(6,.ptr (N0+23) 0 0),(7,.fsl (eL rBox r2.2.1)),(8,.fsl (eL rI r2.2.2.1)),(9,.int .i64 r2.2.2.2),(14,.ptr (N0+70) 0 0)] (by simp) (cutD (by simp)) ?_
 obtain⟨l11,hl11,H⟩:=bE H
 have q0:∀σ i,bsA T 24 true i 0 [] σ=some (.esl,σ):=fun _ _=>rfl
 refine Sd tok tokM [0] [3,7,8] [0,1,2,4,5,3,6,7,8] [3,5,6,7,8,9,14,15] (by
  intro K k
  simp only[pickL,zH,zJ]
  simp -dsimp -implicitDefEqProofs [q0,appe24 hl11]
  exact k) ?_
 refine Wsq [3,5,6,7,8,9,14,15] fun K4 hK4=>?_
 refine S0 tok [] [3,5,6,7,8,9,14,15,16] ?_
 refine Wbl (Wth ?_)
 obtain⟨e1,hse1,H⟩:=bE H
 refine zU [3,5,6,7,8,9,14,15,16] (fun s a σ=>∃M1 o1 o2 o3:Nat,N0≤M1∧N0≤o1∧o1<M1∧N0≤o2∧o2<M1∧N0≤o3∧o3<M1∧¬o1=o2∧¬o1=o3∧¬o2=o3∧a=[(3,.fsl (eL rQuad r1.1)),(5,.fsl (eL rBox r1.2.2)),(6,.ptr o1 0 0),(7,.fsl (eL rBox r2.2.1)),(8,.fsl (eL rI r2.2.2.1)),(9,.int .i64 r2.2.2.2),(14,.ptr o2 0 0),(15,.ptr o3 0 0),(16,.int .i64 s.1)]∧σ=hp E0 [(o1,some ⟨26,2,[[.fsl (eL rI s.2.1.Regs),.int .i64 s.2.1.Pc]]⟩),(o2,some ⟨36,5,[[.int .i64 s.2.2.1.Op,.int .i64 s.2.2.1.Dst,.int .i64 s.2.2.1.A,.int .i64 s.2.2.1.B,.int .i64 s.2.2.1.N]]⟩),(o3,some ⟨26,2,[[.osl 3 1 (eL rI s.2.2.2.Regs),.int .i64 s.2.2.2.Pc]]⟩)] M1) (fun s x a σ=>x=.exit 0∧Rc G 149 N0 (fun a σ=>∃M2 o4 o5 o6:Nat,N0≤M2∧N0≤o4∧o4<M2∧N0≤o5∧o5<M2∧N0≤o6∧o6<M2∧¬o4=o5∧¬o4=o6∧¬o5=o6∧a=[(3,.fsl (eL rQuad r1.1)),(5,.fsl (eL rBox r1.2.2)),(6,.ptr o4 0 0),(7,.fsl (eL rBox r2.2.1)),(8,.fsl (eL rI r2.2.2.1)),(9,.int .i64 r2.2.2.2),(14,.ptr o5 0 0),(15,.ptr o6 0 0)]∧σ=hp E0 [(o4,some ⟨26,2,[[.fsl (eL rI s.1.Regs),.int .i64 s.1.Pc]]⟩),(o5,some ⟨36,5,[[.int .i64 s.2.1.Op,.int .i64 s.2.1.Dst,.int .i64 s.2.1.A,.int .i64 s.2.1.B,.int .i64 s.2.1.N]]⟩),(o6,some ⟨26,2,[[.osl 3 1 (eL rI s.2.2.Regs),.int .i64 s.2.2.Pc]]⟩)] M2) (AAct.keep a [3,5,6,7,8,9,14,15]) σ) hse1 ?_ ?_ ?_
 ·refine Rc.kp [3,5,6,7,8,9,14,15,16] [(3,.fsl (eL rQuad r1.1)),(5,.fsl (eL rBox r1.2.2)),(6,.ptr (N0+23) 0 0),(7,.fsl (eL rBox r2.2.1)),(8,.fsl (eL rI r2.2.2.1)),(9,.int .i64 r2.2.2.2),(14,.ptr (N0+70) 0 0),(15,.ptr (N0+79) 0 0),(16,.int .i64 0)] rfl ?_
  refine gP zL (N0+79) 0 0 ?_
  exact Rc.fin (zK (AHeap.Sub.trans (zK (zK (AHeap.Sub.refl _))) (zR rfl (by simp;try omega)))) ⟨N0+82,(N0+23),(N0+70),(N0+79),(by omega),(by omega),(by omega),(by omega),(by omega),(by omega),(by omega),(by omega),(by omega),(by omega),rfl,rfl⟩
 ·clear H hse1
  rintro⟨s12,s13,s14,s15⟩ fl a σ H ⟨M1,o1,o2,o3,fM1_0,fM1_1,fM1_2,fM1_3,fM1_4,fM1_5,fM1_6,fM1_7,fM1_8,fM1_9,rfl,rfl⟩ K5 O5 hK5 hO5
  unfold wA at H;dsimp only at H
  refine Wsq [3,5,6,7,8,9,14,15,16] fun K6 hK6=>?_
  refine Sx tok [] [3,5,6,7,8,9,14,15,16,85] (by
   intro K k
   have e0:=nQ o1 o2
   have e1:=nQ o1 o3
   have e2:=nQ o2 o3
   simp -dsimp -implicitDefEqProofs [e0,e1,e2]
   exact k) ?_
  refine Cd (fun C4=>?_) fun C4=>?_
  ·replace H:=ifT C4 H
   refine Wsk (Jn hK6 ?_)
   refine Wsq [3,5,6,7,8,9,14,15,16] fun K7 hK7=>?_
   refine Wbl (Wth ?_)
   obtain⟨r19,hr19,H⟩:=bE H
   obtain⟨r20,hr20,H⟩:=bE H
   refine Sx tok [] [3,5,6,7,8,9,14,15,16,92] (by
    intro K k
    have e0:=nQ o1 o2
    have e1:=nQ o1 o3
    have e2:=nQ o2 o3
    repeat first|simp -dsimp -implicitDefEqProofs [e0,e1,e2]|refine(c38 hr19).app ?_|refine(c36 hr20).app ?_
    exact k) ?_
   refine Cd (fun C5=>?_) fun C5=>?_
   ·replace H:=ifT C5 H
    refine gU Wre o3 0 0 ?_
    obtain⟨v21,hv21,H⟩:=bE H
    obtain⟨l22,hl22,H⟩:=bE H
    refine Rt tok [] [3,5,6,7,8,9,14,15,16] (by
     intro K k
     have e0:=nQ o1 o2
     have e1:=nQ o1 o3
     have e2:=nQ o1 (M1+7)
     have e3:=nQ o2 o3
     have e4:=nQ o2 (M1+7)
     have e5:=nQ o3 (M1+7)
     simp -dsimp -implicitDefEqProofs [e0,e1,e2,e3,e4,e5,ixo24 hv21,(zE hv21).2.2,(setx_iff.1 hl22).2.symm]
     exact k) fun a ha=>?_
    (try rw[← zD hl22] at ha);(try rw[← zD hl22])
    refine hK7 _ _ ?_;rw[ha]
    refine Rc.mk ?_
    refine Rt tok [] [3,5,6,7,8,9,14,15,16] (by
     intro K k
     have e0:=nQ o1 o2
     have e1:=nQ o1 o3
     have e2:=nQ o1 (M1+7)
     have e3:=nQ o2 o3
     have e4:=nQ o2 (M1+7)
     have e5:=nQ o3 (M1+7)
     simp -dsimp -implicitDefEqProofs [e0,e1,e2,e3,e4,e5]
     exact k) fun a ha=>?_
    obtain rfl:=oi H
    refine hK5 _ _ _ rfl ?_;rw[ha]
    refine gP zL o3 0 0 ?_
    exact Rf ⟨M1+16,o1,o2,o3,(by omega),(by omega),(by omega),(by omega),(by omega),(by omega),(by omega),(by omega),(by omega),(by omega),rfl,rfl⟩
   replace H:=ifF C5 H
   refine Wsk (Jn hK7 ?_)
   refine Rt tok [] [3,5,6,7,8,9,14,15,16] (by
    intro K k
    have e0:=nQ o1 o2
    have e1:=nQ o1 o3
    have e2:=nQ o2 o3
    simp -dsimp -implicitDefEqProofs [e0,e1,e2]
    exact k) fun a ha=>?_
   obtain rfl:=oi H
   refine hK5 _ _ _ rfl ?_;rw[ha]
   exact Rf ⟨M1+10,o1,o2,o3,(by omega),(by omega),(by omega),(by omega),(by omega),(by omega),(by omega),(by omega),(by omega),(by omega),rfl,rfl⟩
  obtain rfl:=oi (ifF C4 H)
  refine zM (hO5 _ _ _ _ rfl ⟨rfl,?_⟩)
  refine Rc.rw (l:=[3,5,6,7,8,9,14,15]) (X:=[(3,.fsl (eL rQuad r1.1)),(5,.fsl (eL rBox r1.2.2)),(6,.ptr o1 0 0),(7,.fsl (eL rBox r2.2.1)),(8,.fsl (eL rI r2.2.2.1)),(9,.int .i64 r2.2.2.2),(14,.ptr o2 0 0),(15,.ptr o3 0 0)]) rfl ?_
  exact Rf ⟨M1+2,o1,o2,o3,(by omega),(by omega),(by omega),(by omega),(by omega),(by omega),(by omega),(by omega),(by omega),(by omega),rfl,rfl⟩
 intro x a σ hx
 obtain⟨y16,y17,y18⟩:=e1
 obtain⟨rfl,b,τ,hr,M2,o4,o5,o6,fM2_0,fM2_1,fM2_2,fM2_3,fM2_4,fM2_5,fM2_6,fM2_7,fM2_8,fM2_9,rfl,rfl⟩:=hx
 (try dsimp only at H)
 show K4 _ _
 refine hK4 _ _ (zL hr ?_)
 refine Rc.mk ?_
 refine gU Wre o6 0 0 ?_
 obtain⟨r23,hr23,H⟩:=bE H
 refine kX tok [] [6,7,8,9,14,17,18,19,20] (fun a σ=>∃M3 o7 o8 o9:Nat,M2+15≤M3∧M2+15≤o7∧o7<M3∧M2+15≤o8∧o8<M3∧M2+15≤o9∧o9<M3∧¬o7=o8∧¬o7=o9∧¬o8=o9∧a=[(6,.ptr o4 0 0),(7,.fsl (eL rBox r2.2.1)),(8,.fsl (eL rI r2.2.2.1)),(9,.int .i64 r2.2.2.2),(14,.ptr o5 0 0),(17,.ptr (M2+10) 0 0),(18,.sl o8 0 r23.2.1.length),(19,.sl o9 0 r23.2.2.1.length),(20,.int .i64 r23.2.2.2)]∧σ=hp E0 [(o4,some ⟨26,2,[[.fsl (eL rI y16.Regs),.int .i64 y16.Pc]]⟩),(o5,some ⟨36,5,[[.int .i64 y17.Op,.int .i64 y17.Dst,.int .i64 y17.A,.int .i64 y17.B,.int .i64 y17.N]]⟩),(o6,some ⟨26,2,[[.sl M2 0 y18.Regs.length,.int .i64 y18.Pc]]⟩),(M2,some ⟨3,1,eL rI y18.Regs⟩),(o7,some ⟨3,1,eL rI r23.1.Regs⟩),(o8,some ⟨40,2,eL zW r23.2.1⟩),(o9,some ⟨3,1,eL rI r23.2.2.1⟩),(M2+10,some ⟨26,2,[[.sl o7 0 r23.1.Regs.length,.int .i64 r23.1.Pc]]⟩)] M3) (fun K hK=>?_) ?_
 ·skip
  have e0:=nQ o4 o5
  have e1:=nQ o4 o6
  have e2:=nQ o4 M2
  have e3:=nQ o4 (M2+10)
  have e4:=nQ o5 o6
  have e5:=nQ o5 M2
  have e6:=nQ o5 (M2+10)
  have e7:=nQ o6 M2
  have e8:=nQ o6 (M2+10)
  simp -dsimp -implicitDefEqProofs [e0,e1,e2,e3,e4,e5,e6,e7,e8]
  refine(c24_o4_b (H:=hr23) (by simp[e0,e1,e2,e3,e4,e5,e6,e7,e8])).mono ?_;rintro _ _ ⟨M3,o7,o8,o9,fM3_0,fM3_1,fM3_2,fM3_3,fM3_4,fM3_5,fM3_6,fM3_7,fM3_8,fM3_9,rfl,rfl⟩;simp only[hpN] at fM3_0 fM3_1 fM3_2 fM3_3 fM3_4 fM3_5 fM3_6 fM3_7 fM3_8 fM3_9
  have eM3_0:=nQ o7 o4
  have eM3_1:=nQ o7 o5
  have eM3_2:=nQ o7 o6
  have eM3_3:=nQ o7 M2
  have eM3_4:=nQ o7 (M2+10)
  have eM3_5:=nQ o7 o8
  have eM3_6:=nQ o7 o9
  have eM3_7:=nQ o8 o4
  have eM3_8:=nQ o8 o5
  have eM3_9:=nQ o8 o6
  have eM3_10:=nQ o8 M2
  have eM3_11:=nQ o8 (M2+10)
  have eM3_12:=nQ o8 o9
  have eM3_13:=nQ o9 o4
  have eM3_14:=nQ o9 o5
  have eM3_15:=nQ o9 o6
  have eM3_16:=nQ o9 M2
  have eM3_17:=nQ o9 (M2+10)
  try simp -dsimp -implicitDefEqProofs [e0,e1,e2,e3,e4,e5,e6,e7,e8,eM3_0,eM3_1,eM3_2,eM3_3,eM3_4,eM3_5,eM3_6,eM3_7,eM3_8,eM3_9,eM3_10,eM3_11,eM3_12,eM3_13,eM3_14,eM3_15,eM3_16,eM3_17,hoS,hoN]
  exact hK _ _ ⟨M3,o7,o8,o9,(by omega),(by omega),(by omega),(by omega),(by omega),(by omega),(by omega),(by omega),(by omega),(by omega),rfl,rfl⟩
 rintro a σ ⟨M3,o7,o8,o9,fM3_0,fM3_1,fM3_2,fM3_3,fM3_4,fM3_5,fM3_6,fM3_7,fM3_8,fM3_9,rfl,rfl⟩
 refine gDrop Wre [(o4,some ⟨26,2,[[.fsl (eL rI y16.Regs),.int .i64 y16.Pc]]⟩),(o5,some ⟨36,5,[[.int .i64 y17.Op,.int .i64 y17.Dst,.int .i64 y17.A,.int .i64 y17.B,.int .i64 y17.N]]⟩),(o7,some ⟨3,1,eL rI r23.1.Regs⟩),(o8,some ⟨40,2,eL zW r23.2.1⟩),(o9,some ⟨3,1,eL rI r23.2.2.1⟩),(M2+10,some ⟨26,2,[[.sl o7 0 r23.1.Regs.length,.int .i64 r23.1.Pc]]⟩)] (zK (zK (AHeap.Sub.trans (AHeap.Sub.trans (zK (zK (zK (zK (AHeap.Sub.refl _))))) (zR rfl (by simp;try omega))) (zR rfl (by simp;try omega))))) ?_
 refine gP Wre (M2+10) 0 0 ?_
 obtain⟨r24,hr24,H⟩:=bE H
 refine Sx tok [] [6,7,8,9,17,18,19,20,21] (by
  intro K k
  have e0:=nQ o4 o5
  have e1:=nQ o4 o8
  have e2:=nQ o4 o9
  have e3:=nQ o4 (M2+10)
  have e4:=nQ o5 o8
  have e5:=nQ o5 o9
  have e6:=nQ o5 (M2+10)
  have e7:=nQ o8 o9
  have e8:=nQ o8 (M2+10)
  have e9:=nQ o9 (M2+10)
  repeat first|simp -dsimp -implicitDefEqProofs [e0,e1,e2,e3,e4,e5,e6,e7,e8,e9]|refine(c39 hr24).app ?_
  exact k) ?_
 refine gU Wre (M2+10) 0 0 ?_
 obtain⟨g32,hg32,H⟩:=bE H
 obtain⟨g34,hg34,H⟩:=bE H
 obtain⟨g35,hg35,H⟩:=bE H
 obtain⟨g40,hg40,H⟩:=bE H
 refine AWP_sd tok tokM [] [6,11,15,17,29,31,32,34,36,37] [0,1,2,3,4,5,6,7,8,9,10,11,12,13,14,16,15,17,18,19,20,21,22,23,24,25,26,27,28,30,33,35,29,31,32,34,36,37,38,39,40,41] [2] (fun a σ=>a=[(2,.bool g40)]∧σ=hp E0 [(o4,some ⟨26,2,[[.fsl (eL rI y16.Regs),.int .i64 y16.Pc]]⟩),(o5,some ⟨36,5,[[.int .i64 y17.Op,.int .i64 y17.Dst,.int .i64 y17.A,.int .i64 y17.B,.int .i64 y17.N]]⟩),(o8,some ⟨40,2,eL zW r23.2.1⟩),(o9,some ⟨3,1,eL rI r23.2.2.1⟩),(M2+10,some ⟨26,2,[[.sl (M3+3) 0 r23.1.Regs.length,.int .i64 r23.1.Pc]]⟩),(M3+3,some ⟨3,1,eL rI r23.1.Regs⟩)] (M3+46)) (by decide) (fun K hK=>?_) ?_
 ·simp only[pickL,zH,zJ]
  have e0:=nQ o4 o5
  have e1:=nQ o4 o8
  have e2:=nQ o4 o9
  have e3:=nQ o4 (M2+10)
  have e4:=nQ o4 (M3+3)
  have e5:=nQ o5 o8
  have e6:=nQ o5 o9
  have e7:=nQ o5 (M2+10)
  have e8:=nQ o5 (M3+3)
  have e9:=nQ o8 o9
  have e10:=nQ o8 (M2+10)
  have e11:=nQ o8 (M3+3)
  have e12:=nQ o9 (M2+10)
  have e13:=nQ o9 (M3+3)
  have e14:=nQ (M2+10) (M3+3)
  have e15:=nQ (M2+7) M3
  simp -dsimp -implicitDefEqProofs [e0,e1,e2,e3,e4,e5,e6,e7,e8,e9,e10,e11,e12,e13,e14,e15]
  cases hbg32:ieq r23.2.2.2 r2.2.2.2
  ·obtain rfl:=oi (ifF hbg32 hg32)
   obtain rfl:=oi (ifF rfl hg34)
   obtain rfl:=oi (ifF rfl hg35)
   obtain rfl:=oi (ifF rfl hg40)
   try simp -dsimp -implicitDefEqProofs [e0,e1,e2,e3,e4,e5,e6,e7,e8,e9,e10,e11,e12,e13,e14,e15,hbg32]
   exact hK _ _ ⟨rfl,rfl⟩
  replace hg32:=ifT hbg32 hg32
  obtain⟨r31,hr31,hg32⟩:=bE hg32
  obtain rfl:=oi hg32
  try simp -dsimp -implicitDefEqProofs [e0,e1,e2,e3,e4,e5,e6,e7,e8,e9,e10,e11,e12,e13,e14,e15,hbg32]
  refine(borrow 8 (c27 hr31) (by simp[e0,e1,e2,e3,e4,e5,e6,e7,e8,e9,e10,e11,e12,e13,e14,e15,hbg32]) rfl).mono ?_;rintro _ _ ⟨rfl,rfl⟩;try simp -dsimp -implicitDefEqProofs [e0,e1,e2,e3,e4,e5,e6,e7,e8,e9,e10,e11,e12,e13,e14,e15,hbg32]
  cases hbg34:r31
  ·obtain rfl:=oi (ifF hbg34 hg34)
   obtain rfl:=oi (ifF rfl hg35)
   obtain rfl:=oi (ifF rfl hg40)
   try simp -dsimp -implicitDefEqProofs [e0,e1,e2,e3,e4,e5,e6,e7,e8,e9,e10,e11,e12,e13,e14,e15,hbg32,hbg34]
   exact hK _ _ ⟨rfl,rfl⟩
  replace hg34:=ifT hbg34 hg34
  obtain⟨r33,hr33,hg34⟩:=bE hg34
  obtain rfl:=oi hg34
  try simp -dsimp -implicitDefEqProofs [e0,e1,e2,e3,e4,e5,e6,e7,e8,e9,e10,e11,e12,e13,e14,e15,hbg32,hbg34]
  refine(borrow 8 (c28 hr33) (by simp[e0,e1,e2,e3,e4,e5,e6,e7,e8,e9,e10,e11,e12,e13,e14,e15,hbg32,hbg34]) rfl).mono ?_;rintro _ _ ⟨rfl,rfl⟩;try simp -dsimp -implicitDefEqProofs [e0,e1,e2,e3,e4,e5,e6,e7,e8,e9,e10,e11,e12,e13,e14,e15,hbg32,hbg34]
  cases hbg35:r33
  ·obtain rfl:=oi (ifF hbg35 hg35)
   obtain rfl:=oi (ifF rfl hg40)
   try simp -dsimp -implicitDefEqProofs [e0,e1,e2,e3,e4,e5,e6,e7,e8,e9,e10,e11,e12,e13,e14,e15,hbg32,hbg34,hbg35]
   exact hK _ _ ⟨rfl,rfl⟩
  obtain rfl:=oi (ifT hbg35 hg35)
  try simp -dsimp -implicitDefEqProofs [e0,e1,e2,e3,e4,e5,e6,e7,e8,e9,e10,e11,e12,e13,e14,e15,hbg32,hbg34,hbg35]
  cases hbg40:(ieq r23.1.Pc y16.Pc)
  ·obtain rfl:=oi (ifF hbg40 hg40)
   try simp -dsimp -implicitDefEqProofs [e0,e1,e2,e3,e4,e5,e6,e7,e8,e9,e10,e11,e12,e13,e14,e15,hbg32,hbg34,hbg35,hbg40]
   exact hK _ _ ⟨rfl,rfl⟩
  replace hg40:=ifT hbg40 hg40
  obtain⟨g36,hg36,hg40⟩:=bE hg40
  obtain⟨g39,hg39,hg40⟩:=bE hg40
  obtain rfl:=oi hg40
  try simp -dsimp -implicitDefEqProofs [e0,e1,e2,e3,e4,e5,e6,e7,e8,e9,e10,e11,e12,e13,e14,e15,hbg32,hbg34,hbg35,hbg40]
  cases hbg36:ilt r24 0
  ·obtain rfl:=oi (ifF hbg36 hg36)
   try simp -dsimp -implicitDefEqProofs [e0,e1,e2,e3,e4,e5,e6,e7,e8,e9,e10,e11,e12,e13,e14,e15,hbg32,hbg34,hbg35,hbg40,hbg36]
   cases hbg39:(ine r2.2.2.2 1)
   ·replace hg39:=ifF hbg39 hg39
    obtain⟨v37,hv37,hg39⟩:=bE hg39
    obtain⟨v38,hv38,hg39⟩:=bE hg39
    obtain rfl:=oi hg39
    try simp -dsimp -implicitDefEqProofs [e0,e1,e2,e3,e4,e5,e6,e7,e8,e9,e10,e11,e12,e13,e14,e15,hbg32,hbg34,hbg35,hbg40,hbg36,hbg39,ixo24 hv37,(zE hv37).2.2,ix24 hv38]
    exact hK _ _ ⟨rfl,rfl⟩
   obtain rfl:=oi (ifT hbg39 hg39)
   try simp -dsimp -implicitDefEqProofs [e0,e1,e2,e3,e4,e5,e6,e7,e8,e9,e10,e11,e12,e13,e14,e15,hbg32,hbg34,hbg35,hbg40,hbg36,hbg39]
   exact hK _ _ ⟨rfl,rfl⟩
  obtain rfl:=oi (ifT hbg36 hg36)
  obtain rfl:=oi (ifT rfl hg39)
  try simp -dsimp -implicitDefEqProofs [e0,e1,e2,e3,e4,e5,e6,e7,e8,e9,e10,e11,e12,e13,e14,e15,hbg32,hbg34,hbg35,hbg40,hbg36]
  exact hK _ _ ⟨rfl,rfl⟩
 rintro a σ ⟨rfl,rfl⟩
 obtain rfl:=oi H
 refine Kp [2] ?_
 have z0:=nQ o4 o5
 have z1:=nQ o4 o8
 have z2:=nQ o4 o9
 have z3:=nQ o4 (M2+10)
 have z4:=nQ o4 (M3+3)
 have z5:=nQ o5 o8
 have z6:=nQ o5 o9
 have z7:=nQ o5 (M2+10)
 have z8:=nQ o5 (M3+3)
 have z9:=nQ o8 o9
 have z10:=nQ o8 (M2+10)
 have z11:=nQ o8 (M3+3)
 have z12:=nQ o9 (M2+10)
 have z13:=nQ o9 (M3+3)
 have z14:=nQ (M2+10) (M3+3)
 have z15:=nQ (M2+7) M3
 refine Wr ?_
 exact⟨[.bool g40],by simp[z0,z1,z2,z3,z4,z5,z6,z7,z8,z9,z10,z11,z12,z13,z14,z15],4,by simp[eN,z0,z1,z2,z3,z4,z5,z6,z7,z8,z9,z10,z11,z12,z13,z14,z15]⟩
end Go.Proofs.YtdnkfkfjaaedpaaGreat
