/- The contracts of functions of the program (CT1): each computes what its mirror computes. No conditions. -/
import Derived.Test.YtolmjhgondilhaaGreatNCT0
set_option linter.unusedSimpArgs false
set_option linter.unusedVariables false
set_option maxRecDepth 20000
set_option maxHeartbeats 4000000
namespace Go.Proofs.YtolmjhgondilhaaGreat
open Go Go.Abs Go.RowKit Tryz

theorem c137 {p0:Bool}{r:Int}(H:hY p0=some r):APure Tryz.prog G 137 [.bool p0] (.int .i64 r):=by
 refine qK func137 ntmps137 results137 fun N0=>?_
 unfold hY at H
 refine qA [0] ?_
 refine Wsq [] fun K1 hK1=>?_
 refine qA [3] ?_
 refine Ci H ?_ ?_<;>intro H
 .refine qA [2] ?_
  cases oj H;exact W4
 refine Js hK1 ?_
 refine qA [2] ?_
 cases oj H;exact W4

theorem c138 {p0:Int}{p1:Int}{p2:Bool}{r:Int}(H:qY p0 p1 p2=some r):APure Tryz.prog G 138 [.int .i64 p0,.int .i64 p1,.bool p2] (.int .i64 r):=by
 refine qK func138 ntmps138 results138 fun N0=>?_
 unfold qY at H
 refine qA [0,1,2] ?_
 refine Wsq [0,1] fun K1 hK1=>?_
 refine qA [0,1,7] ?_
 refine Ci H ?_ ?_<;>intro H
 .obtain⟨v1,hv1,H⟩:=bE H
  refine qB [6] hv1 ?_
  cases oj H;exact W4
 refine Js hK1 ?_
 obtain⟨v2,hv2,H⟩:=bE H
 obtain⟨r3,hr3,H⟩:=bE H
 refine qE [6] hv2 (c139 hr3) ?_
 cases oj H;exact W4

theorem c140 {p0:Int}{p1:Int}{r:Int}(H:pA p0 p1=some r):APure Tryz.prog G 140 [.int .i64 p0,.int .i64 p1] (.int .i64 r):=by
 refine qK func140 ntmps140 results140 fun N0=>?_
 unfold pA at H
 refine qA [0,1] ?_
 refine Wsq [0,1] fun K1 hK1=>?_
 refine qA [0,1,6] ?_
 refine Ci H ?_ ?_<;>intro H
 .refine qA [4] ?_
  cases oj H;exact W4
 refine Js hK1 ?_
 obtain⟨v1,hv1,H⟩:=bE H
 obtain⟨r2,hr2,H⟩:=bE H
 refine qE [4] hv1 (c139 hr2) ?_
 cases oj H;exact W4

theorem c141 {p0:Int}{p1:Int}{r:Int}(H:qZ p0 p1=some r):APure Tryz.prog G 141 [.int .i64 p0,.int .i64 p1] (.int .i64 r):=by
 refine qK func141 ntmps141 results141 fun N0=>?_
 unfold qZ at H
 refine qA [0,1] ?_
 refine Wsq [0,1] fun K1 hK1=>?_
 refine qA [0,1,6] ?_
 refine Ci H ?_ ?_<;>intro H
 .refine qA [4] ?_
  cases oj H;exact W4
 refine Js hK1 ?_
 obtain⟨v1,hv1,H⟩:=bE H
 refine qB [4] hv1 ?_
 cases oj H;exact W4

theorem c123 {p0:Int}{p1:Int}{p2:Int}{r:Int×Bool}(H:sY p0 p1 p2=some r):APure Tryz.prog G 123 [.int .i64 p0,.int .i64 p1,.int .i64 p2] (.tup [.int .i64 r.1,.bool r.2]):=by
 refine qK func123 ntmps123 results123 fun N0=>?_
 unfold sY at H
 refine qA [0,1,2] ?_
 refine Wsq [0,1,2] fun K1 hK1=>?_
 obtain⟨r1,hr1,H⟩:=bE H
 obtain⟨g3,hg3,H⟩:=bE H
 obtain⟨g5,hg5,H⟩:=bE H
 refine qF tok [0,1,2,20] ([(0,.int .i64 p0),(1,.int .i64 p1),(2,.int .i64 p2),(20,.bool g5)]) (hp E0 [] (N0+15)) (by
  intro K k
  refine m0 ?_
  refine(c136 hr1).app (m0 ?_)
  cases hbg3:bnot r1
  .replace hg3:=ifF hbg3 hg3
   obtain⟨r2,hr2,hg3⟩:=bE hg3
   obtain rfl:=oi hg3
   refine m1 hbg3 ?_
   refine(c106 hr2).app (m1 hbg3 ?_)
   cases hbg5:(bnot r2)
   .replace hg5:=ifF hbg5 hg5
    obtain⟨r4,hr4,hg5⟩:=bE hg5
    cases oj hg5
    refine m2 hbg3 hbg5 ?_
    refine(c106 hr4).app (m2 hbg3 hbg5 ?_)
    exact k
   cases oj (ifT hbg5 hg5)
   exact m2 hbg3 hbg5 k
  cases oj (ifT hbg3 hg3)
  cases oj (ifT rfl hg5)
  refine m1 hbg3 ?_
  exact k) ?_
 refine Ci H ?_ ?_<;>intro H
 .refine qA [6,7] ?_
  cases oj H;exact W4
 refine Js hK1 ?_
 refine Wsq [1,2] fun K2 hK2=>?_
 refine qA [1,2,21] ?_
 refine Wb ?_
 refine qA [1,2,21,22] ?_
 refine Ci H ?_ ?_<;>intro H
 .refine qA [6,7] ?_
  cases oj H;exact W4
 refine qA [1,2,21,27] ?_
 refine Ci H ?_ ?_<;>intro H
 .refine qA [6,7] ?_
  cases oj H;exact W4
 refine qA [1,2,21,32] ?_
 refine Ci H ?_ ?_<;>intro H
 .refine qA [6,7] ?_
  cases oj H;exact W4
 refine qA [1,2,21,37] ?_
 refine Ci H ?_ ?_<;>intro H
 .obtain⟨r6,hr6,H⟩:=bE H
  refine qD [6,7] (c137 hr6) ?_
  cases oj H;exact W4
 refine qA [1,2,21,43] ?_
 refine Ci H ?_ ?_<;>intro H
 .obtain⟨r7,hr7,H⟩:=bE H
  refine qD [6,7] (c137 hr7) ?_
  cases oj H;exact W4
 refine qA [1,2,21,49] ?_
 refine Ci H ?_ ?_<;>intro H
 .obtain⟨r8,hr8,H⟩:=bE H
  refine qD [6,7] (c138 hr8) ?_
  cases oj H;exact W4
 refine qA [1,2,21,54] ?_
 refine Ci H ?_ ?_<;>intro H
 .obtain⟨r9,hr9,H⟩:=bE H
  refine qD [6,7] (c138 hr9) ?_
  cases oj H;exact W4
 refine qA [1,2,21,59] ?_
 refine Ci H ?_ ?_<;>intro H
 .obtain⟨r10,hr10,H⟩:=bE H
  refine qD [6,7] (c139 hr10) ?_
  cases oj H;exact W4
 refine qA [1,2,21,65] ?_
 refine Ci H ?_ ?_<;>intro H
 .obtain⟨r11,hr11,H⟩:=bE H
  refine qD [6,7] (c139 hr11) ?_
  cases oj H;exact W4
 refine qA [1,2,21,71] ?_
 refine Ci H ?_ ?_<;>intro H
 .obtain⟨r12,hr12,H⟩:=bE H
  refine qD [6,7] (c139 hr12) ?_
  cases oj H;exact W4
 refine qA [1,2,77] ?_
 refine Ci H ?_ ?_<;>intro H
 .obtain⟨r13,hr13,H⟩:=bE H
  refine qD [6,7] (c140 hr13) ?_
  cases oj H;exact W4
 refine Js hK2 ?_
 obtain⟨r14,hr14,H⟩:=bE H
 refine qD [6,7] (c141 hr14) ?_
 cases oj H;exact W4

theorem c183 {p0:gQuad}{p1:gFact}{p2:gFact}{r:gFact}(H:xK p0 p1 p2=some r):APure Tryz.prog G 183 [.agg [.int .i64 p0.Op,.int .i64 p0.Dst,.int .i64 p0.A,.int .i64 p0.B,.int .i64 p0.N],.agg [.int .i64 p1.Kind,.int .i64 p1.N],.agg [.int .i64 p2.Kind,.int .i64 p2.N]] (.agg [.int .i64 r.Kind,.int .i64 r.N]):=by
 refine qK func183 ntmps183 results183 fun N0=>?_
 unfold xK at H
 refine S0 tok [0,1,2] [3,4,5,6] ?_
 refine Wsq [3,4,5,6] fun K1 hK1=>?_
 obtain⟨g1,hg1,H⟩:=bE H
 refine qF tok [3,4,5,6,16] ([(3,.fptr [.int .i64 p0.Op,.int .i64 p0.Dst,.int .i64 p0.A,.int .i64 p0.B,.int .i64 p0.N] 0),(4,.fptr [.int .i64 p1.Kind,.int .i64 p1.N] 0),(5,.fptr [.int .i64 p2.Kind,.int .i64 p2.N] 0),(6,.ptr (N0+3) 0 0),(16,.bool g1)]) (hp E0 [(N0+3,some ⟨180,2,[[.int .i64 0,.int .i64 0]]⟩)] (N0+12)) (by
  intro K k
  refine m0 ?_
  cases hbg1:ine p1.Kind 1
  .cases oj (ifF hbg1 hg1)
   exact m1 hbg1 k
  cases oj (ifT hbg1 hg1)
  refine m1 hbg1 ?_
  exact k) ?_
 refine Ci H ?_ ?_<;>intro H
 .refine qA [6] ?_
  cases oj H
  refine Kp [6] ?_
  exact V0
 refine Js hK1 ?_
 obtain⟨r2,hr2,H⟩:=bE H
 refine qD [6,7] (c123 hr2) ?_
 refine qA [6] ?_
 obtain rfl:=oi H
 refine Kp [6] ?_
 exact V0

theorem c189 {p0:gFact}{p1:gFact}{r:gFact}(H:oT p0 p1=some r):APure Tryz.prog G 189 [.agg [.int .i64 p0.Kind,.int .i64 p0.N],.agg [.int .i64 p1.Kind,.int .i64 p1.N]] (.agg [.int .i64 r.Kind,.int .i64 r.N]):=by
 refine qK func189 ntmps189 results189 fun N0=>?_
 unfold oT at H
 refine S0 tok [0,1] [2,3,4] ?_
 refine Wsq [2,3,4] fun K1 hK1=>?_
 refine qA [2,3,4,7] ?_
 refine Ci H ?_ ?_<;>intro H
 .refine qA [4] ?_
  cases oj H
  refine Kp [4] ?_
  exact V0
 refine Js hK1 ?_
 refine Wsq [4] fun K2 hK2=>?_
 obtain⟨g1,hg1,H⟩:=bE H
 refine qF tok [2,4,16] ([(2,.fptr [.int .i64 p0.Kind,.int .i64 p0.N] 0),(4,.ptr (N0+2) 0 0),(16,.bool g1)]) (hp E0 [(N0+2,some ⟨180,2,[[.int .i64 0,.int .i64 0]]⟩)] (N0+14)) (by
  intro K k
  refine m0 ?_
  cases hbg1:ieq p1.Kind 0
  .cases oj (ifF hbg1 hg1)
   exact m1 hbg1 k
  cases oj (ifT hbg1 hg1)
  refine m1 hbg1 ?_
  exact k) ?_
 refine Ci H ?_ ?_<;>intro H
 .refine qA [4] ?_
  cases oj H
  refine Kp [4] ?_
  exact V0
 refine Js hK2 ?_
 refine qA [4] ?_
 cases oj H
 refine Kp [4] ?_
 exact V0

theorem c182 {p0:(List (List gFact))}{p1:Int}{p2:List gFact}{r:Bool×(List (List gFact))}(H:qW p0 p1 p2=some r){J:AHeap}{w0:Nat}(q0:J.objs w0=some ⟨166,1,eL zO p0⟩):ACalls Tryz.prog G 182 [.sl w0 0 p0.length,.int .i64 p1,.fsl (eL rFact p2)] J (fun v J'=>∃M:Nat,J.next<=M/\r.2.length=p0.length/\v=.bool r.1/\J'=hp J.objs [(w0,some ⟨166,1,eL zO r.2⟩)] M):=by
 refine xG (L:=[(w0,some ⟨166,1,eL zO p0⟩)]) (Q1:=fun v J'=>∃M:Nat,J.next<=M/\r.2.length=p0.length/\v=.bool r.1/\J'=hp E0 [(w0,some ⟨166,1,eL zO r.2⟩)] M) (by simp[q0]) (fun hlt=>?_) ?_ ⟨_,func182,rfl,rfl⟩
 rotate_left
 .rintro v J1 ⟨M,h0,h1,rfl,rfl⟩
  exact⟨_,M,rfl,by simp,by simp;try omega,M,h0,h1,rfl,rfl⟩
 generalize J.next=N0 at hlt ⊢
 have lw0:w0<N0:=hlt _ (.head _) rfl
 refine fnK tok func182 ntmps182 results182 ?_
 simp only[argsA,Nat.reduceAdd,hpN]
 unfold qW at H
 refine qA [0,1,2] ?_
 refine qA [0,1,2,7] ?_
 refine Wsq [7] fun K1 hK1=>?_
 refine qA [0,1,2,7,8] ?_
 refine Wb ?_
 obtain⟨e1,hse1,H⟩:=bE H
 refine zR [0,1,2,7,8] (fun s a J=>∃M1:Nat,N0<=M1/\s.2.2.length=p0.length/\a=[(0,.sl w0 0 s.2.2.length),(1,.int .i64 p1),(2,.fsl (eL rFact p2)),(7,.bool s.1),(8,.int .i64 s.2.1)]/\J=hp E0 [(w0,some ⟨166,1,eL zO s.2.2⟩)] M1) (fun s x a J=>x=.exit 0/\Rc G 43 N0 (fun a J=>∃M2:Nat,N0<=M2/\s.2.length=p0.length/\a=[(7,.bool s.1)]/\J=hp E0 [(w0,some ⟨166,1,eL zO s.2⟩)] M2) (AAct.keep a [7]) J) hse1 ?_ ?_ ?_
 .refine kp [0,1,2,7,8] ?_
  exact Rf ⟨N0+3,(by omega),(by first|rfl|exact rfl|omega),rfl,rfl⟩
 .clear H hse1
  rintro⟨s1,s2,s3⟩ fl a J H ⟨M1,fM1_0,fM1_1,rfl,rfl⟩ K2 O2 hK2 hO2
  unfold nK at H;dsimp only at H
  refine Wsq [0,1,2,7,8] fun K3 hK3=>?_
  refine qA [0,1,2,7,8,11] ?_
  refine Ci H ?_ ?_<;>intro H
  .refine Js hK3 ?_
   refine Wsq [0,1,2,7,8] fun K4 hK4=>?_
   refine Wb ?_
   obtain⟨v6,hv6,H⟩:=bE H
   refine gU Wre w0 p1.toNat 0 ?_ (hr:=by exact sF zO hv6)
   obtain⟨v7,hv7,H⟩:=bE H
   obtain⟨v8,hv8,H⟩:=bE H
   obtain⟨r9,hr9,H⟩:=bE H
   refine Sd tok tokM [] [2,3,5,6,12,13] [0,1,4,7,8,9,10,2,3,5,6,11,12,13] [0,1,2,7,8,9] (by
    intro K k
    have e0:=nQ w0 (M1+2)
    have e1:=nQ w0 (M1+15)
    simp only[pickL,zJ,zL]
    repeat first|simp -dsimp -implicitDefEqProofs [e0,e1,(gset hv6 _),ix166 hv7,mQ hv6,(zG hv6).2.2,gK hv8,(zG hv8).2.2]|refine Pc.mk (c189 hr9) ?_
    exact k) ?_
   refine Sd tok tokM [] [0,3,4,6,7] [1,2,5,0,3,4,6,7,8] [0,1,2,7,8,9,34] (by
    intro K k
    have e0:=nQ w0 (M1+2)
    have e1:=nQ w0 (M1+15)
    simp only[pickL,zJ,zL]
    refine m1 (j e0 (j e1 (j (gSt hv6) (j (mQ hv6) (j ((zG hv6).2.2) (j (gK hv8) ((zG hv8).2.2))))))) ?_
    exact k) ?_
   refine Ci H ?_ ?_<;>intro H
   .obtain⟨l10,hl10,H⟩:=bE H
    refine Sd tok tokM [] [2,3,5,6,7] [0,1,4,2,3,5,6,7] [0,1,2,8] (by
     intro K k
     have e0:=nQ w0 (M1+2)
     have e1:=nQ w0 (M1+15)
     simp only[pickL,zJ,zL]
     refine m1 (j e0 (j e1 (j (gSt hv6) (j (mQ hv6) (j ((zG hv6).2.2) (j (gK hv8) (j ((zG hv8).2.2) ((setx_iff.1 hl10).2.symm)))))))) ?_
     exact k) ?_
    try rw[<- zE hl10]
    have e0:=nQ w0 (M1+2)
    have e1:=nQ w0 (M1+15)
    refine qH (j e0 (j e1 (gSt hv6))) hK4 ?_
    have e0:=nQ w0 (M1+2)
    have e1:=nQ w0 (M1+15)
    refine Rt tok [] [0,1,2,7,8] (by intro K k;simp -dsimp -implicitDefEqProofs [e0,e1,(gset hv6 _)];exact k) fun a ha=>?_
    obtain⟨l11,hl11,H⟩:=bE H
    obtain rfl:=oi H
    refine hK2 _ _ _ rfl ?_;rw[ha]
    refine gP zH w0 p1.toNat 0 ?_ (hr:=by exact gset hv6 _)
    rw[show hp E0 [(w0,some ⟨166,1,(eL zO s3).set p1.toNat [.osl 180 2 (eL rFact l10)]⟩),(M1+15,some ⟨180,2,[[.int .i64 r9.Kind,.int .i64 r9.N]]⟩)] (M1+38)=hp E0 [(w0,some ⟨166,1,eL zO l11⟩),(M1+15,some ⟨180,2,[[.int .i64 r9.Kind,.int .i64 r9.N]]⟩)] (M1+38) from by(try rw[zE hl11]);rw[(setx_iff.1 hl11).2,<- zY];rfl];(try rw[<- zE hl11])
    exact Rc.fin (zM (AHeap.Sub.trans (AHeap.Sub.refl _) (zU rfl (by simp;try omega)))) ⟨M1+38,(by omega),(by first|rfl|exact((zE hl11).trans fM1_1)|omega),rfl,rfl⟩
   refine Js hK4 ?_
   have e0:=nQ w0 (M1+2)
   have e1:=nQ w0 (M1+15)
   refine Rt tok [] [0,1,2,7,8] (by intro K k;simp -dsimp -implicitDefEqProofs [e0,e1,(gset hv6 _)];exact k) fun a ha=>?_
   obtain⟨l12,hl12,H⟩:=bE H
   obtain rfl:=oi H
   refine hK2 _ _ _ rfl ?_;rw[ha]
   refine gP zH w0 p1.toNat 0 ?_ (hr:=by exact gset hv6 _)
   rw[show hp E0 [(w0,some ⟨166,1,(eL zO s3).set p1.toNat [.osl 180 2 (eL rFact v6)]⟩),(M1+15,some ⟨180,2,[[.int .i64 r9.Kind,.int .i64 r9.N]]⟩)] (M1+29)=hp E0 [(w0,some ⟨166,1,eL zO l12⟩),(M1+15,some ⟨180,2,[[.int .i64 r9.Kind,.int .i64 r9.N]]⟩)] (M1+29) from by(try rw[zE hl12]);rw[(setx_iff.1 hl12).2,<- zY];rfl];(try rw[<- zE hl12])
   exact Rc.fin (zM (AHeap.Sub.trans (AHeap.Sub.refl _) (zU rfl (by simp;try omega)))) ⟨M1+29,(by omega),(by first|rfl|exact((zE hl12).trans fM1_1)|omega),rfl,rfl⟩
  cases oj H
  refine zK (hO2 _ _ _ _ rfl ⟨rfl,?_⟩)
  refine kr ?_
  exact Rf ⟨M1+2,(by omega),(by first|rfl|exact fM1_1|omega),rfl,rfl⟩
 intro x a J hx
 obtain⟨y4,y5⟩:=e1
 obtain⟨rfl,b,U,hr,M2,fM2_0,fM2_1,rfl,rfl⟩:=hx
 (try dsimp only at H)
 show K1 _ _
 refine hK1 _ _ (zH hr ?_)
 refine Rc.mk ?_
 refine qA [6] ?_
 obtain rfl:=oi H
 refine Kp [6] ?_
 refine Wr ?_
 refine⟨[.bool y4],by simp,M2+2,by omega,by first|rfl|exact fM2_1|omega,?_,?_⟩
 .simp[eN]
 first|rfl|simp

theorem c176_o {p0:List gQuad}{p1:Int}{r:List Int}(H:gS p0 p1=some r){J:AHeap}:ACalls Tryz.prog G 176 [.fsl (eL rQuad p0),.int .i64 p1] J (fun v J'=>∃M n0:Nat,J.next<=M/\J.next<=n0/\n0<M/\v=.sl n0 0 r.length/\J'=hp J.objs [(n0,some ⟨3,1,eL rI r⟩)] M):=by
 refine fr2 [] (by simp) (fun hlt=>?_) ⟨_,func176,rfl,rfl⟩
 generalize J.next=N0 at hlt ⊢
 refine fnK tok func176 ntmps176 results176 ?_
 simp only[argsA,Nat.reduceAdd,hpN]
 unfold gS at H
 refine qA [0,1] ?_
 obtain⟨v1,hv1,H⟩:=bE H
 refine qB [1,5] (ix34 hv1) ?_
 refine Wsq [1] fun K1 hK1=>?_
 refine Wb ?_
 refine qA [1,5,10] ?_
 refine Ci H ?_ ?_<;>intro H
 .have q0:∀J i,bsA T 23 true i 0 [] J=some (.esl,J):=fun _ _=>rfl
  refine Sy tok [0] [4] q0 ?_
  obtain rfl:=oi H
  refine Kp [4] ?_
  refine gNilS Wre 4 3 1 [(N0+5,some ⟨36,5,[[.int .i64 v1.Op,.int .i64 v1.Dst,.int .i64 v1.A,.int .i64 v1.B,.int .i64 v1.N]]⟩),(N0+13,some ⟨3,1,eL rI ([]:List Int)⟩)] [(4,.sl (N0+13) 0 ([]:List Int).length)] (by simp(disch:=omega)) (by simp(disch:=omega) [eN]) [4] rfl ?_
  refine gDrop Wre [(N0+13,some ⟨3,1,eL rI ([]:List Int)⟩)] (AHeap.Sub.trans (zM (AHeap.Sub.refl _)) (zU rfl (by simp;try omega))) ?_
  exact V2 j0 (N0+14) (N0+13)
 refine qA [1,5,15] ?_
 refine Ci H ?_ ?_<;>intro H
 .obtain⟨l2,hl2,H⟩:=bE H
  have q1:∀J i,bsA T 23 false i 1 [(0,.int .i64 v1.N)] J=some (.sl i 0 (List.length l2),J.put i ⟨3,1,eL rI l2⟩):=by rw[<- Option.some.inj hl2];exact fun _ _=>rfl
  refine qB [4] q1 ?_
  obtain rfl:=oi H
  refine Kp [4] ?_
  refine gDrop Wre [(N0+17,some ⟨3,1,eL rI l2⟩)] (AHeap.Sub.trans (zM (AHeap.Sub.refl _)) (zU rfl (by simp;try omega))) ?_
  exact V2 j0 (N0+19) (N0+17)
 obtain⟨g3,hg3,H⟩:=bE H
 refine qF tok [1,5,22] ([(1,.int .i64 p1),(5,.ptr (N0+5) 0 0),(22,.bool g3)]) (hp E0 [(N0+5,some ⟨36,5,[[.int .i64 v1.Op,.int .i64 v1.Dst,.int .i64 v1.A,.int .i64 v1.B,.int .i64 v1.N]]⟩)] (N0+26)) (by
  intro K k
  refine m0 ?_
  cases hbg3:ieq v1.Op 5
  .cases oj (ifF hbg3 hg3)
   exact m1 hbg3 k
  cases oj (ifT hbg3 hg3)
  refine m1 hbg3 ?_
  exact k) ?_
 refine Ci H ?_ ?_<;>intro H
 .obtain⟨l4,hl4,H⟩:=bE H
  have q2:∀J i,bsA T 23 false i 2 [(0,.int .i64 v1.N),(1,.int .i64 (iadd .i64 p1 1))] J=some (.sl i 0 (List.length l4),J.put i ⟨3,1,eL rI l4⟩):=by rw[<- Option.some.inj hl4];exact fun _ _=>rfl
  refine qB [4] q2 ?_
  obtain rfl:=oi H
  refine Kp [4] ?_
  refine gDrop Wre [(N0+30,some ⟨3,1,eL rI l4⟩)] (AHeap.Sub.trans (zM (AHeap.Sub.refl _)) (zU rfl (by simp;try omega))) ?_
  exact V2 j0 (N0+32) (N0+30)
 obtain⟨g5,hg5,H⟩:=bE H
 refine qF tok [1,5,38] ([(1,.int .i64 p1),(5,.ptr (N0+5) 0 0),(38,.bool g5)]) (hp E0 [(N0+5,some ⟨36,5,[[.int .i64 v1.Op,.int .i64 v1.Dst,.int .i64 v1.A,.int .i64 v1.B,.int .i64 v1.N]]⟩)] (N0+37)) (by
  intro K k
  refine m0 ?_
  cases hbg5:ieq v1.Op 5
  .cases oj (ifF hbg5 hg5)
   exact m1 hbg5 k
  cases oj (ifT hbg5 hg5)
  refine m1 hbg5 ?_
  exact k) ?_
 refine Ci H ?_ ?_<;>intro H
 .obtain⟨l6,hl6,H⟩:=bE H
  have q3:∀J i,bsA T 23 false i 2 [(0,.int .i64 (iadd .i64 p1 1)),(1,.int .i64 v1.N)] J=some (.sl i 0 (List.length l6),J.put i ⟨3,1,eL rI l6⟩):=by rw[<- Option.some.inj hl6];exact fun _ _=>rfl
  refine qB [4] q3 ?_
  obtain rfl:=oi H
  refine Kp [4] ?_
  refine gDrop Wre [(N0+41,some ⟨3,1,eL rI l6⟩)] (AHeap.Sub.trans (zM (AHeap.Sub.refl _)) (zU rfl (by simp;try omega))) ?_
  exact V2 j0 (N0+43) (N0+41)
 refine Js hK1 ?_
 obtain⟨l7,hl7,H⟩:=bE H
 have q4:∀J i,bsA T 23 false i 1 [(0,.int .i64 (iadd .i64 p1 1))] J=some (.sl i 0 (List.length l7),J.put i ⟨3,1,eL rI l7⟩):=by rw[<- Option.some.inj hl7];exact fun _ _=>rfl
 refine qB [4] q4 ?_
 obtain rfl:=oi H
 refine Kp [4] ?_
 refine gDrop Wre [(N0+39,some ⟨3,1,eL rI l7⟩)] (AHeap.Sub.trans (zM (AHeap.Sub.refl _)) (zU rfl (by simp;try omega))) ?_
 exact V2 j0 (N0+41) (N0+39)

theorem c180_o {p0:List gQuad}{p1:List gFact}{p2:Int}{r:List Int}(H:vR p0 p1 p2=some r){J:AHeap}:ACalls Tryz.prog G 180 [.fsl (eL rQuad p0),.fsl (eL rFact p1),.int .i64 p2] J (fun v J'=>∃M n0:Nat,J.next<=M/\J.next<=n0/\n0<M/\v=.sl n0 0 r.length/\J'=hp J.objs [(n0,some ⟨3,1,eL rI r⟩)] M):=by
 refine fr2 [] (by simp) (fun hlt=>?_) ⟨_,func180,rfl,rfl⟩
 generalize J.next=N0 at hlt ⊢
 refine fnK tok func180 ntmps180 results180 ?_
 simp only[argsA,Nat.reduceAdd,hpN]
 unfold vR at H
 refine qA [0,1,2] ?_
 obtain⟨v1,hv1,H⟩:=bE H
 refine qB [0,1,2,7] (ix34 hv1) ?_
 refine Wsq [1,2,7] fun K1 hK1=>?_
 obtain⟨g3,hg3,H⟩:=bE H
 refine qF tok [0,1,2,7,23] ([(0,.fsl (eL rQuad p0)),(1,.fsl (eL rFact p1)),(2,.int .i64 p2),(7,.ptr (N0+5) 0 0),(23,.bool g3)]) (hp E0 [(N0+5,some ⟨36,5,[[.int .i64 v1.Op,.int .i64 v1.Dst,.int .i64 v1.A,.int .i64 v1.B,.int .i64 v1.N]]⟩)] (N0+19)) (by
  intro K k
  refine m0 ?_
  cases hbg3:ine v1.Op 5
  .replace hg3:=ifF hbg3 hg3
   obtain⟨v2,hv2,hg3⟩:=bE hg3
   cases oj hg3
   exact m2 hbg3 (ix166 hv2) k
  cases oj (ifT hbg3 hg3)
  refine m1 hbg3 ?_
  exact k) ?_
 refine Ci H ?_ ?_<;>intro H
 .obtain⟨r4,hr4,H⟩:=bE H
  refine jC tok [] [6] (fun a J=>∃M1 o1:Nat,N0+23<=M1/\N0+23<=o1/\o1<M1/\a=[(6,.sl o1 0 r4.length)]/\J=hp E0 [(N0+5,some ⟨36,5,[[.int .i64 v1.Op,.int .i64 v1.Dst,.int .i64 v1.A,.int .i64 v1.B,.int .i64 v1.N]]⟩),(o1,some ⟨3,1,eL rI r4⟩)] M1) (fun K hK=>?_) ?_
  .skip
   refine m0 ?_
   refine mo (c176_o (H:=hr4)) fun M1 o1 fM1_0 fM1_1 fM1_2=>?_
   have eM1_0:=nQ o1 (N0+5)
   refine m1 (j eM1_0 (j @hoS @hoN)) ?_
   exact hK _ _ ⟨M1,o1,(by omega),(by omega),(by omega),rfl,rfl⟩
  rintro a J ⟨M1,o1,fM1_0,fM1_1,fM1_2,rfl,rfl⟩
  obtain rfl:=oi H
  refine Kp [6] ?_
  have z0:=nQ (N0+5) o1
  refine gDrop Wre [(o1,some ⟨3,1,eL rI r4⟩)] (AHeap.Sub.trans (zM (AHeap.Sub.refl _)) (zU rfl (by simp;try omega))) ?_
  exact V2 z0 M1 o1
 refine Js hK1 ?_
 refine Wsq [2] fun K2 hK2=>?_
 obtain⟨v5,hv5,H⟩:=bE H
 refine qB [2,7,33] (ix166 hv5) ?_
 refine Ci H ?_ ?_<;>intro H
 .obtain⟨l6,hl6,H⟩:=bE H
  have q0:∀J i,bsA T 23 false i 1 [(0,.int .i64 v1.N)] J=some (.sl i 0 (List.length l6),J.put i ⟨3,1,eL rI l6⟩):=by rw[<- Option.some.inj hl6];exact fun _ _=>rfl
  refine qB [6] q0 ?_
  obtain rfl:=oi H
  refine Kp [6] ?_
  refine gDrop Wre [(N0+28,some ⟨3,1,eL rI l6⟩)] (AHeap.Sub.trans (zM (AHeap.Sub.refl _)) (zU rfl (by simp;try omega))) ?_
  exact V2 j0 (N0+30) (N0+28)
 refine Js hK2 ?_
 obtain⟨l7,hl7,H⟩:=bE H
 have q1:∀J i,bsA T 23 false i 1 [(0,.int .i64 (iadd .i64 p2 1))] J=some (.sl i 0 (List.length l7),J.put i ⟨3,1,eL rI l7⟩):=by rw[<- Option.some.inj hl7];exact fun _ _=>rfl
 refine qB [6] q1 ?_
 obtain rfl:=oi H
 refine Kp [6] ?_
 refine gDrop Wre [(N0+28,some ⟨3,1,eL rI l7⟩)] (AHeap.Sub.trans (zM (AHeap.Sub.refl _)) (zU rfl (by simp;try omega))) ?_
 exact V2 j0 (N0+30) (N0+28)

theorem c180_o_b {p0:List gQuad}{p1:List gFact}{p2:Int}{r:List Int}(H:vR p0 p1 p2=some r){J:AHeap}{args:List AV}(hy:args.map (thawA (fun _=>true) J 8)=[.fsl (eL rQuad p0),.fsl (eL rFact p1),.int .i64 p2]):ACalls Tryz.prog G 180 args J (fun v J'=>∃M n0:Nat,J.next<=M/\J.next<=n0/\n0<M/\v=.sl n0 0 r.length/\J'=hp J.objs [(n0,some ⟨3,1,eL rI r⟩)] M):=by
 refine borrowQ 8 8 (c180_o (J:=⟨E0,J.next⟩) H) hy ?_
 rintro _ _ ⟨M,n0,h0,h1,h2,rfl,rfl⟩
 refine⟨_,M,rfl,by simp[AV.rnf,AV.simp1],fun p hp ob ho=>?_,by simp,M,n0,h0,h1,h2,rfl,rfl⟩
 simp only[List.mem_cons,List.not_mem_nil,or_false] at hp
 rcases hp with rfl<;>(cases ho;first|exact encL_nf (fun x=>nf_rI 7 x) _|simp[AV.nf,AV.simp1])

theorem c181_o {p0:gQuad}{p1:List gFact}{r:List gFact}(H:vS p0 p1=some r){J:AHeap}:ACalls Tryz.prog G 181 [.agg [.int .i64 p0.Op,.int .i64 p0.Dst,.int .i64 p0.A,.int .i64 p0.B,.int .i64 p0.N],.fsl (eL rFact p1)] J (fun v J'=>∃M n0:Nat,J.next<=M/\J.next<=n0/\n0<M/\v=.sl n0 0 r.length/\J'=hp J.objs [(n0,some ⟨180,2,eL rFact r⟩)] M):=by
 refine fr2 [] (by simp) (fun hlt=>?_) ⟨_,func181,rfl,rfl⟩
 generalize J.next=N0 at hlt ⊢
 refine fnK tok func181 ntmps181 results181 ?_
 simp only[argsA,Nat.reduceAdd,hpN]
 unfold vS at H
 refine S0 tok [0] [1,2] ?_
 obtain⟨l1,hl1,H⟩:=bE H
 have q0:∀J i,bsA T 166 true i 0 [] J=some (.esl,J):=fun _ _=>rfl
 refine Sz tok [0] [1,2,5] q0 (appe166 hl1) ?_
 refine Wsq [5] fun K1 hK1=>?_
 refine qA [1,2,5,10] ?_
 refine Wb ?_
 refine qA [1,2,5,10,11] ?_
 refine Ci H ?_ ?_<;>intro H
 .obtain⟨v2,hv2,H⟩:=bE H
  obtain⟨l3,hl3,H⟩:=bE H
  refine Rt tok [] [5] (by intro K k;simp -dsimp -implicitDefEqProofs [gK hv2,(zG hv2).2.2,(setx_iff.1 hl3).2.symm];exact k) fun a ha=>?_
  (try rw[<- zE hl3] at ha);(try rw[<- zE hl3])
  refine hK1 _ _ ?_;rw[ha]
  refine Rc.mk ?_
  refine qA [4] ?_
  obtain rfl:=oi H
  refine Kp [4] ?_
  exact V2 j0 (N0+20) (N0+4)
 refine qA [1,2,5,10,20] ?_
 refine Ci H ?_ ?_<;>intro H
 .obtain⟨v4,hv4,H⟩:=bE H
  obtain⟨v5,hv5,H⟩:=bE H
  obtain⟨l6,hl6,H⟩:=bE H
  refine oF tok tokM [] [8,9] [0,1,2,3,4,5,6,7,8,9] [5] (fun a J=>a=[(5,.sl (N0+4) 0 l1.length)]/\J=hp E0 [(N0+4,some ⟨180,2,eL rFact l6⟩)] (N0+22)) (by decide) (fun K hK=>?_) ?_
  .simp only[pickL,zJ,zL]
   refine m1 (j (ix166 hv4) (j (gK hv5) (j ((zG hv5).2.2) ((setx_iff.1 hl6).2.symm)))) ?_
   exact hK _ _ ⟨rfl,rfl⟩
  rintro a J ⟨ha,rfl⟩
  (try rw[<- zE hl6] at ha);(try rw[<- zE hl6])
  refine hK1 _ _ ?_;rw[ha]
  refine Rc.mk ?_
  refine qA [4] ?_
  obtain rfl:=oi H
  refine Kp [4] ?_
  exact V2 j0 (N0+24) (N0+4)
 refine qA [1,2,5,10,31] ?_
 refine Ci H ?_ ?_<;>intro H
 .obtain⟨v7,hv7,H⟩:=bE H
  obtain⟨l8,hl8,H⟩:=bE H
  refine Rt tok [] [5] (by intro K k;simp -dsimp -implicitDefEqProofs [gK hv7,(zG hv7).2.2,(setx_iff.1 hl8).2.symm];exact k) fun a ha=>?_
  (try rw[<- zE hl8] at ha);(try rw[<- zE hl8])
  refine hK1 _ _ ?_;rw[ha]
  refine Rc.mk ?_
  refine qA [4] ?_
  obtain rfl:=oi H
  refine Kp [4] ?_
  exact V2 j0 (N0+22) (N0+4)
 refine qA [1,2,5,38] ?_
 refine Ci H ?_ ?_<;>intro H
 .obtain⟨v9,hv9,H⟩:=bE H
  obtain⟨v10,hv10,H⟩:=bE H
  obtain⟨r11,hr11,H⟩:=bE H
  obtain⟨v12,hv12,H⟩:=bE H
  obtain⟨l13,hl13,H⟩:=bE H
  refine oF tok tokM [] [15,16] [0,1,2,3,4,5,6,7,8,9,10,11,12,13,14,15,16] [5] (fun a J=>a=[(5,.sl (N0+4) 0 l1.length)]/\J=hp E0 [(N0+4,some ⟨180,2,eL rFact l13⟩)] (N0+33)) (by decide) (fun K hK=>?_) ?_
  .simp only[pickL,zJ,zL]
   refine m1 (j (ix166 hv9) (j (ix166 hv10) (j (gK hv12) (j ((zG hv12).2.2) ((setx_iff.1 hl13).2.symm))))) ?_
   refine Pc.mk (c183 hr11) (m1 (j (ix166 hv9) (j (ix166 hv10) (j (gK hv12) (j ((zG hv12).2.2) ((setx_iff.1 hl13).2.symm))))) ?_)
   exact hK _ _ ⟨rfl,rfl⟩
  rintro a J ⟨ha,rfl⟩
  (try rw[<- zE hl13] at ha);(try rw[<- zE hl13])
  refine hK1 _ _ ?_;rw[ha]
  refine Rc.mk ?_
  refine qA [4] ?_
  obtain rfl:=oi H
  refine Kp [4] ?_
  exact V2 j0 (N0+35) (N0+4)
 refine Js hK1 ?_
 refine qA [4] ?_
 obtain rfl:=oi H
 refine Kp [4] ?_
 exact V2 j0 (N0+18) (N0+4)

theorem c181_o_b {p0:gQuad}{p1:List gFact}{r:List gFact}(H:vS p0 p1=some r){J:AHeap}{args:List AV}(hy:args.map (thawA (fun _=>true) J 8)=[.agg [.int .i64 p0.Op,.int .i64 p0.Dst,.int .i64 p0.A,.int .i64 p0.B,.int .i64 p0.N],.fsl (eL rFact p1)]):ACalls Tryz.prog G 181 args J (fun v J'=>∃M n0:Nat,J.next<=M/\J.next<=n0/\n0<M/\v=.sl n0 0 r.length/\J'=hp J.objs [(n0,some ⟨180,2,eL rFact r⟩)] M):=by
 refine borrowQ 8 8 (c181_o (J:=⟨E0,J.next⟩) H) hy ?_
 rintro _ _ ⟨M,n0,h0,h1,h2,rfl,rfl⟩
 refine⟨_,M,rfl,by simp[AV.rnf,AV.simp1],fun p hp ob ho=>?_,by simp,M,n0,h0,h1,h2,rfl,rfl⟩
 simp only[List.mem_cons,List.not_mem_nil,or_false] at hp
 rcases hp with rfl<;>(cases ho;first|exact encL_nf (fun x=>nf_rFact 7 x) _|simp[AV.nf,AV.simp1])

theorem c170 {p0:List gQuad}{p1:(List (List gFact))}{r:Bool×(List (List gFact))}(H:qV p0 p1=some r){J:AHeap}{w1:Nat}(q1:J.objs w1=some ⟨166,1,eL zO p1⟩):ACalls Tryz.prog G 170 [.fsl (eL rQuad p0),.sl w1 0 p1.length] J (fun v J'=>∃M:Nat,J.next<=M/\r.2.length=p1.length/\v=.bool r.1/\J'=hp J.objs [(w1,some ⟨166,1,eL zO r.2⟩)] M):=by
 refine xG (L:=[(w1,some ⟨166,1,eL zO p1⟩)]) (Q1:=fun v J'=>∃M:Nat,J.next<=M/\r.2.length=p1.length/\v=.bool r.1/\J'=hp E0 [(w1,some ⟨166,1,eL zO r.2⟩)] M) (by simp[q1]) (fun hlt=>?_) ?_ ⟨_,func170,rfl,rfl⟩
 rotate_left
 .rintro v J1 ⟨M,h0,h1,rfl,rfl⟩
  exact⟨_,M,rfl,by simp,by simp;try omega,M,h0,h1,rfl,rfl⟩
 generalize J.next=N0 at hlt ⊢
 have lw1:w1<N0:=hlt _ (.head _) rfl
 refine fnK tok func170 ntmps170 results170 ?_
 simp only[argsA,Nat.reduceAdd,hpN]
 unfold qV at H
 refine qA [0,1] ?_
 refine qA [0,1,5] ?_
 refine Wsq [5] fun K1 hK1=>?_
 refine qA [0,1,5,6] ?_
 refine Wb ?_
 obtain⟨e2,hse2,H⟩:=bE H
 refine zR [0,1,5,6] (fun s a J=>∃M1:Nat,N0<=M1/\s.2.2.length=p1.length/\a=[(0,.fsl (eL rQuad p0)),(1,.sl w1 0 s.2.2.length),(5,.bool s.1),(6,.int .i64 s.2.1)]/\J=hp E0 [(w1,some ⟨166,1,eL zO s.2.2⟩)] M1) (fun s x a J=>x=.exit 0/\Rc G 54 N0 (fun a J=>∃M2:Nat,N0<=M2/\s.2.length=p1.length/\a=[(5,.bool s.1)]/\J=hp E0 [(w1,some ⟨166,1,eL zO s.2⟩)] M2) (AAct.keep a [5]) J) hse2 ?_ ?_ ?_
 .refine kp [0,1,5,6] ?_
  exact Rf ⟨N0+3,(by omega),(by first|rfl|exact rfl|omega),rfl,rfl⟩
 .clear H hse2
  rintro⟨s1,s2,s3⟩ fl a J H ⟨M1,fM1_0,fM1_1,rfl,rfl⟩ K2 O2 hK2 hO2
  unfold nI at H;dsimp only at H
  refine Wsq [0,1,5,6] fun K3 hK3=>?_
  refine qA [0,1,5,6,13] ?_
  refine Ci H ?_ ?_<;>intro H
  .refine Js hK3 ?_
   refine Wsq [0,1,5,6] fun K4 hK4=>?_
   refine Wb ?_
   refine Wsq [0,1,5,6] fun K5 hK5=>?_
   obtain⟨v6,hv6,H⟩:=bE H
   refine gU Wre w1 s2.toNat 0 ?_ (hr:=by exact sF zO hv6)
   obtain⟨v7,hv7,H⟩:=bE H
   have e0:=nQ w1 (M1+4)
   refine qB [0,1,5,6,23] (j e0 (j (gSt hv6) (j (mQ hv6) (j ((zG hv6).2.2) (j (gK hv7) (show _[0]? =some v7 from(zG hv7).2.2)))))) ?_
   refine Ci H ?_ ?_<;>intro H
   .refine zK ?_
    show K4 _ _
    refine kE [0,1,5,6] fun a' ha=>?_
    refine hK4 _ _ ?_;rw[ha]
    refine Rc.mk ?_
    have e0:=nQ w1 (M1+4)
    refine Rt tok [] [0,1,5,6] (by intro K k;simp -dsimp -implicitDefEqProofs [e0,(gset hv6 _)];exact k) fun a ha=>?_
    obtain⟨l8,hl8,H⟩:=bE H
    obtain rfl:=oi H
    refine hK2 _ _ _ rfl ?_;rw[ha]
    refine gP zH w1 s2.toNat 0 ?_ (hr:=by exact gset hv6 _)
    rw[show hp E0 [(w1,some ⟨166,1,(eL zO s3).set s2.toNat [.osl 180 2 (eL rFact v6)]⟩)] (M1+16)=hp E0 [(w1,some ⟨166,1,eL zO l8⟩)] (M1+16) from by(try rw[zE hl8]);rw[(setx_iff.1 hl8).2,<- zY];rfl];(try rw[<- zE hl8])
    exact Rf ⟨M1+16,(by omega),(by first|rfl|exact((zE hl8).trans fM1_1)|omega),rfl,rfl⟩
   refine Js hK5 ?_
   refine gP Wre w1 s2.toNat 0 ?_ (hr:=by exact gset hv6 _)
   obtain⟨l9,hl9,H⟩:=bE H
   rw[show hp E0 [(w1,some ⟨166,1,(eL zO s3).set s2.toNat [.osl 180 2 (eL rFact v6)]⟩)] (M1+13)=hp E0 [(w1,some ⟨166,1,eL zO l9⟩)] (M1+13) from by(try rw[zE hl9]);rw[(setx_iff.1 hl9).2,<- zY];rfl];(try rw[<- zE hl9])
   obtain⟨v10,hv10,H⟩:=bE H
   refine gU Wre w1 s2.toNat 0 ?_ (hr:=by exact sF zO hv10)
   obtain⟨r11,hr11,H⟩:=bE H
   refine jC tok [] [0,1,5,6,7] (fun a J=>∃M3 o1:Nat,M1+22<=M3/\M1+22<=o1/\o1<M3/\a=[(0,.fsl (eL rQuad p0)),(1,.sl w1 0 l9.length),(5,.bool s1),(6,.int .i64 s2),(7,.sl o1 0 r11.length)]/\J=hp E0 [(w1,some ⟨166,1,(eL zO l9).set s2.toNat [.sl (M1+13) 0 v10.length]⟩),(M1+13,some ⟨180,2,eL rFact v10⟩),(o1,some ⟨3,1,eL rI r11⟩)] M3) (fun K hK=>?_) ?_
   .skip
    have e0:=nQ w1 (M1+13)
    refine m1 (j e0 (j (gSt hv10) (j (mQ hv10) ((zG hv10).2.2)))) ?_
    refine(c180_o_b (H:=hr11) (by simp[e0,(gset hv10 _),mQ hv10,(zG hv10).2.2])).mono ?_;rintro _ _ ⟨M3,o1,fM3_0,fM3_1,fM3_2,rfl,rfl⟩;simp only[hpN] at fM3_0 fM3_1 fM3_2
    have eM3_0:=nQ o1 w1
    have eM3_1:=nQ o1 (M1+13)
    refine m1 (j e0 (j (gSt hv10) (j (mQ hv10) (j ((zG hv10).2.2) (j eM3_0 (j eM3_1 (j @hoS @hoN))))))) ?_
    exact hK _ _ ⟨M3,o1,(by omega),(by omega),(by omega),rfl,rfl⟩
   rintro a J ⟨M3,o1,fM3_0,fM3_1,fM3_2,rfl,rfl⟩
   refine gP Wre w1 s2.toNat 0 ?_ (hr:=by exact gset hv10 _)
   obtain⟨l12,hl12,H⟩:=bE H
   rw[show hp E0 [(w1,some ⟨166,1,(eL zO l9).set s2.toNat [.osl 180 2 (eL rFact v10)]⟩),(o1,some ⟨3,1,eL rI r11⟩)] M3=hp E0 [(w1,some ⟨166,1,eL zO l12⟩),(o1,some ⟨3,1,eL rI r11⟩)] M3 from by(try rw[zE hl12]);rw[(setx_iff.1 hl12).2,<- zY];rfl];(try rw[<- zE hl12])
   obtain⟨v14,hv14,H⟩:=bE H
   refine gU Wre w1 s2.toNat 0 ?_ (hr:=by exact sF zO hv14)
   obtain⟨v15,hv15,H⟩:=bE H
   obtain⟨r16,hr16,H⟩:=bE H
   refine gO tok tokM [] [6,7,8] [0,1,2,3,4,5,6,7,8,9] [0,1,5,6,7,8] (fun a J=>∃M4 o2:Nat,M3+11<=M4/\M3+11<=o2/\o2<M4/\a=[(0,.fsl (eL rQuad p0)),(1,.sl w1 0 l12.length),(5,.bool s1),(6,.int .i64 s2),(7,.sl o1 0 r11.length),(8,.sl o2 0 r16.length)]/\J=hp E0 [(w1,some ⟨166,1,(eL zO l12).set s2.toNat [.sl M3 0 v14.length]⟩),(o1,some ⟨3,1,eL rI r11⟩),(M3,some ⟨180,2,eL rFact v14⟩),(o2,some ⟨180,2,eL rFact r16⟩)] M4) (by decide) (fun K hK=>?_) ?_
   .simp only[pickL,zJ,zL]
    have e0:=nQ w1 o1
    have e1:=nQ w1 M3
    have e2:=nQ o1 M3
    refine m1 (j e0 (j e1 (j e2 (j (gSt hv14) (j (ix34 hv15) (j (mQ hv14) ((zG hv14).2.2))))))) ?_
    refine(c181_o_b (H:=hr16) (by simp[e0,e1,e2,(gset hv14 _),ix34 hv15,mQ hv14,(zG hv14).2.2])).mono ?_;rintro _ _ ⟨M4,o2,fM4_0,fM4_1,fM4_2,rfl,rfl⟩;simp only[hpN] at fM4_0 fM4_1 fM4_2
    have eM4_0:=nQ o2 w1
    have eM4_1:=nQ o2 o1
    have eM4_2:=nQ o2 M3
    refine m1 (j e0 (j e1 (j e2 (j (gSt hv14) (j (ix34 hv15) (j (mQ hv14) (j ((zG hv14).2.2) (j eM4_0 (j eM4_1 (j eM4_2 (j @hoS @hoN))))))))))) ?_
    exact hK _ _ ⟨M4,o2,(by omega),(by omega),(by omega),rfl,rfl⟩
   rintro a J ⟨M4,o2,fM4_0,fM4_1,fM4_2,rfl,rfl⟩
   have e0:=nQ w1 o1
   have e1:=nQ w1 M3
   have e2:=nQ w1 o2
   have e3:=nQ o1 M3
   have e4:=nQ o1 o2
   have e5:=nQ M3 o2
   refine qB [0,1,5,6,7,8,9] (j e0 (j e1 (j e2 (j e3 (j e4 (j e5 (gSt hv14))))))) ?_
   refine Wb ?_
   obtain⟨l17,hl17,H⟩:=bE H
   obtain⟨e1,hse1,H⟩:=bE H
   refine zR [0,1,5,6,7,8,9] (fun s a J=>∃M5 o3:Nat,N0<=M5/\N0<=o3/\o3<M5/\s.2.2.1.length=p1.length/\a=[(0,.fsl (eL rQuad p0)),(1,.sl w1 0 s.2.2.1.length),(5,.bool s.1),(6,.int .i64 s2),(7,.sl o3 0 s.2.2.2.length),(8,.fsl (eL rFact r16)),(9,.int .i64 s.2.1)]/\J=hp E0 [(w1,some ⟨166,1,eL zO s.2.2.1⟩),(o3,some ⟨3,1,eL rI s.2.2.2⟩)] M5) (fun s x a J=>x=.exit 2/\Rc G 54 N0 (fun a J=>∃M6:Nat,N0<=M6/\s.2.length=p1.length/\a=[(0,.fsl (eL rQuad p0)),(1,.sl w1 0 s.2.length),(5,.bool s.1),(6,.int .i64 s2)]/\J=hp E0 [(w1,some ⟨166,1,eL zO s.2⟩)] M6) (AAct.keep a [0,1,5,6]) J) hse1 ?_ ?_ ?_
   .refine kp [0,1,5,6,7,8,9] ?_
    refine gP zH w1 s2.toNat 0 ?_ (hr:=by exact gset hv14 _)
    rw[show hp E0 [(w1,some ⟨166,1,(eL zO l12).set s2.toNat [.osl 180 2 (eL rFact v14)]⟩),(o1,some ⟨3,1,eL rI r11⟩),(o2,some ⟨180,2,eL rFact r16⟩)] (M4+1)=hp E0 [(w1,some ⟨166,1,eL zO l17⟩),(o1,some ⟨3,1,eL rI r11⟩),(o2,some ⟨180,2,eL rFact r16⟩)] (M4+1) from by(try rw[zE hl17]);rw[(setx_iff.1 hl17).2,<- zY];rfl];(try rw[<- zE hl17])
    have z3:=nQ w1 o1
    have z4:=nQ w1 o2
    have z5:=nQ o1 o2
    refine gFrz zH 4 [o2] [(w1,some ⟨166,1,eL zO l17⟩),(o1,some ⟨3,1,eL rI r11⟩)] [(0,.fsl (eL rQuad p0)),(1,.sl w1 0 l17.length),(5,.bool s1),(6,.int .i64 s2),(7,.sl o1 0 r11.length),(8,.fsl (eL rFact r16)),(9,.int .i64 0)] (by simp[z3,z4,z5]) (cutD (by simp[z3,z4,z5])) ?_
    exact Rf ⟨M4+1,o1,(by omega),(by omega),(by omega),(by first|rfl|exact((zE hl17).trans ((zE hl12).trans ((zE hl9).trans fM1_1)))|omega),rfl,rfl⟩
   .clear H hse1
    rintro⟨s18,s19,s20,s21⟩ fl a J H ⟨M5,o3,fM5_0,fM5_1,fM5_2,fM5_3,rfl,rfl⟩ K6 O6 hK6 hO6
    unfold nH at H;dsimp only at H
    refine Wsq [0,1,5,6,7,8,9] fun K7 hK7=>?_
    have e0:=nQ w1 o3
    refine qB [0,1,5,6,7,8,9,43] e0 ?_
    refine Ci H ?_ ?_<;>intro H
    .refine Js hK7 ?_
     refine Wsq [0,1,5,6,7,8,9] fun K8 hK8=>?_
     refine Wb ?_
     obtain⟨v24,hv24,H⟩:=bE H
     obtain⟨r25,hr25,H⟩:=bE H
     refine jC tok [] [0,1,5,6,7,8,9,52] (fun a J=>∃M7:Nat,M5+11<=M7/\r25.2.length=s20.length/\a=[(0,.fsl (eL rQuad p0)),(1,.sl w1 0 s20.length),(5,.bool s18),(6,.int .i64 s2),(7,.sl o3 0 s21.length),(8,.fsl (eL rFact r16)),(9,.int .i64 s19),(52,.bool r25.1)]/\J=hp E0 [(w1,some ⟨166,1,eL zO r25.2⟩),(o3,some ⟨3,1,eL rI s21⟩)] M7) (fun K hK=>?_) ?_
     .skip
      have e0:=nQ w1 o3
      refine m1 (j e0 (j (ixo23 hv24) ((zG hv24).2.2))) ?_
      refine(c182 (H:=hr25) (by simp[e0,ixo23 hv24,(zG hv24).2.2])).mono ?_;rintro _ _ ⟨M7,fM7_0,fM7_1,rfl,rfl⟩;simp only[hpN] at fM7_0
      refine m1 (j e0 (j (ixo23 hv24) (j ((zG hv24).2.2) (j @hoS @hoN)))) ?_
      exact hK _ _ ⟨M7,(by omega),fM7_1,rfl,rfl⟩
     rintro a J ⟨M7,fM7_0,fM7_1,rfl,rfl⟩
     try rw[<- fM7_1]
     refine Ci H ?_ ?_<;>intro H
     .have e0:=nQ w1 o3
      refine qH e0 hK8 ?_
      have e0:=nQ w1 o3
      obtain rfl:=oi H
      refine qJ e0 hK6 ?_
      exact Rf ⟨M7+4,o3,(by omega),(by omega),(by omega),(by first|rfl|exact((fM7_1).trans fM5_3)|omega),rfl,rfl⟩
     refine Js hK8 ?_
     have e0:=nQ w1 o3
     obtain rfl:=oi H
     refine qJ e0 hK6 ?_
     exact Rf ⟨M7+3,o3,(by omega),(by omega),(by omega),(by first|rfl|exact((fM7_1).trans fM5_3)|omega),rfl,rfl⟩
    cases oj H
    refine zK (hO6 _ _ _ _ rfl ⟨rfl,?_⟩)
    refine kr ?_
    exact Rc.fin (zM (AHeap.Sub.trans (AHeap.Sub.refl _) (zU rfl (by simp;try omega)))) ⟨M5+4,(by omega),(by first|rfl|exact fM5_3|omega),rfl,rfl⟩
   intro x a J hx
   obtain⟨y22,y23⟩:=e1
   obtain⟨rfl,b,U,hr,M6,fM6_0,fM6_1,rfl,rfl⟩:=hx
   (try dsimp only at H)
   show K4 _ _
   refine hK4 _ _ (zH hr ?_)
   refine Rc.mk ?_
   obtain rfl:=oi H
   refine qI hK2 ?_
   exact Rf ⟨M6+3,(by omega),(by first|rfl|exact fM6_1|omega),rfl,rfl⟩
  cases oj H
  refine zK (hO2 _ _ _ _ rfl ⟨rfl,?_⟩)
  refine kr ?_
  exact Rf ⟨M1+4,(by omega),(by first|rfl|exact fM1_1|omega),rfl,rfl⟩
 intro x a J hx
 obtain⟨y4,y5⟩:=e2
 obtain⟨rfl,b,U,hr,M2,fM2_0,fM2_1,rfl,rfl⟩:=hx
 (try dsimp only at H)
 show K1 _ _
 refine hK1 _ _ (zH hr ?_)
 refine Rc.mk ?_
 refine qA [4] ?_
 obtain rfl:=oi H
 refine Kp [4] ?_
 refine Wr ?_
 refine⟨[.bool y4],by simp,M2+2,by omega,by first|rfl|exact fM2_1|omega,?_,?_⟩
 .simp[eN]
 first|rfl|simp

theorem c151 {p0:List gQuad}{r:(List (List gFact))}(H:mH p0=some r):APure Tryz.prog G 151 [.fsl (eL rQuad p0)] (.fsl (eL kR r)):=by
 refine qK func151 ntmps151 results151 fun N0=>?_
 unfold mH at H
 refine qA [0] ?_
 have q0:∀J i,bsA T 163 true i 0 [] J=some (.esl,J):=fun _ _=>rfl
 refine Sy tok [0] [0,3] q0 ?_
 refine Wsq [0,3] fun K1 hK1=>?_
 obtain⟨r1,hr1,H⟩:=bE H
 refine qD [0,3,9] (c103 hr1) ?_
 refine Ci H ?_ ?_<;>intro H
 .refine qA [2] ?_
  cases oj H;exact W4
 refine Js hK1 ?_
 refine Wsq [0,3] fun K2 hK2=>?_
 refine qA [0,3,4] ?_
 refine Wb ?_
 obtain⟨e1,hse1,H⟩:=bE H
 refine zR [0,3,4] (fun s a J=>∃M1 o1:Nat,N0<=M1/\N0<=o1/\o1<M1/\a=[(0,.fsl (eL rQuad p0)),(3,.sl o1 0 s.2.length),(4,.int .i64 s.1)]/\J=hp E0 [(o1,some ⟨166,1,eL zO s.2⟩)] M1) (fun s x a J=>x=.exit 0/\Rc G 35 N0 (fun a J=>∃M2 o2:Nat,N0<=M2/\N0<=o2/\o2<M2/\a=[(0,.fsl (eL rQuad p0)),(3,.sl o2 0 s.length)]/\J=hp E0 [(o2,some ⟨166,1,eL zO s⟩)] M2) (AAct.keep a [0,3]) J) hse1 ?_ ?_ ?_
 .refine kp [0,3,4] ?_
  refine gNilS zH 3 166 1 [(N0+7,some ⟨166,1,eL zO ([]:List (List gFact))⟩)] [(0,.fsl (eL rQuad p0)),(3,.sl (N0+7) 0 ([]:List (List gFact)).length),(4,.int .i64 0)] (by simp(disch:=omega)) (by simp(disch:=omega) [eN]) [0,3,4] rfl ?_
  exact R2 (N0+8) (N0+7)
 .clear H hse1
  rintro⟨s2,s3⟩ fl a J H ⟨M1,o1,fM1_0,fM1_1,fM1_2,rfl,rfl⟩ K3 O3 hK3 hO3
  unfold vZ at H;dsimp only at H
  refine Wsq [0,3,4] fun K4 hK4=>?_
  refine qA [0,3,4,14] ?_
  refine Ci H ?_ ?_<;>intro H
  .refine Js hK4 ?_
   refine Wsq [0,3,4] fun K5 hK5=>?_
   refine Wb ?_
   obtain⟨l5,hl5,H⟩:=bE H
   obtain⟨l6,hl6,H⟩:=bE H
   have q1:∀(a0:Nat) (a1:Nat) J i,bsA T 163 true i 1 [(0,.sl a0 0 a1)] J=some (.fsl [[.sl a0 0 a1]],J):=fun _ _ _ _=>rfl
   have e0:=nQ o1 (M1+5)
   have e1:=nQ o1 (M1+7)
   refine Rb tok [2] (j e0 (j e1 (j (mak166 hl5) (j q1 (apr163 zO hl6))))) hK5 ?_
   refine gP Wre (M1+7) s3.length 0 ?_ (hr:=by exact app_get _ _ _)
   rw[show hp E0 [(M1+7,some ⟨166,1,eL zO s3++[[.osl 180 2 (eL rFact l5)]]⟩)] (M1+9)=hp E0 [(M1+7,some ⟨166,1,eL zO l6⟩)] (M1+9) from by rw[<- app_enc (f:=zO) (c:=[.osl 180 2 (eL rFact l5)]) hl6 rfl]]
   obtain rfl:=oi H
   refine qI hK3 ?_
   exact R2 (M1+12) (M1+7)
  cases oj H
  refine zK (hO3 _ _ _ _ rfl ⟨rfl,?_⟩)
  refine kr ?_
  exact R2 (M1+4) o1
 intro x a J hx
 obtain⟨y4,rfl⟩:∃x,x=e1:=⟨_,rfl⟩
 obtain⟨rfl,b,U,hr,M2,o2,fM2_0,fM2_1,fM2_2,rfl,rfl⟩:=hx
 (try dsimp only at H)
 show K2 _ _
 refine hK2 _ _ (zH hr ?_)
 refine Rc.mk ?_
 refine Wsq [0,3] fun K6 hK6=>?_
 refine qA [0,3,5] ?_
 refine Wb ?_
 obtain⟨e2,hse2,H⟩:=bE H
 refine zR [0,3,5] (fun s a J=>∃M3 o3:Nat,N0<=M3/\N0<=o3/\o3<M3/\a=[(0,.fsl (eL rQuad p0)),(3,.sl o3 0 s.2.length),(5,.int .i64 s.1)]/\J=hp E0 [(o3,some ⟨166,1,eL zO s.2⟩)] M3) (fun s x a J=>x=.exit 2/\Rc G 35 N0 (fun a J=>∃M4 o4:Nat,N0<=M4/\N0<=o4/\o4<M4/\a=[(0,.fsl (eL rQuad p0)),(3,.sl o4 0 s.length)]/\J=hp E0 [(o4,some ⟨166,1,eL zO s⟩)] M4) (AAct.keep a [0,3]) J) hse2 ?_ ?_ ?_
 .refine kp [0,3,5] ?_
  exact R2 (M2+1) o2
 .clear H hse2
  rintro⟨s7,s8⟩ fl a J H ⟨M3,o3,fM3_0,fM3_1,fM3_2,rfl,rfl⟩ K7 O7 hK7 hO7
  unfold mG at H;dsimp only at H
  refine Wsq [0,3,5] fun K8 hK8=>?_
  refine qA [0,3,5,22] ?_
  refine Ci H ?_ ?_<;>intro H
  .refine Js hK8 ?_
   refine Wsq [0,3,5] fun K9 hK9=>?_
   refine Wb ?_
   obtain⟨v10,hv10,H⟩:=bE H
   refine gU Wre o3 0 0 ?_ (hr:=by exact sF zO hv10)
   obtain⟨v11,hv11,H⟩:=bE H
   obtain⟨l12,hl12,H⟩:=bE H
   have e0:=nQ o3 (M3+2)
   refine Rt tok [] [0,3,5] (by intro K k;simp -dsimp -implicitDefEqProofs [e0,(gset hv10 _),(show((eL _ _).set 0 _)[0]? =some _ from gset hv10 _),mQ hv10,(show _[0]? =some v10 from(zG hv10).2.2),gK hv11,(zG hv11).2.2,(setx_iff.1 hl12).2.symm];exact k) fun a ha=>?_
   (try rw[<- zE hl12] at ha);(try rw[<- zE hl12])
   refine hK9 _ _ ?_;rw[ha]
   refine Rc.mk ?_
   have e0:=nQ o3 (M3+2)
   refine Rt tok [] [0,3,5] (by intro K k;simp -dsimp -implicitDefEqProofs [e0,(gset hv10 _),(show((eL _ _).set 0 _)[0]? =some _ from gset hv10 _)];exact k) fun a ha=>?_
   obtain⟨l13,hl13,H⟩:=bE H
   obtain rfl:=oi H
   refine hK7 _ _ _ rfl ?_;rw[ha]
   refine gP zH o3 0 0 ?_ (hr:=by exact gset hv10 _)
   rw[show hp E0 [(o3,some ⟨166,1,(eL zO s8).set 0 [.osl 180 2 (eL rFact l12)]⟩)] (M3+13)=hp E0 [(o3,some ⟨166,1,eL zO l13⟩)] (M3+13) from by(try rw[zE hl13]);rw[(setx_iff.1 hl13).2,<- zY];rfl];(try rw[<- zE hl13])
   exact R2 (M3+13) o3
  cases oj H
  refine zK (hO7 _ _ _ _ rfl ⟨rfl,?_⟩)
  refine kr ?_
  exact R2 (M3+2) o3
 intro x a J hx
 obtain⟨y9,rfl⟩:∃x,x=e2:=⟨_,rfl⟩
 obtain⟨rfl,b,U,hr,M4,o4,fM4_0,fM4_1,fM4_2,rfl,rfl⟩:=hx
 (try dsimp only at H)
 show K6 _ _
 refine hK6 _ _ (zH hr ?_)
 refine Rc.mk ?_
 refine Wsq [3] fun K10 hK10=>?_
 refine Wb ?_
 obtain⟨e3,hse3,H⟩:=bE H
 refine zR [0,3] (fun s a J=>∃M5 o5:Nat,N0<=M5/\N0<=o5/\o5<M5/\a=[(0,.fsl (eL rQuad p0)),(3,.sl o5 0 s.length)]/\J=hp E0 [(o5,some ⟨166,1,eL zO s⟩)] M5) (fun s x a J=>x=.exit 4/\Rc G 35 N0 (fun a J=>∃M6 o6:Nat,N0<=M6/\N0<=o6/\o6<M6/\a=[(3,.sl o6 0 s.length)]/\J=hp E0 [(o6,some ⟨166,1,eL zO s⟩)] M6) (AAct.keep a [3]) J) hse3 ?_ ?_ ?_
 .refine kp [0,3] ?_
  exact R2 M4 o4
 .clear H hse3
  rintro s14 fl a J H ⟨M5,o5,fM5_0,fM5_1,fM5_2,rfl,rfl⟩ K11 O11 hK11 hO11
  unfold mF at H;dsimp only at H
  refine Wsq [0,3] fun K12 hK12=>?_
  obtain⟨r16,hr16,H⟩:=bE H
  refine jC tok [] [0,3,33] (fun a J=>∃M7:Nat,M5+3<=M7/\r16.2.length=s14.length/\a=[(0,.fsl (eL rQuad p0)),(3,.sl o5 0 s14.length),(33,.bool r16.1)]/\J=hp E0 [(o5,some ⟨166,1,eL zO r16.2⟩)] M7) (fun K hK=>?_) ?_
  .skip
   refine m0 ?_
   refine(c170 (H:=hr16) (by simp)).mono ?_;rintro _ _ ⟨M7,fM7_0,fM7_1,rfl,rfl⟩;simp only[hpN] at fM7_0
   refine m2 @hoS @hoN ?_
   exact hK _ _ ⟨M7,(by omega),fM7_1,rfl,rfl⟩
  rintro a J ⟨M7,fM7_0,fM7_1,rfl,rfl⟩
  try rw[<- fM7_1]
  refine Ci H ?_ ?_<;>intro H
  .refine Js hK12 ?_
   refine Wb ?_
   refine Wsk ?_
   show K11 _ _
   refine kE [0,3] fun a' ha=>?_
   cases oj H
   refine hK11 _ _ _ rfl ?_;rw[ha]
   exact R2 M7 o5
  obtain rfl:=oi H
  refine zK (hO11 _ _ _ _ rfl ⟨rfl,?_⟩)
  refine kr ?_
  exact R2 M7 o5
 intro x a J hx
 obtain⟨y15,rfl⟩:∃x,x=e3:=⟨_,rfl⟩
 obtain⟨rfl,b,U,hr,M6,o6,fM6_0,fM6_1,fM6_2,rfl,rfl⟩:=hx
 (try dsimp only at H)
 show K10 _ _
 refine hK10 _ _ (zH hr ?_)
 refine Rc.mk ?_
 refine qA [2] ?_
 cases oj H;exact W4

theorem c172 {p0:gFact}{p1:Int}{r:Bool}(H:nJ p0 p1=some r):APure Tryz.prog G 172 [.agg [.int .i64 p0.Kind,.int .i64 p0.N],.int .i64 p1] (.bool r):=by
 refine qK func172 ntmps172 results172 fun N0=>?_
 unfold nJ at H
 refine S0 tok [0] [1,2] ?_
 obtain⟨g1,hg1,H⟩:=bE H
 refine qF tok [4] ([(4,.bool g1)]) (hp E0 [] (N0+12)) (by
  intro K k
  refine m0 ?_
  cases hbg1:ieq p0.Kind 1
  .cases oj (ifF hbg1 hg1)
   exact m1 hbg1 k
  cases oj (ifT hbg1 hg1)
  refine m1 hbg1 ?_
  exact k) ?_
 cases oj H;exact W4

theorem c190 {p0:List Int}{p1:Int}{r:Bool}(H:hU p0 p1=some r):APure Tryz.prog G 190 [.fsl (eL rI p0),.int .i64 p1] (.bool r):=by
 refine qK func190 ntmps190 results190 fun N0=>?_
 unfold hU at H
 refine qA [0,1] ?_
 refine Wsq [] fun K1 hK1=>?_
 refine qA [0,1,5] ?_
 refine Wb ?_
 obtain⟨e1,hse1,H⟩:=bE H
 refine zR [0,1,5] (fun s a J=>∃M1:Nat,N0<=M1/\a=[(0,.fsl (eL rI p0)),(1,.int .i64 p1),(5,.int .i64 s)]/\J=hp E0 [] M1) (fun e x a J=>match e with|.inl s=>x=.exit 0/\Rc G 18 N0 (fun a J=>∃M2:Nat,N0<=M2/\a=[]/\J=hp E0 [] M2) (AAct.keep a []) J|.inr s=>x=.ret/\∃vs,resA T J a [.tmp 4]=some vs/\∃d,thawA (fun _=>true) J d (tupA vs)=.bool s) hse1 ?_ ?_ ?_
 .refine kp [0,1,5] ?_
  exact R1 (N0+2)
 .clear H hse1
  rintro s1 fl a J H ⟨M1,fM1_0,rfl,rfl⟩ K2 O2 hK2 hO2
  unfold gT at H;dsimp only at H
  refine Wsq [0,1,5] fun K3 hK3=>?_
  refine qA [0,1,5,9] ?_
  refine Ci H ?_ ?_<;>intro H
  .refine Js hK3 ?_
   refine Wsq [0,1,5] fun K4 hK4=>?_
   refine Wb ?_
   obtain⟨v2,hv2,H⟩:=bE H
   refine qB [0,1,5,17] (ix23 hv2) ?_
   refine Ci H ?_ ?_<;>intro H
   .refine qA [4] ?_
    cases oj H
    refine Kp [4] ?_
    refine Wr (hO2 _ _ _ _ rfl ⟨rfl,?_⟩)
    exact⟨[.bool true],by simp,4,by simp[eN]⟩
   refine Js hK4 ?_
   obtain rfl:=oi H
   refine qI hK2 ?_
   exact R1 (M1+13)
  cases oj H
  refine zK (hO2 _ _ _ _ rfl ⟨rfl,?_⟩)
  refine kr ?_
  exact R1 (M1+4)
 intro x a J hx
 rcases e1 with⟨⟩|r0
 .obtain⟨rfl,b,U,hr,M2,fM2_0,rfl,rfl⟩:=hx
  (try dsimp only at H)
  show K1 _ _
  refine hK1 _ _ (zH hr ?_)
  refine Rc.mk ?_
  refine qA [4] ?_
  cases oj H;exact W4
 obtain⟨rfl,hx2⟩:=hx
 (try dsimp only at H)
 cases oj H;first|exact hx2|(simp only[List.set_set] at hx2 ⊢;exact hx2)

theorem c184 {p0:Int}{p1:List Int}{r:Bool}(H:nL p0 p1=some r):APure Tryz.prog G 184 [.int .i64 p0,.fsl (eL rI p1)] (.bool r):=by
 refine qK func184 ntmps184 results184 fun N0=>?_
 unfold nL at H
 refine qA [0,1] ?_
 obtain⟨r1,hr1,H⟩:=bE H
 refine qD [4] (c190 hr1) ?_
 cases oj H;exact W4

theorem c171 {p0:gQuad}{p1:gFact}{p2:gFact}{r:gQuad}(H:fN p0 p1 p2=some r):APure Tryz.prog G 171 [.agg [.int .i64 p0.Op,.int .i64 p0.Dst,.int .i64 p0.A,.int .i64 p0.B,.int .i64 p0.N],.agg [.int .i64 p1.Kind,.int .i64 p1.N],.agg [.int .i64 p2.Kind,.int .i64 p2.N]] (.agg [.int .i64 r.Op,.int .i64 r.Dst,.int .i64 r.A,.int .i64 r.B,.int .i64 r.N]):=by
 refine qK func171 ntmps171 results171 fun N0=>?_
 unfold fN at H
 refine S0 tok [0,1,2] [3,4,5,6] ?_
 obtain⟨r1,hr1,H⟩:=bE H
 refine qD [3,4,5,6,7] (c183 hr1) ?_
 refine Wsq [3,6] fun K1 hK1=>?_
 refine Wb ?_
 refine qA [3,4,5,6,7,12] ?_
 refine Ci H ?_ ?_<;>intro H
 .refine qA [6] ?_
  obtain rfl:=oi H
  refine Kp [6] ?_
  exact V0
 obtain⟨r2,hr2,H⟩:=bE H
 obtain⟨g4,hg4,H⟩:=bE H
 refine Su tok [5] [3,4,5,6,21] ([(3,.fptr [.int .i64 p0.Op,.int .i64 p0.Dst,.int .i64 p0.A,.int .i64 p0.B,.int .i64 p0.N] 0),(4,.fptr [.int .i64 p1.Kind,.int .i64 p1.N] 0),(5,.fptr [.int .i64 p2.Kind,.int .i64 p2.N] 0),(6,.ptr (N0+3) 0 0),(21,.bool g4)]) (hp E0 [(N0+3,some ⟨36,5,[[.int .i64 0,.int .i64 0,.int .i64 0,.int .i64 0,.int .i64 0]]⟩),(N0+8,some ⟨180,2,[[.int .i64 r1.Kind,.int .i64 r1.N]]⟩)] (N0+23)) (by
  intro K k
  refine m0 ?_
  refine(c172 hr2).app (m0 ?_)
  cases hbg4:r2
  .cases oj (ifF hbg4 hg4)
   exact m1 hbg4 k
  replace hg4:=ifT hbg4 hg4
  obtain⟨r3,hr3,hg4⟩:=bE hg4
  have q0:∀J i,bsA T 23 true i 6 [(0,.int .i64 1),(1,.int .i64 2),(2,.int .i64 6),(3,.int .i64 7),(4,.int .i64 8),(5,.int .i64 9)] J=some (.fsl (eL rI ([1,2,6,7,8,9]:List Int)),J):=fun _ _=>rfl
  cases oj hg4
  refine m2 hbg4 q0 ?_
  refine(c184 hr3).app (m2 hbg4 q0 ?_)
  exact k) ?_
 refine Ci H ?_ ?_<;>intro H
 .refine qA [6] ?_
  cases oj H
  refine Kp [6] ?_
  exact V0
 obtain⟨r5,hr5,H⟩:=bE H
 obtain⟨g7,hg7,H⟩:=bE H
 refine Su tok [5] [3,4,5,6,35] ([(3,.fptr [.int .i64 p0.Op,.int .i64 p0.Dst,.int .i64 p0.A,.int .i64 p0.B,.int .i64 p0.N] 0),(4,.fptr [.int .i64 p1.Kind,.int .i64 p1.N] 0),(5,.fptr [.int .i64 p2.Kind,.int .i64 p2.N] 0),(6,.ptr (N0+3) 0 0),(35,.bool g7)]) (hp E0 [(N0+3,some ⟨36,5,[[.int .i64 0,.int .i64 0,.int .i64 0,.int .i64 0,.int .i64 0]]⟩),(N0+8,some ⟨180,2,[[.int .i64 r1.Kind,.int .i64 r1.N]]⟩)] (N0+32)) (by
  intro K k
  refine m0 ?_
  refine(c172 hr5).app (m0 ?_)
  cases hbg7:r5
  .cases oj (ifF hbg7 hg7)
   exact m1 hbg7 k
  replace hg7:=ifT hbg7 hg7
  obtain⟨r6,hr6,hg7⟩:=bE hg7
  have q1:∀J i,bsA T 23 true i 2 [(0,.int .i64 10),(1,.int .i64 11)] J=some (.fsl (eL rI ([10,11]:List Int)),J):=fun _ _=>rfl
  cases oj hg7
  refine m2 hbg7 q1 ?_
  refine(c184 hr6).app (m2 hbg7 q1 ?_)
  exact k) ?_
 refine Ci H ?_ ?_<;>intro H
 .refine qA [6] ?_
  cases oj H
  refine Kp [6] ?_
  exact V0
 obtain⟨r8,hr8,H⟩:=bE H
 obtain⟨g10,hg10,H⟩:=bE H
 refine Su tok [5] [3,4,5,6,49] ([(3,.fptr [.int .i64 p0.Op,.int .i64 p0.Dst,.int .i64 p0.A,.int .i64 p0.B,.int .i64 p0.N] 0),(4,.fptr [.int .i64 p1.Kind,.int .i64 p1.N] 0),(5,.fptr [.int .i64 p2.Kind,.int .i64 p2.N] 0),(6,.ptr (N0+3) 0 0),(49,.bool g10)]) (hp E0 [(N0+3,some ⟨36,5,[[.int .i64 0,.int .i64 0,.int .i64 0,.int .i64 0,.int .i64 0]]⟩),(N0+8,some ⟨180,2,[[.int .i64 r1.Kind,.int .i64 r1.N]]⟩)] (N0+41)) (by
  intro K k
  refine m0 ?_
  refine(c172 hr8).app (m0 ?_)
  cases hbg10:r8
  .cases oj (ifF hbg10 hg10)
   exact m1 hbg10 k
  replace hg10:=ifT hbg10 hg10
  obtain⟨r9,hr9,hg10⟩:=bE hg10
  have q2:∀J i,bsA T 23 true i 3 [(0,.int .i64 1),(1,.int .i64 2),(2,.int .i64 8)] J=some (.fsl (eL rI ([1,2,8]:List Int)),J):=fun _ _=>rfl
  cases oj hg10
  refine m2 hbg10 q2 ?_
  refine(c184 hr9).app (m2 hbg10 q2 ?_)
  exact k) ?_
 refine Ci H ?_ ?_<;>intro H
 .refine qA [6] ?_
  cases oj H
  refine Kp [6] ?_
  exact V0
 obtain⟨r11,hr11,H⟩:=bE H
 obtain⟨g12,hg12,H⟩:=bE H
 refine qF tok [3,4,5,6,63] ([(3,.fptr [.int .i64 p0.Op,.int .i64 p0.Dst,.int .i64 p0.A,.int .i64 p0.B,.int .i64 p0.N] 0),(4,.fptr [.int .i64 p1.Kind,.int .i64 p1.N] 0),(5,.fptr [.int .i64 p2.Kind,.int .i64 p2.N] 0),(6,.ptr (N0+3) 0 0),(63,.bool g12)]) (hp E0 [(N0+3,some ⟨36,5,[[.int .i64 0,.int .i64 0,.int .i64 0,.int .i64 0,.int .i64 0]]⟩),(N0+8,some ⟨180,2,[[.int .i64 r1.Kind,.int .i64 r1.N]]⟩)] (N0+49)) (by
  intro K k
  refine m0 ?_
  refine(c172 hr11).app (m0 ?_)
  cases hbg12:r11
  .cases oj (ifF hbg12 hg12)
   exact m1 hbg12 k
  cases oj (ifT hbg12 hg12)
  refine m1 hbg12 ?_
  exact k) ?_
 refine Ci H ?_ ?_<;>intro H
 .refine qA [6] ?_
  cases oj H
  refine Kp [6] ?_
  exact V0
 obtain⟨g13,hg13,H⟩:=bE H
 obtain⟨g15,hg15,H⟩:=bE H
 refine Su tok [9] [3,6,76] ([(3,.fptr [.int .i64 p0.Op,.int .i64 p0.Dst,.int .i64 p0.A,.int .i64 p0.B,.int .i64 p0.N] 0),(6,.ptr (N0+3) 0 0),(76,.bool g15)]) (hp E0 [(N0+3,some ⟨36,5,[[.int .i64 0,.int .i64 0,.int .i64 0,.int .i64 0,.int .i64 0]]⟩),(N0+8,some ⟨180,2,[[.int .i64 r1.Kind,.int .i64 r1.N]]⟩)] (N0+62)) (by
  intro K k
  refine m0 ?_
  refine(c172 hr8).app (m0 ?_)
  cases hbg13:r8
  .cases oj (ifF hbg13 hg13)
   refine m1 hbg13 ?_
   refine(c172 hr2).app (m1 hbg13 ?_)
   cases hbg15:r2
   .cases oj (ifF hbg15 hg15)
    exact m2 hbg13 hbg15 k
   replace hg15:=ifT hbg15 hg15
   obtain⟨r14,hr14,hg15⟩:=bE hg15
   have q3:∀J i,bsA T 23 true i 2 [(0,.int .i64 3),(1,.int .i64 10)] J=some (.fsl (eL rI ([3,10]:List Int)),J):=fun _ _=>rfl
   cases oj hg15
   refine m1 (j hbg13 (j hbg15 q3)) ?_
   refine(c184 hr14).app (m1 (j hbg13 (j hbg15 q3)) ?_)
   exact k
  cases oj (ifT hbg13 hg13)
  refine m1 hbg13 ?_
  replace hg15:=ifT rfl hg15
  obtain⟨r14,hr14,hg15⟩:=bE hg15
  have q3:∀J i,bsA T 23 true i 2 [(0,.int .i64 3),(1,.int .i64 10)] J=some (.fsl (eL rI ([3,10]:List Int)),J):=fun _ _=>rfl
  cases oj hg15
  refine m2 hbg13 q3 ?_
  refine(c184 hr14).app (m2 hbg13 q3 ?_)
  exact k) ?_
 refine Ci H ?_ ?_<;>intro H
 .refine qA [6] ?_
  cases oj H
  refine Kp [6] ?_
  exact V0
 refine Js hK1 ?_
 refine qA [6] ?_
 cases oj H
 refine Kp [6] ?_
 exact V0

theorem c152 {p0:gQuad}{p1:List gFact}{p2:Int}{r:gQuad}(H:oU p0 p1 p2=some r):APure Tryz.prog G 152 [.agg [.int .i64 p0.Op,.int .i64 p0.Dst,.int .i64 p0.A,.int .i64 p0.B,.int .i64 p0.N],.fsl (eL rFact p1),.int .i64 p2] (.agg [.int .i64 r.Op,.int .i64 r.Dst,.int .i64 r.A,.int .i64 r.B,.int .i64 r.N]):=by
 refine qK func152 ntmps152 results152 fun N0=>?_
 unfold oU at H
 refine S0 tok [0] [1,2,3,6] ?_
 refine Wsq [1,2,3,6] fun K1 hK1=>?_
 obtain⟨v1,hv1,H⟩:=bE H
 refine qB [1,2,3,6,11] (ix166 hv1) ?_
 refine Ci H ?_ ?_<;>intro H
 .refine qA [6] ?_
  cases oj H
  refine Kp [6] ?_
  exact V0
 refine Js hK1 ?_
 refine Wsq [3,6] fun K2 hK2=>?_
 refine qA [1,2,3,6,14] ?_
 refine Wb ?_
 refine qA [1,2,3,6,14,15] ?_
 refine Ci H ?_ ?_<;>intro H
 .obtain⟨v2,hv2,H⟩:=bE H
  refine qB [1,3,6,23] (ix166 hv2) ?_
  refine Ci H ?_ ?_<;>intro H
  .refine Sd tok tokM [] [9] [0,1,2,3,4,5,6,7,8,9] [6] (by
    intro K k
    simp only[pickL,zJ,zL]
    refine m1 (ix166 hv2) ?_
    exact k) ?_
   obtain rfl:=oi H
   refine Kp [6] ?_
   exact V0
  refine Js hK2 ?_
  refine qA [6] ?_
  cases oj H
  refine Kp [6] ?_
  exact V0
 refine qA [1,2,3,6,14,33] ?_
 refine Ci H ?_ ?_<;>intro H
 .obtain⟨v3,hv3,H⟩:=bE H
  obtain⟨v4,hv4,H⟩:=bE H
  obtain⟨r5,hr5,H⟩:=bE H
  refine Sd tok tokM [] [12] [0,1,2,3,4,5,6,7,8,9,10,11,12] [6] (by
   intro K k
   simp only[pickL,zJ,zL]
   repeat first|simp -dsimp -implicitDefEqProofs [ix166 hv3,ix166 hv4]|refine Pc.mk (c171 hr5) ?_
   exact k) ?_
  obtain rfl:=oi H
  refine Kp [6] ?_
  exact V0
 refine qA [1,2,3,6,47] ?_
 refine Ci H ?_ ?_<;>intro H
 .refine Wsq [1,2,3,6] fun K3 hK3=>?_
  obtain⟨v6,hv6,H⟩:=bE H
  obtain⟨r7,hr7,H⟩:=bE H
  refine qE [1,2,3,6,54] (ix166 hv6) (c172 hr7) ?_
  refine Ci H ?_ ?_<;>intro H
  .refine qA [6] ?_
   cases oj H
   refine Kp [6] ?_
   exact V0
  refine Js hK3 ?_
  refine qB [2,3,6,64] (ix166 hv6) ?_
  refine Ci H ?_ ?_<;>intro H
  .refine qA [6] ?_
   cases oj H
   refine Kp [6] ?_
   exact V0
  refine Js hK2 ?_
  refine qA [6] ?_
  cases oj H
  refine Kp [6] ?_
  exact V0
 refine Js hK2 ?_
 refine qA [6] ?_
 cases oj H
 refine Kp [6] ?_
 exact V0

theorem c130 {p0:List gQuad}{r:(List gQuad)×Bool}(H:pI p0=some r):APure Tryz.prog G 130 [.fsl (eL rQuad p0)] (.tup [.fsl (eL rQuad r.1),.bool r.2]):=by
 refine qK func130 ntmps130 results130 fun N0=>?_
 unfold pI at H
 refine qA [0] ?_
 have q0:∀J i,bsA T 34 true i 0 [] J=some (.esl,J):=fun _ _=>rfl
 refine Sy tok [0] [0,4] q0 ?_
 refine Wsq [0,4] fun K1 hK1=>?_
 obtain⟨r1,hr1,H⟩:=bE H
 refine qD [0,4,10] (c103 hr1) ?_
 refine Ci H ?_ ?_<;>intro H
 .refine qA [2,3] ?_
  cases oj H;exact W4
 refine Js hK1 ?_
 obtain⟨r2,hr2,H⟩:=bE H
 refine qD [0,4,5] (c151 hr2) ?_
 refine Wsq [4] fun K2 hK2=>?_
 refine qA [0,4,5,6] ?_
 refine Wb ?_
 obtain⟨e1,hse1,H⟩:=bE H
 refine zR [0,4,5,6] (fun s a J=>∃M1 o1:Nat,N0<=M1/\N0<=o1/\o1<M1/\a=[(0,.fsl (eL rQuad p0)),(4,.sl o1 0 s.2.length),(5,.fsl (eL kR r2)),(6,.int .i64 s.1)]/\J=hp E0 [(o1,some ⟨36,5,eL rQuad s.2⟩)] M1) (fun s x a J=>x=.exit 0/\Rc G 34 N0 (fun a J=>∃M2 o2:Nat,N0<=M2/\N0<=o2/\o2<M2/\a=[(4,.sl o2 0 s.length)]/\J=hp E0 [(o2,some ⟨36,5,eL rQuad s⟩)] M2) (AAct.keep a [4]) J) hse1 ?_ ?_ ?_
 .refine kp [0,4,5,6] ?_
  refine gNilS zH 4 36 5 [(N0+11,some ⟨36,5,eL rQuad ([]:List gQuad)⟩)] [(0,.fsl (eL rQuad p0)),(4,.sl (N0+11) 0 ([]:List gQuad).length),(5,.fsl (eL kR r2)),(6,.int .i64 0)] (by simp(disch:=omega)) (by simp(disch:=omega) [eN]) [0,4,5,6] rfl ?_
  exact R2 (N0+12) (N0+11)
 .clear H hse1
  rintro⟨s3,s4⟩ fl a J H ⟨M1,o1,fM1_0,fM1_1,fM1_2,rfl,rfl⟩ K3 O3 hK3 hO3
  unfold uS at H;dsimp only at H
  refine Wsq [0,4,5,6] fun K4 hK4=>?_
  refine qA [0,4,5,6,17] ?_
  refine Ci H ?_ ?_<;>intro H
  .refine Js hK4 ?_
   refine Wsq [0,4,5,6] fun K5 hK5=>?_
   refine Wb ?_
   obtain⟨v6,hv6,H⟩:=bE H
   obtain⟨v7,hv7,H⟩:=bE H
   obtain⟨r8,hr8,H⟩:=bE H
   obtain⟨l9,hl9,H⟩:=bE H
   have q1:∀J i,bsA T 34 true i 1 [(0,.agg [.int .i64 r8.Op,.int .i64 r8.Dst,.int .i64 r8.A,.int .i64 r8.B,.int .i64 r8.N])] J=some (.fsl (eL rQuad ([r8]:List gQuad)),J):=fun _ _=>rfl
   refine oF tok tokM [11] [12] [0,1,2,3,4,5,6,7,8,9,10,11,12,13] [0,4,5,6] (fun a J=>a=[(0,.fsl (eL rQuad p0)),(4,.sl (M1+16) 0 l9.length),(5,.fsl (eL kR r2)),(6,.int .i64 s3)]/\J=hp E0 [(M1+16,some ⟨36,5,eL rQuad l9⟩)] (M1+18)) (by decide) (fun K hK=>?_) ?_
   .simp only[pickL,zJ,zL]
    have e0:=nQ o1 (M1+16)
    refine m1 (j e0 (j (ix34 hv6) (j (ix163 hv7) (j q1 (app34 hl9))))) ?_
    refine Pc.mk (c152 hr8) (m1 (j e0 (j (ix34 hv6) (j (ix163 hv7) (j q1 (app34 hl9))))) ?_)
    exact hK _ _ ⟨rfl,rfl⟩
   rintro a J ⟨ha,rfl⟩
   refine hK5 _ _ ?_;rw[ha]
   refine Rc.mk ?_
   obtain rfl:=oi H
   refine qI hK3 ?_
   exact R2 (M1+21) (M1+16)
  cases oj H
  refine zK (hO3 _ _ _ _ rfl ⟨rfl,?_⟩)
  refine kr ?_
  exact R2 (M1+4) o1
 intro x a J hx
 obtain⟨y5,rfl⟩:∃x,x=e1:=⟨_,rfl⟩
 obtain⟨rfl,b,U,hr,M2,o2,fM2_0,fM2_1,fM2_2,rfl,rfl⟩:=hx
 (try dsimp only at H)
 show K2 _ _
 refine hK2 _ _ (zH hr ?_)
 refine Rc.mk ?_
 refine qA [2,3] ?_
 cases oj H;exact W4

theorem c191 {p0:gQuad}{r:Int}(H:xQ p0=some r):APure Tryz.prog G 191 [.agg [.int .i64 p0.Op,.int .i64 p0.Dst,.int .i64 p0.A,.int .i64 p0.B,.int .i64 p0.N]] (.int .i64 r):=by
 refine qK func191 ntmps191 results191 fun N0=>?_
 unfold xQ at H
 refine S0 tok [0] [1] ?_
 refine Wsq [1] fun K1 hK1=>?_
 obtain⟨r1,hr1,H⟩:=bE H
 refine qD [1,5] (c119 hr1) ?_
 refine Ci H ?_ ?_<;>intro H
 .refine qA [2] ?_
  cases oj H;exact W4
 refine Js hK1 ?_
 refine Wsq [] fun K2 hK2=>?_
 refine qA [1,7] ?_
 refine Wb ?_
 obtain⟨j1,hj1,H⟩:=bE H
 refine kP (kN fun K3 hK3=>?_)
 have hJ1:∀a J,Rc G 15 N0 (fun a J=>∃M1:Nat,N0<=M1/\a=[(1,.fptr [.int .i64 p0.Op,.int .i64 p0.Dst,.int .i64 p0.A,.int .i64 p0.B,.int .i64 p0.N] 0),(8,.bool j1)]/\J=hp E0 [] M1) (a.keep [1,8]) J->K3 a J:=by
  rintro a J ⟨b,U,hr,M1,fM1_0,rfl,rfl⟩
  refine hK3 _ _ (kG [1,8] (Wre hr ?_))
  refine Ci H ?_ ?_<;>intro H
  .refine qA [2] ?_
   cases oj H;exact W4
  refine Js hK2 ?_
  refine qA [2] ?_
  cases oj H;exact W4
 replace H:=hj1
 refine qA [1,7,8] ?_
 refine Ci H ?_ ?_<;>intro H
 .refine Wsk ?_
  show K3 _ _
  refine kE [1,8] fun a' ha=>?_
  cases oj H
  refine hJ1 _ _ ?_;rw[ha]
  exact R1 (N0+9)
 refine qA [1,7,8] ?_
 refine Ci H ?_ ?_<;>intro H
 .refine Wsk ?_
  show K3 _ _
  refine kE [1,8] fun a' ha=>?_
  cases oj H
  refine hJ1 _ _ ?_;rw[ha]
  exact R1 (N0+11)
 refine qA [1,7,8] ?_
 refine Ci H ?_ ?_<;>intro H
 .refine Wsk ?_
  show K3 _ _
  refine kE [1,8] fun a' ha=>?_
  cases oj H
  refine hJ1 _ _ ?_;rw[ha]
  exact R1 (N0+13)
 refine Rt0 tok [] [1,8] fun a ha=>?_
 cases oj H
 refine hJ1 _ _ ?_;rw[ha]
 exact R1 (N0+15)

theorem c186 {p0:(List (List Int))}{p1:Int}{p2:List Int}{r:Bool×(List (List Int))}(H:qU p0 p1 p2=some r){J:AHeap}{w0:Nat}(q0:J.objs w0=some ⟨23,1,eL zW p0⟩):ACalls Tryz.prog G 186 [.sl w0 0 p0.length,.int .i64 p1,.fsl (eL rI p2)] J (fun v J'=>∃M:Nat,J.next<=M/\r.2.length=p0.length/\v=.bool r.1/\J'=hp J.objs [(w0,some ⟨23,1,eL zW r.2⟩)] M):=by
 refine xG (L:=[(w0,some ⟨23,1,eL zW p0⟩)]) (Q1:=fun v J'=>∃M:Nat,J.next<=M/\r.2.length=p0.length/\v=.bool r.1/\J'=hp E0 [(w0,some ⟨23,1,eL zW r.2⟩)] M) (by simp[q0]) (fun hlt=>?_) ?_ ⟨_,func186,rfl,rfl⟩
 rotate_left
 .rintro v J1 ⟨M,h0,h1,rfl,rfl⟩
  exact⟨_,M,rfl,by simp,by simp;try omega,M,h0,h1,rfl,rfl⟩
 generalize J.next=N0 at hlt ⊢
 have lw0:w0<N0:=hlt _ (.head _) rfl
 refine fnK tok func186 ntmps186 results186 ?_
 simp only[argsA,Nat.reduceAdd,hpN]
 unfold qU at H
 refine qA [0,1,2] ?_
 refine Wsq [0,1,2] fun K1 hK1=>?_
 obtain⟨v1,hv1,H⟩:=bE H
 refine gU Wre w0 p1.toNat 0 ?_ (hr:=by exact sF zW hv1)
 have e0:=nQ w0 (N0+1)
 refine qB [0,1,2,14] (j e0 (j (gSt hv1) (j (ixo86 hv1) ((zG hv1).2.2)))) ?_
 refine Ci H ?_ ?_<;>intro H
 .obtain⟨l2,hl2,H⟩:=bE H
  have q0:∀J i,bsA T 23 true i 0 [] J=some (.esl,J):=fun _ _=>rfl
  have e0:=nQ w0 (N0+1)
  have e1:=nQ w0 (N0+12)
  refine Sy tok [2] [] (j e0 (j e1 (j (gSt hv1) (j q0 (j (sP hl2) (j (ixo86 hv1) ((zG hv1).2.2))))))) ?_
  have e0:=nQ w0 (N0+1)
  have e1:=nQ w0 (N0+12)
  refine qB [6] (j e0 (j e1 (gSt hv1))) ?_
  obtain⟨l3,hl3,H⟩:=bE H
  obtain rfl:=oi H
  refine Kp [6] ?_
  refine gP Wre w0 p1.toNat 0 ?_ (hr:=by exact gset hv1 _)
  rw[show hp E0 [(w0,some ⟨23,1,(eL zW p0).set p1.toNat [.osl 3 1 (eL rI l2)]⟩),(N0+1,some ⟨3,1,eL rI v1⟩)] (N0+16)=hp E0 [(w0,some ⟨23,1,eL zW l3⟩),(N0+1,some ⟨3,1,eL rI v1⟩)] (N0+16) from by(try rw[zE hl3]);rw[(setx_iff.1 hl3).2,<- zY];rfl];(try rw[<- zE hl3])
  have z0:=nQ w0 (N0+1)
  refine gDrop Wre [(w0,some ⟨23,1,eL zW l3⟩)] (zM (AHeap.Sub.trans (AHeap.Sub.refl _) (zU rfl (by simp;try omega)))) ?_
  refine Wr ?_
  refine⟨[.bool true],by simp[z0],N0+16,by omega,by first|rfl|exact(zE hl3)|omega,?_,?_⟩
  .simp[eN]
  first|rfl|simp
 refine Js hK1 ?_
 have e0:=nQ w0 (N0+1)
 refine qC [0,1,2,7] e0 (gSt hv1) ?_
 refine Wsq [7] fun K2 hK2=>?_
 have e0:=nQ w0 (N0+1)
 refine qC [0,1,2,7,8] e0 (gSt hv1) ?_
 refine Wb ?_
 obtain⟨l4,hl4,H⟩:=bE H
 obtain⟨e1,hse1,H⟩:=bE H
 refine zR [0,1,2,7,8] (fun s a J=>∃M1:Nat,N0<=M1/\s.2.2.length=p0.length/\a=[(0,.sl w0 0 s.2.2.length),(1,.int .i64 p1),(2,.fsl (eL rI p2)),(7,.bool s.1),(8,.int .i64 s.2.1)]/\J=hp E0 [(w0,some ⟨23,1,eL zW s.2.2⟩)] M1) (fun s x a J=>x=.exit 0/\Rc G 56 N0 (fun a J=>∃M2:Nat,N0<=M2/\s.2.length=p0.length/\a=[(7,.bool s.1)]/\J=hp E0 [(w0,some ⟨23,1,eL zW s.2⟩)] M2) (AAct.keep a [7]) J) hse1 ?_ ?_ ?_
 .refine kp [0,1,2,7,8] ?_
  refine gP zH w0 p1.toNat 0 ?_ (hr:=by exact gset hv1 _)
  rw[show hp E0 [(w0,some ⟨23,1,(eL zW p0).set p1.toNat [.osl 3 1 (eL rI v1)]⟩)] (N0+10)=hp E0 [(w0,some ⟨23,1,eL zW l4⟩)] (N0+10) from by(try rw[zE hl4]);rw[(setx_iff.1 hl4).2,<- zY];rfl];(try rw[<- zE hl4])
  exact Rf ⟨N0+10,(by omega),(by first|rfl|exact(zE hl4)|omega),rfl,rfl⟩
 .clear H hse1
  rintro⟨s5,s6,s7⟩ fl a J H ⟨M1,fM1_0,fM1_1,rfl,rfl⟩ K3 O3 hK3 hO3
  unfold nG at H;dsimp only at H
  refine Wsq [0,1,2,7,8] fun K4 hK4=>?_
  refine qA [0,1,2,7,8,22] ?_
  refine Ci H ?_ ?_<;>intro H
  .refine Js hK4 ?_
   refine Wsq [0,1,2,7,8] fun K5 hK5=>?_
   refine Wb ?_
   obtain⟨v10,hv10,H⟩:=bE H
   refine gU Wre w0 p1.toNat 0 ?_ (hr:=by exact sF zW hv10)
   obtain⟨v11,hv11,H⟩:=bE H
   obtain⟨g13,hg13,H⟩:=bE H
   refine gO tok tokM [] [2,3,5,6,12,13,15,16] [0,1,4,7,2,3,5,6,8,9,10,11,14,17,18,19,20,12,13,15,16,21,22] [0,1,2,7,8,47] (fun a J=>a=[(0,.sl w0 0 s7.length),(1,.int .i64 p1),(2,.fsl (eL rI p2)),(7,.bool s5),(8,.int .i64 s6),(47,.bool g13)]/\J=hp E0 [(w0,some ⟨23,1,(eL zW s7).set p1.toNat [.sl (M1+2) 0 v10.length]⟩),(M1+2,some ⟨3,1,eL rI v10⟩)] (M1+26)) (by decide) (fun K hK=>?_) ?_
   .simp only[pickL,zJ,zL]
    have e0:=nQ w0 (M1+2)
    refine m1 (j e0 (j (gSt hv10) (j (ixo86 hv10) (j ((zG hv10).2.2) (j (ixo23 hv11) ((zG hv11).2.2)))))) ?_
    cases hbg13:ine v11 s6
    .cases oj (ifF hbg13 hg13)
     refine m1 (j e0 (j (gSt hv10) (j (ixo86 hv10) (j ((zG hv10).2.2) (j (ixo23 hv11) (j ((zG hv11).2.2) hbg13)))))) ?_
     exact hK _ _ ⟨rfl,rfl⟩
    replace hg13:=ifT hbg13 hg13
    obtain⟨v12,hv12,hg13⟩:=bE hg13
    cases oj hg13
    refine m1 (j e0 (j (gSt hv10) (j (ixo86 hv10) (j ((zG hv10).2.2) (j (ixo23 hv11) (j ((zG hv11).2.2) (j hbg13 (ix23 hv12)))))))) ?_
    exact hK _ _ ⟨rfl,rfl⟩
   rintro a J ⟨rfl,rfl⟩
   refine Ci H ?_ ?_<;>intro H
   .obtain⟨l14,hl14,H⟩:=bE H
    have e0:=nQ w0 (M1+2)
    refine qB [0,1,2,8] (j e0 (j (gSt hv10) (j (ixo86 hv10) (j ((zG hv10).2.2) (j (ixo23 hv11) (j ((zG hv11).2.2) ((setx_iff.1 hl14).2.symm))))))) ?_
    try rw[<- zE hl14]
    have e0:=nQ w0 (M1+2)
    refine qH (j e0 (gSt hv10)) hK5 ?_
    have e0:=nQ w0 (M1+2)
    refine Rt tok [] [0,1,2,7,8] (by intro K k;simp -dsimp -implicitDefEqProofs [e0,(gset hv10 _)];exact k) fun a ha=>?_
    obtain⟨l15,hl15,H⟩:=bE H
    obtain rfl:=oi H
    refine hK3 _ _ _ rfl ?_;rw[ha]
    refine gP zH w0 p1.toNat 0 ?_ (hr:=by exact gset hv10 _)
    rw[show hp E0 [(w0,some ⟨23,1,(eL zW s7).set p1.toNat [.osl 3 1 (eL rI l14)]⟩)] (M1+38)=hp E0 [(w0,some ⟨23,1,eL zW l15⟩)] (M1+38) from by(try rw[zE hl15]);rw[(setx_iff.1 hl15).2,<- zY];rfl];(try rw[<- zE hl15])
    exact Rf ⟨M1+38,(by omega),(by first|rfl|exact((zE hl15).trans fM1_1)|omega),rfl,rfl⟩
   refine Js hK5 ?_
   have e0:=nQ w0 (M1+2)
   refine Rt tok [] [0,1,2,7,8] (by intro K k;simp -dsimp -implicitDefEqProofs [e0,(gset hv10 _)];exact k) fun a ha=>?_
   obtain⟨l16,hl16,H⟩:=bE H
   obtain rfl:=oi H
   refine hK3 _ _ _ rfl ?_;rw[ha]
   refine gP zH w0 p1.toNat 0 ?_ (hr:=by exact gset hv10 _)
   rw[show hp E0 [(w0,some ⟨23,1,(eL zW s7).set p1.toNat [.osl 3 1 (eL rI v10)]⟩)] (M1+29)=hp E0 [(w0,some ⟨23,1,eL zW l16⟩)] (M1+29) from by(try rw[zE hl16]);rw[(setx_iff.1 hl16).2,<- zY];rfl];(try rw[<- zE hl16])
   exact Rf ⟨M1+29,(by omega),(by first|rfl|exact((zE hl16).trans fM1_1)|omega),rfl,rfl⟩
  cases oj H
  refine zK (hO3 _ _ _ _ rfl ⟨rfl,?_⟩)
  refine kr ?_
  exact Rf ⟨M1+2,(by omega),(by first|rfl|exact fM1_1|omega),rfl,rfl⟩
 intro x a J hx
 obtain⟨y8,y9⟩:=e1
 obtain⟨rfl,b,U,hr,M2,fM2_0,fM2_1,rfl,rfl⟩:=hx
 (try dsimp only at H)
 show K2 _ _
 refine hK2 _ _ (zH hr ?_)
 refine Rc.mk ?_
 refine qA [6] ?_
 obtain rfl:=oi H
 refine Kp [6] ?_
 refine Wr ?_
 refine⟨[.bool y8],by simp,M2+2,by omega,by first|rfl|exact fM2_1|omega,?_,?_⟩
 .simp[eN]
 first|rfl|simp

theorem c185_o {p0:gQuad}{p1:List Int}{r:List Int}(H:vQ p0 p1=some r){J:AHeap}:ACalls Tryz.prog G 185 [.agg [.int .i64 p0.Op,.int .i64 p0.Dst,.int .i64 p0.A,.int .i64 p0.B,.int .i64 p0.N],.fsl (eL rI p1)] J (fun v J'=>∃M n0:Nat,J.next<=M/\J.next<=n0/\n0<M/\v=.sl n0 0 r.length/\J'=hp J.objs [(n0,some ⟨3,1,eL rI r⟩)] M):=by
 refine fr2 [] (by simp) (fun hlt=>?_) ⟨_,func185,rfl,rfl⟩
 generalize J.next=N0 at hlt ⊢
 refine fnK tok func185 ntmps185 results185 ?_
 simp only[argsA,Nat.reduceAdd,hpN]
 unfold vQ at H
 refine S0 tok [0] [1,2] ?_
 obtain⟨l1,hl1,H⟩:=bE H
 have q0:∀J i,bsA T 23 true i 0 [] J=some (.esl,J):=fun _ _=>rfl
 refine Sz tok [0] [2,5] q0 (sP hl1) ?_
 obtain⟨r2,hr2,H⟩:=bE H
 refine qD [2,5,6] (c191 hr2) ?_
 refine Wsq [2,5,6] fun K1 hK1=>?_
 refine qA [2,5,6,14] ?_
 refine Ci H ?_ ?_<;>intro H
 .refine qA [4] ?_
  obtain rfl:=oi H
  refine Kp [4] ?_
  exact V2 j0 (N0+13) (N0+4)
 refine Js hK1 ?_
 refine Wsq [2,5,6] fun K2 hK2=>?_
 refine qA [2,5,6,7] ?_
 refine Wb ?_
 obtain⟨e1,hse1,H⟩:=bE H
 refine zR [2,5,6,7] (fun s a J=>∃M1 o1:Nat,N0<=M1/\N0<=o1/\o1<M1/\a=[(2,.fptr [.int .i64 p0.Op,.int .i64 p0.Dst,.int .i64 p0.A,.int .i64 p0.B,.int .i64 p0.N] 0),(5,.sl o1 0 s.2.length),(6,.int .i64 r2),(7,.int .i64 s.1)]/\J=hp E0 [(o1,some ⟨3,1,eL rI s.2⟩)] M1) (fun s x a J=>x=.exit 0/\Rc G 43 N0 (fun a J=>∃M2 o2:Nat,N0<=M2/\N0<=o2/\o2<M2/\a=[(2,.fptr [.int .i64 p0.Op,.int .i64 p0.Dst,.int .i64 p0.A,.int .i64 p0.B,.int .i64 p0.N] 0),(5,.sl o2 0 s.length),(6,.int .i64 r2)]/\J=hp E0 [(o2,some ⟨3,1,eL rI s⟩)] M2) (AAct.keep a [2,5,6]) J) hse1 ?_ ?_ ?_
 .refine kp [2,5,6,7] ?_
  exact R2 (N0+12) (N0+4)
 .clear H hse1
  rintro⟨s3,s4⟩ fl a J H ⟨M1,o1,fM1_0,fM1_1,fM1_2,rfl,rfl⟩ K3 O3 hK3 hO3
  unfold oS at H;dsimp only at H
  refine Wsq [2,5,6,7] fun K4 hK4=>?_
  refine qA [2,5,6,7,17] ?_
  refine Ci H ?_ ?_<;>intro H
  .refine Js hK4 ?_
   refine Wsq [2,5,6,7] fun K5 hK5=>?_
   refine Wb ?_
   obtain⟨v6,hv6,H⟩:=bE H
   refine qC [2,5,6,7,25] (ixo23 hv6) ((zG hv6).2.2) ?_
   refine Ci H ?_ ?_<;>intro H
   .obtain⟨l7,hl7,H⟩:=bE H
    refine Rt tok [] [2,5,6,7] (by intro K k;simp -dsimp -implicitDefEqProofs [ixo23 hv6,(zG hv6).2.2,(setx_iff.1 hl7).2.symm];exact k) fun a ha=>?_
    (try rw[<- zE hl7] at ha);(try rw[<- zE hl7])
    refine hK5 _ _ ?_;rw[ha]
    refine Rc.mk ?_
    obtain rfl:=oi H
    refine qI hK3 ?_
    exact R2 (M1+16) o1
   refine Js hK5 ?_
   obtain rfl:=oi H
   refine qI hK3 ?_
   exact R2 (M1+11) o1
  obtain rfl:=oi H
  refine zK (hO3 _ _ _ _ rfl ⟨rfl,?_⟩)
  refine kr ?_
  exact R2 (M1+2) o1
 intro x a J hx
 obtain⟨y5,rfl⟩:∃x,x=e1:=⟨_,rfl⟩
 obtain⟨rfl,b,U,hr,M2,o2,fM2_0,fM2_1,fM2_2,rfl,rfl⟩:=hx
 (try dsimp only at H)
 show K2 _ _
 refine hK2 _ _ (zH hr ?_)
 refine Rc.mk ?_
 obtain⟨v8,hv8,H⟩:=bE H
 obtain⟨l9,hl9,H⟩:=bE H
 refine qB [2,5,6] (j (ixo23 hv8) (j ((zG hv8).2.2) ((setx_iff.1 hl9).2.symm))) ?_
 try rw[<- zE hl9]
 refine Wsq [5] fun K6 hK6=>?_
 refine qA [2,5,6,36] ?_
 refine Ci H ?_ ?_<;>intro H
 .obtain⟨v10,hv10,H⟩:=bE H
  obtain⟨l11,hl11,H⟩:=bE H
  refine Rt tok [] [5] (by intro K k;simp -dsimp -implicitDefEqProofs [ixo23 hv10,(zG hv10).2.2,(setx_iff.1 hl11).2.symm];exact k) fun a ha=>?_
  (try rw[<- zE hl11] at ha);(try rw[<- zE hl11])
  refine hK6 _ _ ?_;rw[ha]
  refine Rc.mk ?_
  refine qA [4] ?_
  obtain rfl:=oi H
  refine Kp [4] ?_
  exact V2 j0 (M2+16) o2
 refine Js hK6 ?_
 refine qA [4] ?_
 obtain rfl:=oi H
 refine Kp [4] ?_
 exact V2 j0 (M2+10) o2

theorem c185_o_b {p0:gQuad}{p1:List Int}{r:List Int}(H:vQ p0 p1=some r){J:AHeap}{args:List AV}(hy:args.map (thawA (fun _=>true) J 8)=[.agg [.int .i64 p0.Op,.int .i64 p0.Dst,.int .i64 p0.A,.int .i64 p0.B,.int .i64 p0.N],.fsl (eL rI p1)]):ACalls Tryz.prog G 185 args J (fun v J'=>∃M n0:Nat,J.next<=M/\J.next<=n0/\n0<M/\v=.sl n0 0 r.length/\J'=hp J.objs [(n0,some ⟨3,1,eL rI r⟩)] M):=by
 refine borrowQ 8 8 (c185_o (J:=⟨E0,J.next⟩) H) hy ?_
 rintro _ _ ⟨M,n0,h0,h1,h2,rfl,rfl⟩
 refine⟨_,M,rfl,by simp[AV.rnf,AV.simp1],fun p hp ob ho=>?_,by simp,M,n0,h0,h1,h2,rfl,rfl⟩
 simp only[List.mem_cons,List.not_mem_nil,or_false] at hp
 rcases hp with rfl<;>(cases ho;first|exact encL_nf (fun x=>nf_rI 7 x) _|simp[AV.nf,AV.simp1])

theorem c174 {p0:List gQuad}{p1:(List (List Int))}{r:Bool×(List (List Int))}(H:qT p0 p1=some r){J:AHeap}{w1:Nat}(q1:J.objs w1=some ⟨23,1,eL zW p1⟩):ACalls Tryz.prog G 174 [.fsl (eL rQuad p0),.sl w1 0 p1.length] J (fun v J'=>∃M:Nat,J.next<=M/\r.2.length=p1.length/\v=.bool r.1/\J'=hp J.objs [(w1,some ⟨23,1,eL zW r.2⟩)] M):=by
 refine xG (L:=[(w1,some ⟨23,1,eL zW p1⟩)]) (Q1:=fun v J'=>∃M:Nat,J.next<=M/\r.2.length=p1.length/\v=.bool r.1/\J'=hp E0 [(w1,some ⟨23,1,eL zW r.2⟩)] M) (by simp[q1]) (fun hlt=>?_) ?_ ⟨_,func174,rfl,rfl⟩
 rotate_left
 .rintro v J1 ⟨M,h0,h1,rfl,rfl⟩
  exact⟨_,M,rfl,by simp,by simp;try omega,M,h0,h1,rfl,rfl⟩
 generalize J.next=N0 at hlt ⊢
 have lw1:w1<N0:=hlt _ (.head _) rfl
 refine fnK tok func174 ntmps174 results174 ?_
 simp only[argsA,Nat.reduceAdd,hpN]
 unfold qT at H
 refine qA [0,1] ?_
 refine qA [0,1,5] ?_
 refine Wsq [5] fun K1 hK1=>?_
 refine qA [0,1,5,6] ?_
 refine Wb ?_
 obtain⟨e2,hse2,H⟩:=bE H
 refine zR [0,1,5,6] (fun s a J=>∃M1:Nat,N0<=M1/\s.2.2.length=p1.length/\a=[(0,.fsl (eL rQuad p0)),(1,.sl w1 0 s.2.2.length),(5,.bool s.1),(6,.int .i64 s.2.1)]/\J=hp E0 [(w1,some ⟨23,1,eL zW s.2.2⟩)] M1) (fun s x a J=>x=.exit 0/\Rc G 48 N0 (fun a J=>∃M2:Nat,N0<=M2/\s.2.length=p1.length/\a=[(5,.bool s.1)]/\J=hp E0 [(w1,some ⟨23,1,eL zW s.2⟩)] M2) (AAct.keep a [5]) J) hse2 ?_ ?_ ?_
 .refine kp [0,1,5,6] ?_
  exact Rf ⟨N0+3,(by omega),(by first|rfl|exact rfl|omega),rfl,rfl⟩
 .clear H hse2
  rintro⟨s1,s2,s3⟩ fl a J H ⟨M1,fM1_0,fM1_1,rfl,rfl⟩ K2 O2 hK2 hO2
  unfold nF at H;dsimp only at H
  refine Wsq [0,1,5,6] fun K3 hK3=>?_
  refine qA [0,1,5,6,13] ?_
  refine Ci H ?_ ?_<;>intro H
  .refine Js hK3 ?_
   refine Wsq [0,1,5,6] fun K4 hK4=>?_
   refine Wb ?_
   refine Wsq [0,1,5,6] fun K5 hK5=>?_
   obtain⟨v6,hv6,H⟩:=bE H
   refine gU Wre w1 s2.toNat 0 ?_ (hr:=by exact sF zW hv6)
   have e0:=nQ w1 (M1+4)
   refine qB [0,1,5,6,21] (j e0 (j (gSt hv6) (j (ixo86 hv6) ((zG hv6).2.2)))) ?_
   refine Ci H ?_ ?_<;>intro H
   .refine zK ?_
    show K4 _ _
    refine kE [0,1,5,6] fun a' ha=>?_
    refine hK4 _ _ ?_;rw[ha]
    refine Rc.mk ?_
    have e0:=nQ w1 (M1+4)
    refine Rt tok [] [0,1,5,6] (by intro K k;simp -dsimp -implicitDefEqProofs [e0,(gset hv6 _)];exact k) fun a ha=>?_
    obtain⟨l7,hl7,H⟩:=bE H
    obtain rfl:=oi H
    refine hK2 _ _ _ rfl ?_;rw[ha]
    refine gP zH w1 s2.toNat 0 ?_ (hr:=by exact gset hv6 _)
    rw[show hp E0 [(w1,some ⟨23,1,(eL zW s3).set s2.toNat [.osl 3 1 (eL rI v6)]⟩)] (M1+14)=hp E0 [(w1,some ⟨23,1,eL zW l7⟩)] (M1+14) from by(try rw[zE hl7]);rw[(setx_iff.1 hl7).2,<- zY];rfl];(try rw[<- zE hl7])
    exact Rf ⟨M1+14,(by omega),(by first|rfl|exact((zE hl7).trans fM1_1)|omega),rfl,rfl⟩
   refine Js hK5 ?_
   refine gP Wre w1 s2.toNat 0 ?_ (hr:=by exact gset hv6 _)
   obtain⟨l8,hl8,H⟩:=bE H
   rw[show hp E0 [(w1,some ⟨23,1,(eL zW s3).set s2.toNat [.osl 3 1 (eL rI v6)]⟩)] (M1+11)=hp E0 [(w1,some ⟨23,1,eL zW l8⟩)] (M1+11) from by(try rw[zE hl8]);rw[(setx_iff.1 hl8).2,<- zY];rfl];(try rw[<- zE hl8])
   obtain⟨r9,hr9,H⟩:=bE H
   refine qD [0,1,5,6,7] (c176 hr9) ?_
   obtain⟨v11,hv11,H⟩:=bE H
   refine gU Wre w1 s2.toNat 0 ?_ (hr:=by exact sF zW hv11)
   obtain⟨v12,hv12,H⟩:=bE H
   obtain⟨r13,hr13,H⟩:=bE H
   refine gO tok tokM [] [6,7,8] [0,1,2,3,4,5,6,7,8,9] [0,1,5,6,7,8] (fun a J=>∃M3 o1:Nat,M1+26<=M3/\M1+26<=o1/\o1<M3/\a=[(0,.fsl (eL rQuad p0)),(1,.sl w1 0 l8.length),(5,.bool s1),(6,.int .i64 s2),(7,.fsl (eL rI r9)),(8,.sl o1 0 r13.length)]/\J=hp E0 [(w1,some ⟨23,1,(eL zW l8).set s2.toNat [.sl (M1+15) 0 v11.length]⟩),(M1+15,some ⟨3,1,eL rI v11⟩),(o1,some ⟨3,1,eL rI r13⟩)] M3) (by decide) (fun K hK=>?_) ?_
   .simp only[pickL,zJ,zL]
    have e0:=nQ w1 (M1+15)
    refine m1 (j e0 (j (gSt hv11) (j (ix34 hv12) (j (ixo86 hv11) ((zG hv11).2.2))))) ?_
    refine(c185_o_b (H:=hr13) (by simp[e0,(gset hv11 _),ix34 hv12,ixo86 hv11,(zG hv11).2.2])).mono ?_;rintro _ _ ⟨M3,o1,fM3_0,fM3_1,fM3_2,rfl,rfl⟩;simp only[hpN] at fM3_0 fM3_1 fM3_2
    have eM3_0:=nQ o1 w1
    have eM3_1:=nQ o1 (M1+15)
    refine m1 (j e0 (j (gSt hv11) (j (ix34 hv12) (j (ixo86 hv11) (j ((zG hv11).2.2) (j eM3_0 (j eM3_1 (j @hoS @hoN)))))))) ?_
    exact hK _ _ ⟨M3,o1,(by omega),(by omega),(by omega),rfl,rfl⟩
   rintro a J ⟨M3,o1,fM3_0,fM3_1,fM3_2,rfl,rfl⟩
   have e0:=nQ w1 (M1+15)
   have e1:=nQ w1 o1
   have e2:=nQ (M1+15) o1
   refine qB [0,1,5,6,7,8,9] (j e0 (j e1 (j e2 (gSt hv11)))) ?_
   refine Wb ?_
   obtain⟨l14,hl14,H⟩:=bE H
   obtain⟨e1,hse1,H⟩:=bE H
   refine zR [0,1,5,6,7,8,9] (fun s a J=>∃M4:Nat,N0<=M4/\s.2.2.length=p1.length/\a=[(0,.fsl (eL rQuad p0)),(1,.sl w1 0 s.2.2.length),(5,.bool s.1),(6,.int .i64 s2),(7,.fsl (eL rI r9)),(8,.fsl (eL rI r13)),(9,.int .i64 s.2.1)]/\J=hp E0 [(w1,some ⟨23,1,eL zW s.2.2⟩)] M4) (fun s x a J=>x=.exit 2/\Rc G 48 N0 (fun a J=>∃M5:Nat,N0<=M5/\s.2.length=p1.length/\a=[(0,.fsl (eL rQuad p0)),(1,.sl w1 0 s.2.length),(5,.bool s.1),(6,.int .i64 s2)]/\J=hp E0 [(w1,some ⟨23,1,eL zW s.2⟩)] M5) (AAct.keep a [0,1,5,6]) J) hse1 ?_ ?_ ?_
   .refine kp [0,1,5,6,7,8,9] ?_
    refine gP zH w1 s2.toNat 0 ?_ (hr:=by exact gset hv11 _)
    rw[show hp E0 [(w1,some ⟨23,1,(eL zW l8).set s2.toNat [.osl 3 1 (eL rI v11)]⟩),(o1,some ⟨3,1,eL rI r13⟩)] (M3+1)=hp E0 [(w1,some ⟨23,1,eL zW l14⟩),(o1,some ⟨3,1,eL rI r13⟩)] (M3+1) from by(try rw[zE hl14]);rw[(setx_iff.1 hl14).2,<- zY];rfl];(try rw[<- zE hl14])
    have z1:=nQ w1 o1
    refine gFrz zH 4 [o1] [(w1,some ⟨23,1,eL zW l14⟩)] [(0,.fsl (eL rQuad p0)),(1,.sl w1 0 l14.length),(5,.bool s1),(6,.int .i64 s2),(7,.fsl (eL rI r9)),(8,.fsl (eL rI r13)),(9,.int .i64 0)] (by simp[z1]) (cutD (by simp[z1])) ?_
    exact Rf ⟨M3+1,(by omega),(by first|rfl|exact((zE hl14).trans ((zE hl8).trans fM1_1))|omega),rfl,rfl⟩
   .clear H hse1
    rintro⟨s15,s16,s17⟩ fl a J H ⟨M4,fM4_0,fM4_1,rfl,rfl⟩ K6 O6 hK6 hO6
    unfold nE at H;dsimp only at H
    refine Wsq [0,1,5,6,7,8,9] fun K7 hK7=>?_
    refine qA [0,1,5,6,7,8,9,37] ?_
    refine Ci H ?_ ?_<;>intro H
    .refine Js hK7 ?_
     refine Wsq [0,1,5,6,7,8,9] fun K8 hK8=>?_
     refine Wb ?_
     obtain⟨v20,hv20,H⟩:=bE H
     obtain⟨r21,hr21,H⟩:=bE H
     refine jC tok [] [0,1,5,6,7,8,9,46] (fun a J=>∃M6:Nat,M4+11<=M6/\r21.2.length=s17.length/\a=[(0,.fsl (eL rQuad p0)),(1,.sl w1 0 s17.length),(5,.bool s15),(6,.int .i64 s2),(7,.fsl (eL rI r9)),(8,.fsl (eL rI r13)),(9,.int .i64 s16),(46,.bool r21.1)]/\J=hp E0 [(w1,some ⟨23,1,eL zW r21.2⟩)] M6) (fun K hK=>?_) ?_
     .skip
      refine m1 (ix23 hv20) ?_
      refine(c186 (H:=hr21) (by simp[ix23 hv20])).mono ?_;rintro _ _ ⟨M6,fM6_0,fM6_1,rfl,rfl⟩;simp only[hpN] at fM6_0
      refine m1 (j (ix23 hv20) (j @hoS @hoN)) ?_
      exact hK _ _ ⟨M6,(by omega),fM6_1,rfl,rfl⟩
     rintro a J ⟨M6,fM6_0,fM6_1,rfl,rfl⟩
     try rw[<- fM6_1]
     refine Ci H ?_ ?_<;>intro H
     .refine qG hK8 ?_
      obtain rfl:=oi H
      refine qI hK6 ?_
      exact Rf ⟨M6+4,(by omega),(by first|rfl|exact((fM6_1).trans fM4_1)|omega),rfl,rfl⟩
     refine Js hK8 ?_
     obtain rfl:=oi H
     refine qI hK6 ?_
     exact Rf ⟨M6+3,(by omega),(by first|rfl|exact((fM6_1).trans fM4_1)|omega),rfl,rfl⟩
    cases oj H
    refine zK (hO6 _ _ _ _ rfl ⟨rfl,?_⟩)
    refine kr ?_
    exact Rf ⟨M4+4,(by omega),(by first|rfl|exact fM4_1|omega),rfl,rfl⟩
   intro x a J hx
   obtain⟨y18,y19⟩:=e1
   obtain⟨rfl,b,U,hr,M5,fM5_0,fM5_1,rfl,rfl⟩:=hx
   (try dsimp only at H)
   show K4 _ _
   refine hK4 _ _ (zH hr ?_)
   refine Rc.mk ?_
   obtain rfl:=oi H
   refine qI hK2 ?_
   exact Rf ⟨M5+3,(by omega),(by first|rfl|exact fM5_1|omega),rfl,rfl⟩
  cases oj H
  refine zK (hO2 _ _ _ _ rfl ⟨rfl,?_⟩)
  refine kr ?_
  exact Rf ⟨M1+4,(by omega),(by first|rfl|exact fM1_1|omega),rfl,rfl⟩
 intro x a J hx
 obtain⟨y4,y5⟩:=e2
 obtain⟨rfl,b,U,hr,M2,fM2_0,fM2_1,rfl,rfl⟩:=hx
 (try dsimp only at H)
 show K1 _ _
 refine hK1 _ _ (zH hr ?_)
 refine Rc.mk ?_
 refine qA [4] ?_
 obtain rfl:=oi H
 refine Kp [4] ?_
 refine Wr ?_
 refine⟨[.bool y4],by simp,M2+2,by omega,by first|rfl|exact fM2_1|omega,?_,?_⟩
 .simp[eN]
 first|rfl|simp

theorem c173_o {r:List Int}(H:tN=some r){J:AHeap}:ACalls Tryz.prog G 173 [] J (fun v J'=>∃M n0:Nat,J.next<=M/\J.next<=n0/\n0<M/\v=.sl n0 0 r.length/\J'=hp J.objs [(n0,some ⟨3,1,eL rI r⟩)] M):=by
 refine fr2 [] (by simp) (fun hlt=>?_) ⟨_,func173,rfl,rfl⟩
 generalize J.next=N0 at hlt ⊢
 refine fnK tok func173 ntmps173 results173 ?_
 simp only[argsA,Nat.reduceAdd,hpN]
 unfold tN at H
 refine qA [] ?_
 have q0:∀J i,bsA T 23 true i 0 [] J=some (.esl,J):=fun _ _=>rfl
 refine Sy tok [0] [1] q0 ?_
 refine Wsq [1] fun K1 hK1=>?_
 refine qA [1,2] ?_
 refine Wb ?_
 obtain⟨e1,hse1,H⟩:=bE H
 refine zR [1,2] (fun s a J=>∃M1 o1:Nat,N0<=M1/\N0<=o1/\o1<M1/\a=[(1,.sl o1 0 s.2.length),(2,.int .i64 s.1)]/\J=hp E0 [(o1,some ⟨3,1,eL rI s.2⟩)] M1) (fun s x a J=>x=.exit 0/\Rc G 13 N0 (fun a J=>∃M2 o2:Nat,N0<=M2/\N0<=o2/\o2<M2/\a=[(1,.sl o2 0 s.length)]/\J=hp E0 [(o2,some ⟨3,1,eL rI s⟩)] M2) (AAct.keep a [1]) J) hse1 ?_ ?_ ?_
 .refine kp [1,2] ?_
  refine gNilS zH 1 3 1 [(N0+4,some ⟨3,1,eL rI ([]:List Int)⟩)] [(1,.sl (N0+4) 0 ([]:List Int).length),(2,.int .i64 0)] (by simp(disch:=omega)) (by simp(disch:=omega) [eN]) [1,2] rfl ?_
  exact R2 (N0+5) (N0+4)
 .clear H hse1
  rintro⟨s1,s2⟩ fl a J H ⟨M1,o1,fM1_0,fM1_1,fM1_2,rfl,rfl⟩ K2 O2 hK2 hO2
  unfold gH at H;dsimp only at H
  refine Wsq [1,2] fun K3 hK3=>?_
  refine qA [1,2,5] ?_
  refine Ci H ?_ ?_<;>intro H
  .refine Js hK3 ?_
   refine Wsq [1,2] fun K4 hK4=>?_
   refine Wb ?_
   obtain⟨l4,hl4,H⟩:=bE H
   have q1:∀J i,bsA T 23 true i 1 [(0,.int .i64 s1)] J=some (.fsl (eL rI ([s1]:List Int)),J):=fun _ _=>rfl
   have e0:=nQ o1 (M1+5)
   refine Rb tok [2] (j e0 (j q1 (app23 hl4))) hK4 ?_
   obtain rfl:=oi H
   refine qI hK2 ?_
   exact R2 (M1+10) (M1+5)
  cases oj H
  refine zK (hO2 _ _ _ _ rfl ⟨rfl,?_⟩)
  refine kr ?_
  exact R2 (M1+2) o1
 intro x a J hx
 obtain⟨y3,rfl⟩:∃x,x=e1:=⟨_,rfl⟩
 obtain⟨rfl,b,U,hr,M2,o2,fM2_0,fM2_1,fM2_2,rfl,rfl⟩:=hx
 (try dsimp only at H)
 show K1 _ _
 refine hK1 _ _ (zH hr ?_)
 refine Rc.mk ?_
 refine qA [0] ?_
 obtain rfl:=oi H
 refine Kp [0] ?_
 exact V2 j0 (M2+2) o2

theorem c153 {p0:List gQuad}{r:(List (List Int))}(H:pM p0=some r):APure Tryz.prog G 153 [.fsl (eL rQuad p0)] (.fsl (eL rL_I r)):=by
 refine qK func153 ntmps153 results153 fun N0=>?_
 unfold pM at H
 refine qA [0] ?_
 have q0:∀J i,bsA T 86 true i 0 [] J=some (.esl,J):=fun _ _=>rfl
 refine Sy tok [0] [0,3] q0 ?_
 refine Wsq [0,3] fun K1 hK1=>?_
 obtain⟨r1,hr1,H⟩:=bE H
 refine qD [0,3,9] (c103 hr1) ?_
 refine Ci H ?_ ?_<;>intro H
 .refine qA [2] ?_
  cases oj H;exact W4
 refine Js hK1 ?_
 refine Wsq [0,3] fun K2 hK2=>?_
 refine qA [0,3,4] ?_
 refine Wb ?_
 obtain⟨e1,hse1,H⟩:=bE H
 refine zR [0,3,4] (fun s a J=>∃M1 o1:Nat,N0<=M1/\N0<=o1/\o1<M1/\a=[(0,.fsl (eL rQuad p0)),(3,.sl o1 0 s.2.length),(4,.int .i64 s.1)]/\J=hp E0 [(o1,some ⟨23,1,eL zW s.2⟩)] M1) (fun s x a J=>x=.exit 0/\Rc G 44 N0 (fun a J=>∃M2 o2:Nat,N0<=M2/\N0<=o2/\o2<M2/\a=[(0,.fsl (eL rQuad p0)),(3,.sl o2 0 s.length)]/\J=hp E0 [(o2,some ⟨23,1,eL zW s⟩)] M2) (AAct.keep a [0,3]) J) hse1 ?_ ?_ ?_
 .refine kp [0,3,4] ?_
  refine gNilS zH 3 23 1 [(N0+7,some ⟨23,1,eL zW ([]:List (List Int))⟩)] [(0,.fsl (eL rQuad p0)),(3,.sl (N0+7) 0 ([]:List (List Int)).length),(4,.int .i64 0)] (by simp(disch:=omega)) (by simp(disch:=omega) [eN]) [0,3,4] rfl ?_
  exact R2 (N0+8) (N0+7)
 .clear H hse1
  rintro⟨s2,s3⟩ fl a J H ⟨M1,o1,fM1_0,fM1_1,fM1_2,rfl,rfl⟩ K3 O3 hK3 hO3
  unfold wL at H;dsimp only at H
  refine Wsq [0,3,4] fun K4 hK4=>?_
  refine qA [0,3,4,14] ?_
  refine Ci H ?_ ?_<;>intro H
  .refine Js hK4 ?_
   refine Wsq [0,3,4] fun K5 hK5=>?_
   refine Wb ?_
   obtain⟨l5,hl5,H⟩:=bE H
   have q1:∀J i,bsA T 23 true i 0 [] J=some (.esl,J):=fun _ _=>rfl
   have q2:∀  J i,bsA T 86 true i 1 [(0,.esl)] J=some (.fsl [[.esl]],J):=fun  _ _=>rfl
   have e0:=nQ o1 (M1+7)
   refine Rb tok [1,2] (j e0 (j q1 (j q2 (apr86 zW hl5)))) hK5 ?_
   refine gPk0 Wre (o:=(M1+7)) (ob:=⟨23,1,eL zW s3++[[.esl]]⟩) (row:=[.esl]) (r:=s3.length) (i:=0) 3 1 [(M1+7,some ⟨23,1,eL zW s3++[[.osl 3 1 (eL rI ([]:List Int))]]⟩)] (by simp(disch:=omega)) (app_get _ _ _) rfl (by simp(disch:=omega)) (by simp(disch:=omega) [eN,fD]) ?_
   rw[show hp E0 [(M1+7,some ⟨23,1,eL zW s3++[[.osl 3 1 (eL rI ([]:List Int))]]⟩)] (M1+9)=hp E0 [(M1+7,some ⟨23,1,eL zW l5⟩)] (M1+9) from by rw[<- app_enc (f:=zW) (c:=[.osl 3 1 (eL rI ([]:List Int))]) hl5 rfl]]
   obtain rfl:=oi H
   refine qI hK3 ?_
   exact R2 (M1+12) (M1+7)
  cases oj H
  refine zK (hO3 _ _ _ _ rfl ⟨rfl,?_⟩)
  refine kr ?_
  exact R2 (M1+4) o1
 intro x a J hx
 obtain⟨y4,rfl⟩:∃x,x=e1:=⟨_,rfl⟩
 obtain⟨rfl,b,U,hr,M2,o2,fM2_0,fM2_1,fM2_2,rfl,rfl⟩:=hx
 (try dsimp only at H)
 show K2 _ _
 refine hK2 _ _ (zH hr ?_)
 refine Rc.mk ?_
 obtain⟨r6,hr6,H⟩:=bE H
 obtain⟨v7,hv7,H⟩:=bE H
 refine jC tok [] [0,3] (fun a J=>∃M3 o3:Nat,M2+4<=M3/\M2+4<=o3/\o3<M3/\a=[(0,.fsl (eL rQuad p0)),(3,.sl o2 0 y4.length)]/\J=hp E0 [(o2,some ⟨23,1,(eL zW y4).set 0 [.sl o3 0 r6.length]⟩),(o3,some ⟨3,1,eL rI r6⟩)] M3) (fun K hK=>?_) ?_
 .skip
  refine m2 (ixo86 hv7) (show _[0]? =some v7 from(zG hv7).2.2) ?_
  refine mo (c173_o (H:=hr6)) fun M3 o3 fM3_0 fM3_1 fM3_2=>?_
  have eM3_0:=nQ o3 o2
  refine m1 (j (ixo86 hv7) (j (show _[0]? =some v7 from(zG hv7).2.2) (j eM3_0 (j @hoS @hoN)))) ?_
  exact hK _ _ ⟨M3,o3,(by omega),(by omega),(by omega),rfl,rfl⟩
 rintro a J ⟨M3,o3,fM3_0,fM3_1,fM3_2,rfl,rfl⟩
 refine Wsq [0,3] fun K6 hK6=>?_
 refine Wb ?_
 obtain⟨l8,hl8,H⟩:=bE H
 obtain⟨e2,hse2,H⟩:=bE H
 refine zR [0,3] (fun s a J=>∃M4 o4:Nat,N0<=M4/\N0<=o4/\o4<M4/\a=[(0,.fsl (eL rQuad p0)),(3,.sl o4 0 s.length)]/\J=hp E0 [(o4,some ⟨23,1,eL zW s⟩)] M4) (fun s x a J=>x=.exit 2/\Rc G 44 N0 (fun a J=>∃M5 o5:Nat,N0<=M5/\N0<=o5/\o5<M5/\a=[(0,.fsl (eL rQuad p0)),(3,.sl o5 0 s.length)]/\J=hp E0 [(o5,some ⟨23,1,eL zW s⟩)] M5) (AAct.keep a [0,3]) J) hse2 ?_ ?_ ?_
 .refine kp [0,3] ?_
  refine gP zH o2 0 0 ?_ (hr:=by exact gset hv7 _)
  rw[show hp E0 [(o2,some ⟨23,1,(eL zW y4).set 0 [.osl 3 1 (eL rI r6)]⟩)] M3=hp E0 [(o2,some ⟨23,1,eL zW l8⟩)] M3 from by(try rw[zE hl8]);rw[(setx_iff.1 hl8).2,<- zY];rfl];(try rw[<- zE hl8])
  exact R2 M3 o2
 .clear H hse2
  rintro s9 fl a J H ⟨M4,o4,fM4_0,fM4_1,fM4_2,rfl,rfl⟩ K7 O7 hK7 hO7
  unfold nS at H;dsimp only at H
  refine Wsq [0,3] fun K8 hK8=>?_
  obtain⟨r11,hr11,H⟩:=bE H
  refine jC tok [] [0,3,26] (fun a J=>∃M6:Nat,M4+3<=M6/\r11.2.length=s9.length/\a=[(0,.fsl (eL rQuad p0)),(3,.sl o4 0 s9.length),(26,.bool r11.1)]/\J=hp E0 [(o4,some ⟨23,1,eL zW r11.2⟩)] M6) (fun K hK=>?_) ?_
  .skip
   refine m0 ?_
   refine(c174 (H:=hr11) (by simp)).mono ?_;rintro _ _ ⟨M6,fM6_0,fM6_1,rfl,rfl⟩;simp only[hpN] at fM6_0
   refine m2 @hoS @hoN ?_
   exact hK _ _ ⟨M6,(by omega),fM6_1,rfl,rfl⟩
  rintro a J ⟨M6,fM6_0,fM6_1,rfl,rfl⟩
  try rw[<- fM6_1]
  refine Ci H ?_ ?_<;>intro H
  .refine Js hK8 ?_
   refine Wb ?_
   refine Wsk ?_
   show K7 _ _
   refine kE [0,3] fun a' ha=>?_
   cases oj H
   refine hK7 _ _ _ rfl ?_;rw[ha]
   exact R2 M6 o4
  obtain rfl:=oi H
  refine zK (hO7 _ _ _ _ rfl ⟨rfl,?_⟩)
  refine kr ?_
  exact R2 M6 o4
 intro x a J hx
 obtain⟨y10,rfl⟩:∃x,x=e2:=⟨_,rfl⟩
 obtain⟨rfl,b,U,hr,M5,o5,fM5_0,fM5_1,fM5_2,rfl,rfl⟩:=hx
 (try dsimp only at H)
 show K6 _ _
 refine hK6 _ _ (zH hr ?_)
 refine Rc.mk ?_
 refine Wsq [3] fun K9 hK9=>?_
 refine qA [0,3,5] ?_
 refine Wb ?_
 obtain⟨e3,hse3,H⟩:=bE H
 refine zR [0,3,5] (fun s a J=>∃M7 o6:Nat,N0<=M7/\N0<=o6/\o6<M7/\a=[(0,.fsl (eL rQuad p0)),(3,.sl o6 0 s.2.length),(5,.int .i64 s.1)]/\J=hp E0 [(o6,some ⟨23,1,eL zW s.2⟩)] M7) (fun s x a J=>x=.exit 4/\Rc G 44 N0 (fun a J=>∃M8 o7:Nat,N0<=M8/\N0<=o7/\o7<M8/\a=[(3,.sl o7 0 s.length)]/\J=hp E0 [(o7,some ⟨23,1,eL zW s⟩)] M8) (AAct.keep a [3]) J) hse3 ?_ ?_ ?_
 .refine kp [0,3,5] ?_
  exact R2 (M5+1) o5
 .clear H hse3
  rintro⟨s12,s13⟩ fl a J H ⟨M7,o6,fM7_0,fM7_1,fM7_2,rfl,rfl⟩ K10 O10 hK10 hO10
  unfold nR at H;dsimp only at H
  refine Wsq [0,3,5] fun K11 hK11=>?_
  refine qA [0,3,5,30] ?_
  refine Ci H ?_ ?_<;>intro H
  .refine Js hK11 ?_
   refine Wsq [0,3,5] fun K12 hK12=>?_
   refine Wb ?_
   obtain⟨v15,hv15,H⟩:=bE H
   refine gU Wre o6 s12.toNat 0 ?_ (hr:=by exact sF zW hv15)
   have e0:=nQ o6 (M7+4)
   refine qB [0,3,5,38] (j e0 (j (gSt hv15) (j (ixo86 hv15) ((zG hv15).2.2)))) ?_
   refine Ci H ?_ ?_<;>intro H
   .refine gP Wre o6 s12.toNat 0 ?_ (hr:=by exact gset hv15 _)
    obtain⟨l16,hl16,H⟩:=bE H
    rw[show hp E0 [(o6,some ⟨23,1,(eL zW s13).set s12.toNat [.osl 3 1 (eL rI v15)]⟩)] (M7+11)=hp E0 [(o6,some ⟨23,1,eL zW l16⟩)] (M7+11) from by(try rw[zE hl16]);rw[(setx_iff.1 hl16).2,<- zY];rfl];(try rw[<- zE hl16])
    obtain⟨r17,hr17,H⟩:=bE H
    obtain⟨v18,hv18,H⟩:=bE H
    refine hG tok [] [0,3,5] (fun a J=>∃M9 o8:Nat,M7+16<=M9/\M7+16<=o8/\o8<M9/\a=[(0,.fsl (eL rQuad p0)),(3,.sl o6 0 l16.length),(5,.int .i64 s12)]/\J=hp E0 [(o6,some ⟨23,1,(eL zW l16).set s12.toNat [.sl o8 0 r17.length]⟩),(o8,some ⟨3,1,eL rI r17⟩)] M9) (fun K hK=>?_) ?_
    .skip
     refine m2 (ixo86 hv18) ((zG hv18).2.2) ?_
     refine mo (c173_o (H:=hr17)) fun M9 o8 fM9_0 fM9_1 fM9_2=>?_
     have eM9_0:=nQ o8 o6
     refine m1 (j (ixo86 hv18) (j ((zG hv18).2.2) (j eM9_0 (j @hoS @hoN)))) ?_
     exact hK _ _ ⟨M9,o8,(by omega),(by omega),(by omega),rfl,rfl⟩
    rintro a J ⟨M9,o8,fM9_0,fM9_1,fM9_2,ha,rfl⟩
    refine hK12 _ _ ?_;rw[ha]
    refine Rc.mk ?_
    have e0:=nQ o6 o8
    refine Rt tok [] [0,3,5] (by intro K k;simp -dsimp -implicitDefEqProofs [e0,(gset hv18 _)];exact k) fun a ha=>?_
    obtain⟨l19,hl19,H⟩:=bE H
    obtain rfl:=oi H
    refine hK10 _ _ _ rfl ?_;rw[ha]
    refine gP zH o6 s12.toNat 0 ?_ (hr:=by exact gset hv18 _)
    rw[show hp E0 [(o6,some ⟨23,1,(eL zW l16).set s12.toNat [.osl 3 1 (eL rI r17)]⟩)] (M9+3)=hp E0 [(o6,some ⟨23,1,eL zW l19⟩)] (M9+3) from by(try rw[zE hl19]);rw[(setx_iff.1 hl19).2,<- zY];rfl];(try rw[<- zE hl19])
    exact R2 (M9+3) o6
   refine Js hK12 ?_
   have e0:=nQ o6 (M7+4)
   refine Rt tok [] [0,3,5] (by intro K k;simp -dsimp -implicitDefEqProofs [e0,(gset hv15 _)];exact k) fun a ha=>?_
   obtain⟨l20,hl20,H⟩:=bE H
   obtain rfl:=oi H
   refine hK10 _ _ _ rfl ?_;rw[ha]
   refine gP zH o6 s12.toNat 0 ?_ (hr:=by exact gset hv15 _)
   rw[show hp E0 [(o6,some ⟨23,1,(eL zW s13).set s12.toNat [.osl 3 1 (eL rI v15)]⟩)] (M7+14)=hp E0 [(o6,some ⟨23,1,eL zW l20⟩)] (M7+14) from by(try rw[zE hl20]);rw[(setx_iff.1 hl20).2,<- zY];rfl];(try rw[<- zE hl20])
   exact R2 (M7+14) o6
  cases oj H
  refine zK (hO10 _ _ _ _ rfl ⟨rfl,?_⟩)
  refine kr ?_
  exact R2 (M7+4) o6
 intro x a J hx
 obtain⟨y14,rfl⟩:∃x,x=e3:=⟨_,rfl⟩
 obtain⟨rfl,b,U,hr,M8,o7,fM8_0,fM8_1,fM8_2,rfl,rfl⟩:=hx
 (try dsimp only at H)
 show K9 _ _
 refine hK9 _ _ (zH hr ?_)
 refine Rc.mk ?_
 refine qA [2] ?_
 cases oj H;exact W4

theorem c154 {p0:gQuad}{p1:List Int}{r:gQuad}(H:fL p0 p1=some r):APure Tryz.prog G 154 [.agg [.int .i64 p0.Op,.int .i64 p0.Dst,.int .i64 p0.A,.int .i64 p0.B,.int .i64 p0.N],.fsl (eL rI p1)] (.agg [.int .i64 r.Op,.int .i64 r.Dst,.int .i64 r.A,.int .i64 r.B,.int .i64 r.N]):=by
 refine qK func154 ntmps154 results154 fun N0=>?_
 unfold fL at H
 refine qA [1,2,4] ?_
 refine Wsq [2,4] fun K1 hK1=>?_
 refine qA [1,2,4,6] ?_
 refine Wb ?_
 obtain⟨j1,hj1,H⟩:=bE H
 refine kP (kN fun K2 hK2=>?_)
 have hJ1:∀a J,Rc G 33 N0 (fun a J=>∃M1:Nat,N0<=M1/\N0<M1/\N0+1<M1/\a=[(1,.fsl (eL rI p1)),(2,.ptr N0 0 0),(4,.ptr (N0+1) 0 0),(6,.int .i64 p0.Op),(7,.bool j1)]/\J=hp E0 [(N0,some ⟨36,5,[[.int .i64 p0.Op,.int .i64 p0.Dst,.int .i64 p0.A,.int .i64 p0.B,.int .i64 p0.N]]⟩),(N0+1,some ⟨36,5,[[.int .i64 0,.int .i64 0,.int .i64 0,.int .i64 0,.int .i64 0]]⟩)] M1) (a.keep [1,2,4,6,7]) J->K2 a J:=by
  rintro a J ⟨b,U,hr,M1,fM1_0,fM1_1,fM1_2,rfl,rfl⟩
  refine hK2 _ _ (kG [1,2,4,6,7] (Wre hr ?_))
  refine Ci H ?_ ?_<;>intro H
  .obtain⟨v2,hv2,H⟩:=bE H
   refine qH (ix23 hv2) hK1 ?_
   refine qA [4] ?_
   obtain rfl:=oi H
   refine Kp [4] ?_
   exact V0
  refine qA [1,2,4,18] ?_
  refine Ci H ?_ ?_<;>intro H
  .obtain⟨v3,hv3,H⟩:=bE H
   refine qB [1,2,4] (ix23 hv3) ?_
   obtain⟨v4,hv4,H⟩:=bE H
   refine qH (ix23 hv4) hK1 ?_
   refine qA [4] ?_
   obtain rfl:=oi H
   refine Kp [4] ?_
   exact V0
  refine Js hK1 ?_
  refine qA [4] ?_
  cases oj H
  refine Kp [4] ?_
  exact V0
 replace H:=hj1
 refine qA [1,2,4,6,7] ?_
 refine Ci H ?_ ?_<;>intro H
 .refine Wsk ?_
  show K2 _ _
  refine kE [1,2,4,6,7] fun a' ha=>?_
  cases oj H
  refine hJ1 _ _ ?_;rw[ha]
  exact R1 (N0+6)
 refine qA [1,2,4,6,7] ?_
 refine Ci H ?_ ?_<;>intro H
 .refine Wsk ?_
  show K2 _ _
  refine kE [1,2,4,6,7] fun a' ha=>?_
  cases oj H
  refine hJ1 _ _ ?_;rw[ha]
  exact R1 (N0+8)
 refine qA [1,2,4,6,7] ?_
 refine Ci H ?_ ?_<;>intro H
 .refine Wsk ?_
  show K2 _ _
  refine kE [1,2,4,6,7] fun a' ha=>?_
  cases oj H
  refine hJ1 _ _ ?_;rw[ha]
  exact R1 (N0+10)
 refine Rt0 tok [] [1,2,4,6,7] fun a ha=>?_
 cases oj H
 refine hJ1 _ _ ?_;rw[ha]
 exact R1 (N0+12)

theorem c131 {p0:List gQuad}{r:(List gQuad)×Bool}(H:pL p0=some r):APure Tryz.prog G 131 [.fsl (eL rQuad p0)] (.tup [.fsl (eL rQuad r.1),.bool r.2]):=by
 refine qK func131 ntmps131 results131 fun N0=>?_
 unfold pL at H
 refine qA [0] ?_
 have q0:∀J i,bsA T 34 true i 0 [] J=some (.esl,J):=fun _ _=>rfl
 refine Sy tok [0] [0,4] q0 ?_
 refine Wsq [0,4] fun K1 hK1=>?_
 obtain⟨r1,hr1,H⟩:=bE H
 refine qD [0,4,10] (c103 hr1) ?_
 refine Ci H ?_ ?_<;>intro H
 .refine qA [2,3] ?_
  cases oj H;exact W4
 refine Js hK1 ?_
 obtain⟨r2,hr2,H⟩:=bE H
 refine qD [0,4,5] (c153 hr2) ?_
 refine Wsq [4] fun K2 hK2=>?_
 refine qA [0,4,5,6] ?_
 refine Wb ?_
 obtain⟨e1,hse1,H⟩:=bE H
 refine zR [0,4,5,6] (fun s a J=>∃M1 o1:Nat,N0<=M1/\N0<=o1/\o1<M1/\a=[(0,.fsl (eL rQuad p0)),(4,.sl o1 0 s.2.length),(5,.fsl (eL rL_I r2)),(6,.int .i64 s.1)]/\J=hp E0 [(o1,some ⟨36,5,eL rQuad s.2⟩)] M1) (fun s x a J=>x=.exit 0/\Rc G 33 N0 (fun a J=>∃M2 o2:Nat,N0<=M2/\N0<=o2/\o2<M2/\a=[(4,.sl o2 0 s.length)]/\J=hp E0 [(o2,some ⟨36,5,eL rQuad s⟩)] M2) (AAct.keep a [4]) J) hse1 ?_ ?_ ?_
 .refine kp [0,4,5,6] ?_
  refine gNilS zH 4 36 5 [(N0+11,some ⟨36,5,eL rQuad ([]:List gQuad)⟩)] [(0,.fsl (eL rQuad p0)),(4,.sl (N0+11) 0 ([]:List gQuad).length),(5,.fsl (eL rL_I r2)),(6,.int .i64 0)] (by simp(disch:=omega)) (by simp(disch:=omega) [eN]) [0,4,5,6] rfl ?_
  exact R2 (N0+12) (N0+11)
 .clear H hse1
  rintro⟨s3,s4⟩ fl a J H ⟨M1,o1,fM1_0,fM1_1,fM1_2,rfl,rfl⟩ K3 O3 hK3 hO3
  unfold uU at H;dsimp only at H
  refine Wsq [0,4,5,6] fun K4 hK4=>?_
  refine qA [0,4,5,6,17] ?_
  refine Ci H ?_ ?_<;>intro H
  .refine Js hK4 ?_
   refine Wsq [0,4,5,6] fun K5 hK5=>?_
   refine Wb ?_
   obtain⟨v6,hv6,H⟩:=bE H
   obtain⟨v7,hv7,H⟩:=bE H
   obtain⟨r8,hr8,H⟩:=bE H
   obtain⟨l9,hl9,H⟩:=bE H
   have q1:∀J i,bsA T 34 true i 1 [(0,.agg [.int .i64 r8.Op,.int .i64 r8.Dst,.int .i64 r8.A,.int .i64 r8.B,.int .i64 r8.N])] J=some (.fsl (eL rQuad ([r8]:List gQuad)),J):=fun _ _=>rfl
   refine oF tok tokM [10] [11] [0,1,2,3,4,5,6,7,8,9,10,11,12] [0,4,5,6] (fun a J=>a=[(0,.fsl (eL rQuad p0)),(4,.sl (M1+15) 0 l9.length),(5,.fsl (eL rL_I r2)),(6,.int .i64 s3)]/\J=hp E0 [(M1+15,some ⟨36,5,eL rQuad l9⟩)] (M1+17)) (by decide) (fun K hK=>?_) ?_
   .simp only[pickL,zJ,zL]
    have e0:=nQ o1 (M1+15)
    refine m1 (j e0 (j (ix34 hv6) (j (ix86 hv7) (j q1 (app34 hl9))))) ?_
    refine Pc.mk (c154 hr8) (m1 (j e0 (j (ix34 hv6) (j (ix86 hv7) (j q1 (app34 hl9))))) ?_)
    exact hK _ _ ⟨rfl,rfl⟩
   rintro a J ⟨ha,rfl⟩
   refine hK5 _ _ ?_;rw[ha]
   refine Rc.mk ?_
   obtain rfl:=oi H
   refine qI hK3 ?_
   exact R2 (M1+20) (M1+15)
  cases oj H
  refine zK (hO3 _ _ _ _ rfl ⟨rfl,?_⟩)
  refine kr ?_
  exact R2 (M1+4) o1
 intro x a J hx
 obtain⟨y5,rfl⟩:∃x,x=e1:=⟨_,rfl⟩
 obtain⟨rfl,b,U,hr,M2,o2,fM2_0,fM2_1,fM2_2,rfl,rfl⟩:=hx
 (try dsimp only at H)
 show K2 _ _
 refine hK2 _ _ (zH hr ?_)
 refine Rc.mk ?_
 refine qA [2,3] ?_
 cases oj H;exact W4

theorem c155 {p0:List gQuad}{p1:Int}{r:Int}(H:tM p0 p1=some r):APure Tryz.prog G 155 [.fsl (eL rQuad p0),.int .i64 p1] (.int .i64 r):=by
 refine qK func155 ntmps155 results155 fun N0=>?_
 unfold tM at H
 refine qA [0,1] ?_
 refine qA [0,1,5] ?_
 refine Wsq [1] fun K1 hK1=>?_
 refine qA [0,1,5,6] ?_
 refine Wb ?_
 obtain⟨e1,hse1,H⟩:=bE H
 refine zR [0,1,5,6] (fun s a J=>∃M1:Nat,N0<=M1/\a=[(0,.fsl (eL rQuad p0)),(1,.int .i64 p1),(5,.int .i64 s.1),(6,.int .i64 s.2)]/\J=hp E0 [] M1) (fun e x a J=>match e with|.inl s=>x=.exit 0/\Rc G 27 N0 (fun a J=>∃M2:Nat,N0<=M2/\a=[(1,.int .i64 p1)]/\J=hp E0 [] M2) (AAct.keep a [1]) J|.inr s=>x=.ret/\∃vs,resA T J a [.tmp 4]=some vs/\∃d,thawA (fun _=>true) J d (tupA vs)=.int .i64 s) hse1 ?_ ?_ ?_
 .refine kp [0,1,5,6] ?_
  exact R1 (N0+4)
 .clear H hse1
  rintro⟨s1,s2⟩ fl a J H ⟨M1,fM1_0,rfl,rfl⟩ K2 O2 hK2 hO2
  unfold sR at H;dsimp only at H
  refine Wsq [0,1,5,6] fun K3 hK3=>?_
  refine qA [0,1,5,6,11] ?_
  refine Ci H ?_ ?_<;>intro H
  .refine Js hK3 ?_
   refine Wsq [0,1,5,6] fun K4 hK4=>?_
   refine Wb ?_
   refine Wsq [0,1,5,6] fun K5 hK5=>?_
   obtain⟨v3,hv3,H⟩:=bE H
   refine qB [0,1,5,6,19] (ix34 hv3) ?_
   refine Ci H ?_ ?_<;>intro H
   .refine qA [4] ?_
    cases oj H
    refine Kp [4] ?_
    refine Wr (hO2 _ _ _ _ rfl ⟨rfl,?_⟩)
    exact⟨[.int .i64 s1],by simp,4,by simp[eN]⟩
   refine Js hK5 ?_
   refine qH (ix34 hv3) hK4 ?_
   obtain rfl:=oi H
   refine qI hK2 ?_
   exact R1 (M1+19)
  cases oj H
  refine zK (hO2 _ _ _ _ rfl ⟨rfl,?_⟩)
  refine kr ?_
  exact R1 (M1+4)
 intro x a J hx
 rcases e1 with⟨⟩|r0
 .obtain⟨rfl,b,U,hr,M2,fM2_0,rfl,rfl⟩:=hx
  (try dsimp only at H)
  show K1 _ _
  refine hK1 _ _ (zH hr ?_)
  refine Rc.mk ?_
  refine qA [4] ?_
  cases oj H;exact W4
 obtain⟨rfl,hx2⟩:=hx
 (try dsimp only at H)
 cases oj H;first|exact hx2|(simp only[List.set_set] at hx2 ⊢;exact hx2)

theorem c132 {p0:List gQuad}{r:(List gQuad)×Bool}(H:pH p0=some r):APure Tryz.prog G 132 [.fsl (eL rQuad p0)] (.tup [.fsl (eL rQuad r.1),.bool r.2]):=by
 refine qK func132 ntmps132 results132 fun N0=>?_
 unfold pH at H
 refine qA [0] ?_
 have q0:∀J i,bsA T 34 true i 0 [] J=some (.esl,J):=fun _ _=>rfl
 refine Sy tok [0] [0,4] q0 ?_
 refine Wsq [0,4] fun K1 hK1=>?_
 obtain⟨r1,hr1,H⟩:=bE H
 refine qD [0,4,10] (c103 hr1) ?_
 refine Ci H ?_ ?_<;>intro H
 .refine qA [2,3] ?_
  cases oj H;exact W4
 refine Js hK1 ?_
 refine Wsq [4] fun K2 hK2=>?_
 refine qA [0,4,5] ?_
 refine Wb ?_
 obtain⟨e2,hse2,H⟩:=bE H
 refine zR [0,4,5] (fun s a J=>∃M1 o1:Nat,N0<=M1/\N0<=o1/\o1<M1/\a=[(0,.fsl (eL rQuad p0)),(4,.sl o1 0 s.2.length),(5,.int .i64 s.1)]/\J=hp E0 [(o1,some ⟨36,5,eL rQuad s.2⟩)] M1) (fun s x a J=>x=.exit 0/\Rc G 40 N0 (fun a J=>∃M2 o2:Nat,N0<=M2/\N0<=o2/\o2<M2/\a=[(4,.sl o2 0 s.length)]/\J=hp E0 [(o2,some ⟨36,5,eL rQuad s⟩)] M2) (AAct.keep a [4]) J) hse2 ?_ ?_ ?_
 .refine kp [0,4,5] ?_
  refine gNilS zH 4 36 5 [(N0+8,some ⟨36,5,eL rQuad ([]:List gQuad)⟩)] [(0,.fsl (eL rQuad p0)),(4,.sl (N0+8) 0 ([]:List gQuad).length),(5,.int .i64 0)] (by simp(disch:=omega)) (by simp(disch:=omega) [eN]) [0,4,5] rfl ?_
  exact R2 (N0+9) (N0+8)
 .clear H hse2
  rintro⟨s2,s3⟩ fl a J H ⟨M1,o1,fM1_0,fM1_1,fM1_2,rfl,rfl⟩ K3 O3 hK3 hO3
  unfold uR at H;dsimp only at H
  refine Wsq [0,4,5] fun K4 hK4=>?_
  refine qA [0,4,5,15] ?_
  refine Ci H ?_ ?_<;>intro H
  .refine Js hK4 ?_
   refine Wsq [0,4,5] fun K5 hK5=>?_
   refine Wb ?_
   obtain⟨v5,hv5,H⟩:=bE H
   have e0:=nQ o1 (M1+8)
   refine qC [0,4,5,6] e0 (ix34 hv5) ?_
   obtain⟨j1,hj1,H⟩:=bE H
   refine kP (kN fun K6 hK6=>?_)
   have hJ1:∀a J,Rc G 40 N0 (fun a J=>∃M3:Nat,N0<=M3/\o1<M3/\M1+8<M3/\a=[(0,.fsl (eL rQuad p0)),(4,.sl o1 0 s3.length),(5,.int .i64 s2),(6,.ptr (M1+8) 0 0)]/\J=hp E0 [(o1,some ⟨36,5,eL rQuad s3⟩),(M1+8,some ⟨36,5,[[.int .i64 j1.Op,.int .i64 j1.Dst,.int .i64 j1.A,.int .i64 j1.B,.int .i64 j1.N]]⟩)] M3) (a.keep [0,4,5,6]) J->K6 a J:=by
    rintro a J ⟨b,U,hr,M3,fM3_0,fM3_1,fM3_2,rfl,rfl⟩
    refine hK6 _ _ (kG [0,4,5,6] (Wre hr ?_))
    obtain⟨l7,hl7,H⟩:=bE H
    have q1:∀J i,bsA T 34 true i 1 [(0,.agg [.int .i64 j1.Op,.int .i64 j1.Dst,.int .i64 j1.A,.int .i64 j1.B,.int .i64 j1.N])] J=some (.fsl (eL rQuad ([j1]:List gQuad)),J):=fun _ _=>rfl
    have e0:=nQ o1 (M1+8)
    have e1:=nQ o1 (M3+3)
    have e2:=nQ (M1+8) (M3+3)
    have e3:=nQ (M1+5) M3
    refine Rb tok [2] (j e0 (j e1 (j e2 (j e3 (j q1 (app34 hl7)))))) hK5 ?_
    have e0:=nQ (M1+8) (M3+3)
    have e1:=nQ (M1+5) M3
    obtain rfl:=oi H
    refine qJ (j e0 e1) hK3 ?_
    exact Rc.fin (AHeap.Sub.trans (zM (AHeap.Sub.refl _)) (zU rfl (by simp;try omega))) ⟨M3+8,(M3+3),(by omega),(by omega),(by omega),rfl,rfl⟩
   replace H:=hj1
   obtain⟨g8,hg8,H⟩:=bE H
   refine qF tok [0,4,5,6,29] ([(0,.fsl (eL rQuad p0)),(4,.sl o1 0 s3.length),(5,.int .i64 s2),(6,.ptr (M1+8) 0 0),(29,.bool g8)]) (hp E0 [(o1,some ⟨36,5,eL rQuad s3⟩),(M1+8,some ⟨36,5,[[.int .i64 v5.Op,.int .i64 v5.Dst,.int .i64 v5.A,.int .i64 v5.B,.int .i64 v5.N]]⟩)] (M1+18)) (by
    intro K k
    have e0:=nQ o1 (M1+8)
    refine m1 e0 ?_
    cases hbg8:ieq v5.Op 4
    .cases oj (ifF hbg8 hg8)
     exact m2 e0 hbg8 k
    cases oj (ifT hbg8 hg8)
    refine m2 e0 hbg8 ?_
    exact k) ?_
   refine Ci H ?_ ?_<;>intro H
   .obtain⟨r9,hr9,H⟩:=bE H
    have e0:=nQ o1 (M1+8)
    refine Rt tok [] [0,4,5,6] (by intro K k;(repeat first|simp -dsimp -implicitDefEqProofs [e0]|refine(c155 hr9).app ?_);exact k) fun a ha=>?_
    cases oj H
    refine hJ1 _ _ ?_;rw[ha]
    exact R1 (M1+24)
   refine Wsk ?_
   show K6 _ _
   refine kE [0,4,5,6] fun a' ha=>?_
   cases oj H
   refine hJ1 _ _ ?_;rw[ha]
   exact R1 (M1+18)
  cases oj H
  refine zK (hO3 _ _ _ _ rfl ⟨rfl,?_⟩)
  refine kr ?_
  exact R2 (M1+4) o1
 intro x a J hx
 obtain⟨y4,rfl⟩:∃x,x=e2:=⟨_,rfl⟩
 obtain⟨rfl,b,U,hr,M2,o2,fM2_0,fM2_1,fM2_2,rfl,rfl⟩:=hx
 (try dsimp only at H)
 show K2 _ _
 refine hK2 _ _ (zH hr ?_)
 refine Rc.mk ?_
 refine qA [2,3] ?_
 cases oj H;exact W4

theorem c158 {p0:List gQuad}{p1:(List (List Bool))}{p2:Int}{r:List Bool}(H:tA p0 p1 p2=some r):APure Tryz.prog G 158 [.fsl (eL rQuad p0),.fsl (eL rL_B p1),.int .i64 p2] (.fsl (eL rB r)):=by
 refine qK func158 ntmps158 results158 fun N0=>?_
 unfold tA at H
 refine qA [0,1,2] ?_
 obtain⟨l1,hl1,H⟩:=bE H
 refine qB [0,1,2,7] (mak39 hl1) ?_
 obtain⟨r2,hr2,H⟩:=bE H
 refine qD [1,7,8] (c176 hr2) ?_
 refine Wsq [7] fun K1 hK1=>?_
 refine qA [1,7,8,9] ?_
 refine Wb ?_
 obtain⟨e2,hse2,H⟩:=bE H
 refine zR [1,7,8,9] (fun s a J=>∃M1 o1:Nat,N0<=M1/\N0<=o1/\o1<M1/\a=[(1,.fsl (eL rL_B p1)),(7,.sl o1 0 s.2.length),(8,.fsl (eL rI r2)),(9,.int .i64 s.1)]/\J=hp E0 [(o1,some ⟨4,1,eL rB s.2⟩)] M1) (fun s x a J=>x=.exit 0/\Rc G 45 N0 (fun a J=>∃M2 o2:Nat,N0<=M2/\N0<=o2/\o2<M2/\a=[(7,.sl o2 0 s.length)]/\J=hp E0 [(o2,some ⟨4,1,eL rB s⟩)] M2) (AAct.keep a [7]) J) hse2 ?_ ?_ ?_
 .refine kp [1,7,8,9] ?_
  exact R2 (N0+8) (N0+1)
 .clear H hse2
  rintro⟨s3,s4⟩ fl a J H ⟨M1,o1,fM1_0,fM1_1,fM1_2,rfl,rfl⟩ K2 O2 hK2 hO2
  unfold xZ at H;dsimp only at H
  refine Wsq [1,7,8,9] fun K3 hK3=>?_
  refine qA [1,7,8,9,18] ?_
  refine Ci H ?_ ?_<;>intro H
  .refine Js hK3 ?_
   refine Wsq [1,7,8,9] fun K4 hK4=>?_
   refine Wb ?_
   refine qA [1,7,8,9,10] ?_
   refine Wb ?_
   obtain⟨e1,hse1,H⟩:=bE H
   refine zR [1,7,8,9,10] (fun s a J=>∃M3 o3:Nat,N0<=M3/\N0<=o3/\o3<M3/\a=[(1,.fsl (eL rL_B p1)),(7,.sl o3 0 s.2.length),(8,.fsl (eL rI r2)),(9,.int .i64 s3),(10,.int .i64 s.1)]/\J=hp E0 [(o3,some ⟨4,1,eL rB s.2⟩)] M3) (fun s x a J=>x=.exit 2/\Rc G 45 N0 (fun a J=>∃M4 o4:Nat,N0<=M4/\N0<=o4/\o4<M4/\a=[(1,.fsl (eL rL_B p1)),(7,.sl o4 0 s.length),(8,.fsl (eL rI r2)),(9,.int .i64 s3)]/\J=hp E0 [(o4,some ⟨4,1,eL rB s⟩)] M4) (AAct.keep a [1,7,8,9]) J) hse1 ?_ ?_ ?_
   .refine kp [1,7,8,9,10] ?_
    exact R2 (M1+5) o1
   .clear H hse1
    rintro⟨s6,s7⟩ fl a J H ⟨M3,o3,fM3_0,fM3_1,fM3_2,rfl,rfl⟩ K5 O5 hK5 hO5
    unfold xY at H;dsimp only at H
    refine Wsq [1,7,8,9,10] fun K6 hK6=>?_
    refine qA [1,7,8,9,10,22] ?_
    refine Ci H ?_ ?_<;>intro H
    .refine Js hK6 ?_
     refine Wsq [1,7,8,9,10] fun K7 hK7=>?_
     refine Wb ?_
     obtain⟨v9,hv9,H⟩:=bE H
     obtain⟨g13,hg13,H⟩:=bE H
     obtain⟨l14,hl14,H⟩:=bE H
     refine hG tok [] [1,7,8,9,10] (fun a J=>a=[(1,.fsl (eL rL_B p1)),(7,.sl o3 0 s7.length),(8,.fsl (eL rI r2)),(9,.int .i64 s3),(10,.int .i64 s6)]/\J=hp E0 [(o3,some ⟨4,1,eL rB l14⟩)] (M3+22)) (fun K hK=>?_) ?_
     .skip
      refine m1 (j (ixo39 hv9) (j ((zG hv9).2.2) ((setx_iff.1 hl14).2.symm))) ?_
      cases hbg13:v9
      .replace hg13:=ifF hbg13 hg13
       obtain⟨v10,hv10,hg13⟩:=bE hg13
       obtain⟨v11,hv11,hg13⟩:=bE hg13
       obtain⟨v12,hv12,hg13⟩:=bE hg13
       cases oj hg13
       refine m1 (j (ixo39 hv9) (j ((zG hv9).2.2) (j ((setx_iff.1 hl14).2.symm) (j hbg13 (j (ix23 hv10) (j (ix43 hv11) (ix39 hv12))))))) ?_
       exact hK _ _ ⟨rfl,rfl⟩
      cases oj (ifT hbg13 hg13)
      refine m1 (j (ixo39 hv9) (j ((zG hv9).2.2) (j ((setx_iff.1 hl14).2.symm) hbg13))) ?_
      exact hK _ _ ⟨rfl,rfl⟩
     rintro a J ⟨ha,rfl⟩
     (try rw[<- zE hl14] at ha);(try rw[<- zE hl14])
     refine hK7 _ _ ?_;rw[ha]
     refine Rc.mk ?_
     obtain rfl:=oi H
     refine qI hK5 ?_
     exact R2 (M3+25) o3
    obtain rfl:=oi H
    refine zK (hO5 _ _ _ _ rfl ⟨rfl,?_⟩)
    refine kr ?_
    exact R2 (M3+2) o3
   intro x a J hx
   obtain⟨y8,rfl⟩:∃x,x=e1:=⟨_,rfl⟩
   obtain⟨rfl,b,U,hr,M4,o4,fM4_0,fM4_1,fM4_2,rfl,rfl⟩:=hx
   (try dsimp only at H)
   show K4 _ _
   refine hK4 _ _ (zH hr ?_)
   refine Rc.mk ?_
   obtain rfl:=oi H
   refine qI hK2 ?_
   exact R2 (M4+3) o4
  cases oj H
  refine zK (hO2 _ _ _ _ rfl ⟨rfl,?_⟩)
  refine kr ?_
  exact R2 (M1+4) o1
 intro x a J hx
 obtain⟨y5,rfl⟩:∃x,x=e2:=⟨_,rfl⟩
 obtain⟨rfl,b,U,hr,M2,o2,fM2_0,fM2_1,fM2_2,rfl,rfl⟩:=hx
 (try dsimp only at H)
 show K1 _ _
 refine hK1 _ _ (zH hr ?_)
 refine Rc.mk ?_
 refine qA [6] ?_
 cases oj H;exact W4

theorem c192 {p0:gQuad}{r:List Int}(H:tC p0=some r):APure Tryz.prog G 192 [.agg [.int .i64 p0.Op,.int .i64 p0.Dst,.int .i64 p0.A,.int .i64 p0.B,.int .i64 p0.N]] (.fsl (eL rI r)):=by
 refine qK func192 ntmps192 results192 fun N0=>?_
 unfold tC at H
 refine S0 tok [0] [1] ?_
 refine Wsq [1] fun K1 hK1=>?_
 obtain⟨r1,hr1,H⟩:=bE H
 refine qD [1,5] (c119 hr1) ?_
 refine Ci H ?_ ?_<;>intro H
 .have q0:∀J i,bsA T 23 true i 0 [] J=some (.esl,J):=fun _ _=>rfl
  refine Sy tok [0] [2] q0 ?_
  cases oj H;exact W4
 refine Js hK1 ?_
 refine Wsq [] fun K2 hK2=>?_
 refine qA [1,8] ?_
 refine Wb ?_
 obtain⟨j1,hj1,H⟩:=bE H
 refine kP (kN fun K4 hK4=>?_)
 have hJ1:∀a J,Rc G 39 N0 (fun a J=>∃M1:Nat,N0<=M1/\a=[(1,.fptr [.int .i64 p0.Op,.int .i64 p0.Dst,.int .i64 p0.A,.int .i64 p0.B,.int .i64 p0.N] 0),(8,.int .i64 p0.Op),(9,.bool j1)]/\J=hp E0 [] M1) (a.keep [1,8,9]) J->K4 a J:=by
  rintro a J ⟨b,U,hr,M1,fM1_0,rfl,rfl⟩
  refine hK4 _ _ (kG [1,8,9] (Wre hr ?_))
  refine Ci H ?_ ?_<;>intro H
  .have q1:∀J i,bsA T 23 true i 1 [(0,.int .i64 p0.A)] J=some (.fsl (eL rI ([p0.A]:List Int)),J):=fun _ _=>rfl
   refine Sy tok [2] [2] q1 ?_
   cases oj H;exact W4
  refine qA [1,17] ?_
  refine Ci H ?_ ?_<;>intro H
  .refine Wsq [1] fun K3 hK3=>?_
   refine qA [1,23] ?_
   refine Ci H ?_ ?_<;>intro H
   .have q2:∀J i,bsA T 23 true i 1 [(0,.int .i64 p0.A)] J=some (.fsl (eL rI ([p0.A]:List Int)),J):=fun _ _=>rfl
    refine Sy tok [2] [2] q2 ?_
    cases oj H;exact W4
   refine Js hK3 ?_
   have q3:∀J i,bsA T 23 true i 2 [(0,.int .i64 (imin p0.A p0.B)),(1,.int .i64 (imax p0.A p0.B))] J=some (.fsl (eL rI ([imin p0.A p0.B,imax p0.A p0.B]:List Int)),J):=fun _ _=>rfl
   refine Sy tok [10] [2] q3 ?_
   cases oj H;exact W4
  refine Js hK2 ?_
  have q4:∀J i,bsA T 23 true i 0 [] J=some (.esl,J):=fun _ _=>rfl
  refine Sy tok [0] [2] q4 ?_
  cases oj H;exact W4
 replace H:=hj1
 refine qA [1,8,9] ?_
 refine Ci H ?_ ?_<;>intro H
 .refine Wsk ?_
  show K4 _ _
  refine kE [1,8,9] fun a' ha=>?_
  cases oj H
  refine hJ1 _ _ ?_;rw[ha]
  exact R1 (N0+9)
 refine qA [1,8,9] ?_
 refine Ci H ?_ ?_<;>intro H
 .refine Wsk ?_
  show K4 _ _
  refine kE [1,8,9] fun a' ha=>?_
  cases oj H
  refine hJ1 _ _ ?_;rw[ha]
  exact R1 (N0+11)
 refine qA [1,8,9] ?_
 refine Ci H ?_ ?_<;>intro H
 .refine Wsk ?_
  show K4 _ _
  refine kE [1,8,9] fun a' ha=>?_
  cases oj H
  refine hJ1 _ _ ?_;rw[ha]
  exact R1 (N0+13)
 refine Rt0 tok [] [1,8,9] fun a ha=>?_
 cases oj H
 refine hJ1 _ _ ?_;rw[ha]
 exact R1 (N0+15)

theorem c188 {p0:List Bool}{p1:List Bool}{r:Bool}(H:oV p0 p1=some r):APure Tryz.prog G 188 [.fsl (eL rB p0),.fsl (eL rB p1)] (.bool r):=by
 refine qK func188 ntmps188 results188 fun N0=>?_
 unfold oV at H
 refine qA [0,1] ?_
 refine Wsq [0,1] fun K1 hK1=>?_
 refine qA [0,1,5] ?_
 refine Wb ?_
 obtain⟨e1,hse1,H⟩:=bE H
 refine zR [0,1,5] (fun s a J=>∃M1:Nat,N0<=M1/\a=[(0,.fsl (eL rB p0)),(1,.fsl (eL rB p1)),(5,.int .i64 s)]/\J=hp E0 [] M1) (fun e x a J=>match e with|.inl s=>x=.exit 0/\Rc G 26 N0 (fun a J=>∃M2:Nat,N0<=M2/\a=[(0,.fsl (eL rB p0)),(1,.fsl (eL rB p1))]/\J=hp E0 [] M2) (AAct.keep a [0,1]) J|.inr s=>x=.ret/\∃vs,resA T J a [.tmp 4]=some vs/\∃d,thawA (fun _=>true) J d (tupA vs)=.bool s) hse1 ?_ ?_ ?_
 .refine kp [0,1,5] ?_
  exact R1 (N0+2)
 .clear H hse1
  rintro s1 fl a J H ⟨M1,fM1_0,rfl,rfl⟩ K2 O2 hK2 hO2
  unfold sI at H;dsimp only at H
  refine Wsq [0,1,5] fun K3 hK3=>?_
  refine qA [0,1,5,9] ?_
  refine Ci H ?_ ?_<;>intro H
  .refine Js hK3 ?_
   refine Wsq [0,1,5] fun K4 hK4=>?_
   refine Wb ?_
   obtain⟨v2,hv2,H⟩:=bE H
   obtain⟨v3,hv3,H⟩:=bE H
   refine Sd tok tokM [] [] [0,1,2,3,4,5,6,7,8] [0,1,5,20] (by
    intro K k
    simp only[pickL,zJ,zL]
    refine m2 (ix39 hv2) (ix39 hv3) ?_
    exact k) ?_
   refine Ci H ?_ ?_<;>intro H
   .refine qA [4] ?_
    cases oj H
    refine Kp [4] ?_
    refine Wr (hO2 _ _ _ _ rfl ⟨rfl,?_⟩)
    exact⟨[.bool false],by simp,4,by simp[eN]⟩
   refine Js hK4 ?_
   obtain rfl:=oi H
   refine qI hK2 ?_
   exact R1 (M1+16)
  cases oj H
  refine zK (hO2 _ _ _ _ rfl ⟨rfl,?_⟩)
  refine kr ?_
  exact R1 (M1+4)
 intro x a J hx
 rcases e1 with⟨⟩|r0
 .obtain⟨rfl,b,U,hr,M2,fM2_0,rfl,rfl⟩:=hx
  (try dsimp only at H)
  show K1 _ _
  refine hK1 _ _ (zH hr ?_)
  refine Rc.mk ?_
  refine qA [4] ?_
  cases oj H;exact W4
 obtain⟨rfl,hx2⟩:=hx
 (try dsimp only at H)
 cases oj H;first|exact hx2|(simp only[List.set_set] at hx2 ⊢;exact hx2)

theorem c158_o {p0:List gQuad}{p1:(List (List Bool))}{p2:Int}{r:List Bool}(H:vT p0 p1 p2=some r){J:AHeap}:ACalls Tryz.prog G 158 [.fsl (eL rQuad p0),.fsl (eL rL_B p1),.int .i64 p2] J (fun v J'=>∃M n0:Nat,J.next<=M/\J.next<=n0/\n0<M/\v=.sl n0 0 r.length/\J'=hp J.objs [(n0,some ⟨4,1,eL rB r⟩)] M):=by
 refine fr2 [] (by simp) (fun hlt=>?_) ⟨_,func158,rfl,rfl⟩
 generalize J.next=N0 at hlt ⊢
 refine fnK tok func158 ntmps158 results158 ?_
 simp only[argsA,Nat.reduceAdd,hpN]
 unfold vT at H
 refine qA [0,1,2] ?_
 obtain⟨l1,hl1,H⟩:=bE H
 refine qB [0,1,2,7] (mak39 hl1) ?_
 obtain⟨r2,hr2,H⟩:=bE H
 refine qD [1,7,8] (c176 hr2) ?_
 refine Wsq [7] fun K1 hK1=>?_
 refine qA [1,7,8,9] ?_
 refine Wb ?_
 obtain⟨e2,hse2,H⟩:=bE H
 refine zR [1,7,8,9] (fun s a J=>∃M1 o1:Nat,N0<=M1/\N0<=o1/\o1<M1/\a=[(1,.fsl (eL rL_B p1)),(7,.sl o1 0 s.2.length),(8,.fsl (eL rI r2)),(9,.int .i64 s.1)]/\J=hp E0 [(o1,some ⟨4,1,eL rB s.2⟩)] M1) (fun s x a J=>x=.exit 0/\Rc G 45 N0 (fun a J=>∃M2 o2:Nat,N0<=M2/\N0<=o2/\o2<M2/\a=[(7,.sl o2 0 s.length)]/\J=hp E0 [(o2,some ⟨4,1,eL rB s⟩)] M2) (AAct.keep a [7]) J) hse2 ?_ ?_ ?_
 .refine kp [1,7,8,9] ?_
  exact R2 (N0+8) (N0+1)
 .clear H hse2
  rintro⟨s3,s4⟩ fl a J H ⟨M1,o1,fM1_0,fM1_1,fM1_2,rfl,rfl⟩ K2 O2 hK2 hO2
  unfold oX at H;dsimp only at H
  refine Wsq [1,7,8,9] fun K3 hK3=>?_
  refine qA [1,7,8,9,18] ?_
  refine Ci H ?_ ?_<;>intro H
  .refine Js hK3 ?_
   refine Wsq [1,7,8,9] fun K4 hK4=>?_
   refine Wb ?_
   refine qA [1,7,8,9,10] ?_
   refine Wb ?_
   obtain⟨e1,hse1,H⟩:=bE H
   refine zR [1,7,8,9,10] (fun s a J=>∃M3 o3:Nat,N0<=M3/\N0<=o3/\o3<M3/\a=[(1,.fsl (eL rL_B p1)),(7,.sl o3 0 s.2.length),(8,.fsl (eL rI r2)),(9,.int .i64 s3),(10,.int .i64 s.1)]/\J=hp E0 [(o3,some ⟨4,1,eL rB s.2⟩)] M3) (fun s x a J=>x=.exit 2/\Rc G 45 N0 (fun a J=>∃M4 o4:Nat,N0<=M4/\N0<=o4/\o4<M4/\a=[(1,.fsl (eL rL_B p1)),(7,.sl o4 0 s.length),(8,.fsl (eL rI r2)),(9,.int .i64 s3)]/\J=hp E0 [(o4,some ⟨4,1,eL rB s⟩)] M4) (AAct.keep a [1,7,8,9]) J) hse1 ?_ ?_ ?_
   .refine kp [1,7,8,9,10] ?_
    exact R2 (M1+5) o1
   .clear H hse1
    rintro⟨s6,s7⟩ fl a J H ⟨M3,o3,fM3_0,fM3_1,fM3_2,rfl,rfl⟩ K5 O5 hK5 hO5
    unfold oW at H;dsimp only at H
    refine Wsq [1,7,8,9,10] fun K6 hK6=>?_
    refine qA [1,7,8,9,10,22] ?_
    refine Ci H ?_ ?_<;>intro H
    .refine Js hK6 ?_
     refine Wsq [1,7,8,9,10] fun K7 hK7=>?_
     refine Wb ?_
     obtain⟨v9,hv9,H⟩:=bE H
     obtain⟨g13,hg13,H⟩:=bE H
     obtain⟨l14,hl14,H⟩:=bE H
     refine hG tok [] [1,7,8,9,10] (fun a J=>a=[(1,.fsl (eL rL_B p1)),(7,.sl o3 0 s7.length),(8,.fsl (eL rI r2)),(9,.int .i64 s3),(10,.int .i64 s6)]/\J=hp E0 [(o3,some ⟨4,1,eL rB l14⟩)] (M3+22)) (fun K hK=>?_) ?_
     .skip
      refine m1 (j (ixo39 hv9) (j ((zG hv9).2.2) ((setx_iff.1 hl14).2.symm))) ?_
      cases hbg13:v9
      .replace hg13:=ifF hbg13 hg13
       obtain⟨v10,hv10,hg13⟩:=bE hg13
       obtain⟨v11,hv11,hg13⟩:=bE hg13
       obtain⟨v12,hv12,hg13⟩:=bE hg13
       cases oj hg13
       refine m1 (j (ixo39 hv9) (j ((zG hv9).2.2) (j ((setx_iff.1 hl14).2.symm) (j hbg13 (j (ix23 hv10) (j (ix43 hv11) (ix39 hv12))))))) ?_
       exact hK _ _ ⟨rfl,rfl⟩
      cases oj (ifT hbg13 hg13)
      refine m1 (j (ixo39 hv9) (j ((zG hv9).2.2) (j ((setx_iff.1 hl14).2.symm) hbg13))) ?_
      exact hK _ _ ⟨rfl,rfl⟩
     rintro a J ⟨ha,rfl⟩
     (try rw[<- zE hl14] at ha);(try rw[<- zE hl14])
     refine hK7 _ _ ?_;rw[ha]
     refine Rc.mk ?_
     obtain rfl:=oi H
     refine qI hK5 ?_
     exact R2 (M3+25) o3
    obtain rfl:=oi H
    refine zK (hO5 _ _ _ _ rfl ⟨rfl,?_⟩)
    refine kr ?_
    exact R2 (M3+2) o3
   intro x a J hx
   obtain⟨y8,rfl⟩:∃x,x=e1:=⟨_,rfl⟩
   obtain⟨rfl,b,U,hr,M4,o4,fM4_0,fM4_1,fM4_2,rfl,rfl⟩:=hx
   (try dsimp only at H)
   show K4 _ _
   refine hK4 _ _ (zH hr ?_)
   refine Rc.mk ?_
   obtain rfl:=oi H
   refine qI hK2 ?_
   exact R2 (M4+3) o4
  cases oj H
  refine zK (hO2 _ _ _ _ rfl ⟨rfl,?_⟩)
  refine kr ?_
  exact R2 (M1+4) o1
 intro x a J hx
 obtain⟨y5,rfl⟩:∃x,x=e2:=⟨_,rfl⟩
 obtain⟨rfl,b,U,hr,M2,o2,fM2_0,fM2_1,fM2_2,rfl,rfl⟩:=hx
 (try dsimp only at H)
 show K1 _ _
 refine hK1 _ _ (zH hr ?_)
 refine Rc.mk ?_
 refine qA [6] ?_
 obtain rfl:=oi H
 refine Kp [6] ?_
 exact V2 j0 (M2+2) o2

theorem c158_o_b {p0:List gQuad}{p1:(List (List Bool))}{p2:Int}{r:List Bool}(H:vT p0 p1 p2=some r){J:AHeap}{args:List AV}(hy:args.map (thawA (fun _=>true) J 8)=[.fsl (eL rQuad p0),.fsl (eL rL_B p1),.int .i64 p2]):ACalls Tryz.prog G 158 args J (fun v J'=>∃M n0:Nat,J.next<=M/\J.next<=n0/\n0<M/\v=.sl n0 0 r.length/\J'=hp J.objs [(n0,some ⟨4,1,eL rB r⟩)] M):=by
 refine borrowQ 8 8 (c158_o (J:=⟨E0,J.next⟩) H) hy ?_
 rintro _ _ ⟨M,n0,h0,h1,h2,rfl,rfl⟩
 refine⟨_,M,rfl,by simp[AV.rnf,AV.simp1],fun p hp ob ho=>?_,by simp,M,n0,h0,h1,h2,rfl,rfl⟩
 simp only[List.mem_cons,List.not_mem_nil,or_false] at hp
 rcases hp with rfl<;>(cases ho;first|exact encL_nf (fun x=>nf_rB 7 x) _|simp[AV.nf,AV.simp1])

theorem c187_o {p0:gQuad}{p1:List Bool}{r:List Bool}(H:xX p0 p1=some r){J:AHeap}:ACalls Tryz.prog G 187 [.agg [.int .i64 p0.Op,.int .i64 p0.Dst,.int .i64 p0.A,.int .i64 p0.B,.int .i64 p0.N],.fsl (eL rB p1)] J (fun v J'=>∃M n0:Nat,J.next<=M/\J.next<=n0/\n0<M/\v=.sl n0 0 r.length/\J'=hp J.objs [(n0,some ⟨4,1,eL rB r⟩)] M):=by
 refine fr2 [] (by simp) (fun hlt=>?_) ⟨_,func187,rfl,rfl⟩
 generalize J.next=N0 at hlt ⊢
 refine fnK tok func187 ntmps187 results187 ?_
 simp only[argsA,Nat.reduceAdd,hpN]
 unfold xX at H
 refine S0 tok [0] [1,2] ?_
 obtain⟨l1,hl1,H⟩:=bE H
 have q0:∀J i,bsA T 39 true i 0 [] J=some (.esl,J):=fun _ _=>rfl
 refine Sz tok [0] [2,5] q0 (appe39 hl1) ?_
 obtain⟨j1,hj1,H⟩:=bE H
 refine kP (kN fun K5 hK5=>?_)
 have hJ1:∀a J,Rc G 33 N0 (fun a J=>∃M1:Nat,N0<=M1/\N0+4<M1/\a=[(2,.fptr [.int .i64 p0.Op,.int .i64 p0.Dst,.int .i64 p0.A,.int .i64 p0.B,.int .i64 p0.N] 0),(5,.sl (N0+4) 0 j1.length)]/\J=hp E0 [(N0+4,some ⟨4,1,eL rB j1⟩)] M1) (a.keep [2,5]) J->K5 a J:=by
  rintro a J ⟨b,U,hr,M1,fM1_0,fM1_1,rfl,rfl⟩
  refine hK5 _ _ (kG [2,5] (Wre hr ?_))
  obtain⟨r3,hr3,H⟩:=bE H
  refine qD [5,6] (c192 hr3) ?_
  refine Wsq [5] fun K1 hK1=>?_
  refine qA [5,6,7] ?_
  refine Wb ?_
  obtain⟨e2,hse2,H⟩:=bE H
  refine zR [5,6,7] (fun s a J=>∃M2 o1:Nat,N0<=M2/\N0<=o1/\o1<M2/\a=[(5,.sl o1 0 s.2.length),(6,.fsl (eL rI r3)),(7,.int .i64 s.1)]/\J=hp E0 [(o1,some ⟨4,1,eL rB s.2⟩)] M2) (fun s x a J=>x=.exit 0/\Rc G 33 N0 (fun a J=>∃M3 o2:Nat,N0<=M3/\N0<=o2/\o2<M3/\a=[(5,.sl o2 0 s.length)]/\J=hp E0 [(o2,some ⟨4,1,eL rB s⟩)] M3) (AAct.keep a [5]) J) hse2 ?_ ?_ ?_
  .refine kp [5,6,7] ?_
   exact R2 (M1+4) (N0+4)
  .clear H hse2
   rintro⟨s4,s5⟩ fl a J H ⟨M2,o1,fM2_0,fM2_1,fM2_2,rfl,rfl⟩ K2 O2 hK2 hO2
   unfold nZ at H;dsimp only at H
   refine Wsq [5,6,7] fun K3 hK3=>?_
   refine qA [5,6,7,23] ?_
   refine Ci H ?_ ?_<;>intro H
   .refine Js hK3 ?_
    refine Wsq [5,6,7] fun K4 hK4=>?_
    refine Wb ?_
    obtain⟨v7,hv7,H⟩:=bE H
    obtain⟨v8,hv8,H⟩:=bE H
    obtain⟨l9,hl9,H⟩:=bE H
    refine Rt tok [] [5,6,7] (by intro K k;simp -dsimp -implicitDefEqProofs [ix23 hv7,ixo39 hv8,(zG hv8).2.2,(setx_iff.1 hl9).2.symm];exact k) fun a ha=>?_
    (try rw[<- zE hl9] at ha);(try rw[<- zE hl9])
    refine hK4 _ _ ?_;rw[ha]
    refine Rc.mk ?_
    obtain rfl:=oi H
    refine qI hK2 ?_
    exact R2 (M2+14) o1
   cases oj H
   refine zK (hO2 _ _ _ _ rfl ⟨rfl,?_⟩)
   refine kr ?_
   exact R2 (M2+4) o1
  intro x a J hx
  obtain⟨y6,rfl⟩:∃x,x=e2:=⟨_,rfl⟩
  obtain⟨rfl,b,U,hr,M3,o2,fM3_0,fM3_1,fM3_2,rfl,rfl⟩:=hx
  (try dsimp only at H)
  show K1 _ _
  refine hK1 _ _ (zH hr ?_)
  refine Rc.mk ?_
  refine qA [4] ?_
  obtain rfl:=oi H
  refine Kp [4] ?_
  exact V2 j0 (M3+2) o2
 replace H:=hj1
 obtain⟨r10,hr10,H⟩:=bE H
 refine qD [2,5,13] (c191 hr10) ?_
 refine Ci H ?_ ?_<;>intro H
 .obtain⟨v11,hv11,H⟩:=bE H
  obtain⟨l12,hl12,H⟩:=bE H
  refine Rt tok [] [2,5] (by intro K k;(repeat first|simp -dsimp -implicitDefEqProofs [ixo39 hv11,(zG hv11).2.2,(setx_iff.1 hl12).2.symm]|refine(c191 hr10).app ?_);exact k) fun a ha=>?_
  (try rw[<- zE hl12] at ha);(try rw[<- zE hl12])
  cases oj H
  refine hJ1 _ _ ?_;rw[ha]
  exact R1 (N0+14)
 refine Wsk ?_
 show K5 _ _
 refine kE [2,5] fun a' ha=>?_
 cases oj H
 refine hJ1 _ _ ?_;rw[ha]
 exact R1 (N0+9)

theorem c187_o_b {p0:gQuad}{p1:List Bool}{r:List Bool}(H:xX p0 p1=some r){J:AHeap}{args:List AV}(hy:args.map (thawA (fun _=>true) J 8)=[.agg [.int .i64 p0.Op,.int .i64 p0.Dst,.int .i64 p0.A,.int .i64 p0.B,.int .i64 p0.N],.fsl (eL rB p1)]):ACalls Tryz.prog G 187 args J (fun v J'=>∃M n0:Nat,J.next<=M/\J.next<=n0/\n0<M/\v=.sl n0 0 r.length/\J'=hp J.objs [(n0,some ⟨4,1,eL rB r⟩)] M):=by
 refine borrowQ 8 8 (c187_o (J:=⟨E0,J.next⟩) H) hy ?_
 rintro _ _ ⟨M,n0,h0,h1,h2,rfl,rfl⟩
 refine⟨_,M,rfl,by simp[AV.rnf,AV.simp1],fun p hp ob ho=>?_,by simp,M,n0,h0,h1,h2,rfl,rfl⟩
 simp only[List.mem_cons,List.not_mem_nil,or_false] at hp
 rcases hp with rfl<;>(cases ho;first|exact encL_nf (fun x=>nf_rB 7 x) _|simp[AV.nf,AV.simp1])

theorem c175 {p0:List gQuad}{p1:(List (List Bool))}{r:Bool×(List (List Bool))}(H:qX p0 p1=some r){J:AHeap}{w1:Nat}(q1:J.objs w1=some ⟨39,1,eL yP p1⟩):ACalls Tryz.prog G 175 [.fsl (eL rQuad p0),.sl w1 0 p1.length] J (fun v J'=>∃M:Nat,J.next<=M/\r.2.length=p1.length/\v=.bool r.1/\J'=hp J.objs [(w1,some ⟨39,1,eL yP r.2⟩)] M):=by
 refine xG (L:=[(w1,some ⟨39,1,eL yP p1⟩)]) (Q1:=fun v J'=>∃M:Nat,J.next<=M/\r.2.length=p1.length/\v=.bool r.1/\J'=hp E0 [(w1,some ⟨39,1,eL yP r.2⟩)] M) (by simp[q1]) (fun hlt=>?_) ?_ ⟨_,func175,rfl,rfl⟩
 rotate_left
 .rintro v J1 ⟨M,h0,h1,rfl,rfl⟩
  exact⟨_,M,rfl,by simp,by simp;try omega,M,h0,h1,rfl,rfl⟩
 generalize J.next=N0 at hlt ⊢
 have lw1:w1<N0:=hlt _ (.head _) rfl
 refine fnK tok func175 ntmps175 results175 ?_
 simp only[argsA,Nat.reduceAdd,hpN]
 unfold qX at H
 refine qA [0,1] ?_
 refine qA [0,1,5] ?_
 refine Wsq [5] fun K1 hK1=>?_
 refine qA [0,1,5,6] ?_
 refine Wb ?_
 obtain⟨e1,hse1,H⟩:=bE H
 refine zR [0,1,5,6] (fun s a J=>∃M1:Nat,N0<=M1/\s.2.2.length=p1.length/\a=[(0,.fsl (eL rQuad p0)),(1,.sl w1 0 s.2.2.length),(5,.bool s.1),(6,.int .i64 s.2.1)]/\J=hp E0 [(w1,some ⟨39,1,eL yP s.2.2⟩)] M1) (fun s x a J=>x=.exit 0/\Rc G 36 N0 (fun a J=>∃M2:Nat,N0<=M2/\s.2.length=p1.length/\a=[(5,.bool s.1)]/\J=hp E0 [(w1,some ⟨39,1,eL yP s.2⟩)] M2) (AAct.keep a [5]) J) hse1 ?_ ?_ ?_
 .refine kp [0,1,5,6] ?_
  exact Rf ⟨N0+6,(by omega),(by first|rfl|exact rfl|omega),rfl,rfl⟩
 .clear H hse1
  rintro⟨s1,s2,s3⟩ fl a J H ⟨M1,fM1_0,fM1_1,rfl,rfl⟩ K2 O2 hK2 hO2
  unfold nM at H;dsimp only at H
  refine Wsq [0,1,5,6] fun K3 hK3=>?_
  refine qA [0,1,5,6,12] ?_
  refine Ci H ?_ ?_<;>intro H
  .refine Js hK3 ?_
   refine Wsq [0,1,5,6] fun K4 hK4=>?_
   refine Wb ?_
   obtain⟨v6,hv6,H⟩:=bE H
   obtain⟨r7,hr7,H⟩:=bE H
   obtain⟨r8,hr8,H⟩:=bE H
   refine gO tok tokM [] [7,8] [0,1,2,3,4,5,6,7,8,9] [0,1,5,6,7] (fun a J=>∃M3 o1:Nat,∃M4 o2:Nat,M1+12<=M3/\M1+12<=o1/\o1<M3/\M3<=M4/\M3<=o2/\o2<M4/\a=[(0,.fsl (eL rQuad p0)),(1,.sl w1 0 s3.length),(5,.bool s1),(6,.int .i64 s2),(7,.sl o2 0 r8.length)]/\J=hp E0 [(w1,some ⟨39,1,eL yP s3⟩),(o1,some ⟨4,1,eL rB r7⟩),(o2,some ⟨4,1,eL rB r8⟩)] M4) (by decide) (fun K hK=>?_) ?_
   .simp only[pickL,zJ,zL]
    refine m1 (ix34 hv6) ?_
    refine(c158_o_b (H:=hr7) (by simp[ix34 hv6])).mono ?_;rintro _ _ ⟨M3,o1,fM3_0,fM3_1,fM3_2,rfl,rfl⟩;simp only[hpN] at fM3_0 fM3_1 fM3_2
    have eM3_0:=nQ o1 w1
    refine m1 (j (ix34 hv6) (j eM3_0 (j @hoS @hoN))) ?_
    refine(c187_o_b (H:=hr8) (by simp[ix34 hv6,eM3_0,hoS,hoN])).mono ?_;rintro _ _ ⟨M4,o2,fM4_0,fM4_1,fM4_2,rfl,rfl⟩;simp only[hpN] at fM4_0 fM4_1 fM4_2
    have eM4_0:=nQ o2 w1
    have eM4_1:=nQ o2 o1
    refine m1 (j (ix34 hv6) (j eM3_0 (j @hoS (j @hoN (j eM4_0 eM4_1))))) ?_
    exact hK _ _ ⟨M3,o1,M4,o2,(by omega),(by omega),(by omega),(by omega),(by omega),(by omega),rfl,rfl⟩
   rintro a J ⟨M3,o1,M4,o2,fM3_0,fM3_1,fM3_2,fM4_0,fM4_1,fM4_2,rfl,rfl⟩
   obtain⟨v9,hv9,H⟩:=bE H
   refine gU Wre w1 s2.toNat 0 ?_ (hr:=by exact sF yP hv9)
   obtain⟨r10,hr10,H⟩:=bE H
   refine jC tok [] [0,1,5,6,7,30] (fun a J=>a=[(0,.fsl (eL rQuad p0)),(1,.sl w1 0 s3.length),(5,.bool s1),(6,.int .i64 s2),(7,.sl o2 0 r8.length),(30,.bool (bnot r10))]/\J=hp E0 [(w1,some ⟨39,1,(eL yP s3).set s2.toNat [.sl M4 0 v9.length]⟩),(o1,some ⟨4,1,eL rB r7⟩),(o2,some ⟨4,1,eL rB r8⟩),(M4,some ⟨4,1,eL rB v9⟩)] (M4+8)) (fun K hK=>?_) ?_
   .skip
    have e0:=nQ w1 o1
    have e1:=nQ w1 o2
    have e2:=nQ w1 M4
    have e3:=nQ o1 o2
    have e4:=nQ o1 M4
    have e5:=nQ o2 M4
    refine m1 (j e0 (j e1 (j e2 (j e3 (j e4 (j e5 (j (gSt hv9) (j (ixo43 hv9) ((zG hv9).2.2))))))))) ?_
    refine(borrow 8 (c188 hr10) (by simp[e0,e1,e2,e3,e4,e5,(gset hv9 _),ixo43 hv9,(zG hv9).2.2]) rfl).mono ?_;rintro _ _ ⟨rfl,rfl⟩;try simp -dsimp -implicitDefEqProofs [e0,e1,e2,e3,e4,e5,(gset hv9 _),ixo43 hv9,(zG hv9).2.2]
    exact hK _ _ ⟨rfl,rfl⟩
   rintro a J ⟨rfl,rfl⟩
   refine Ci H ?_ ?_<;>intro H
   .have e0:=nQ w1 o1
    have e1:=nQ w1 o2
    have e2:=nQ w1 M4
    have e3:=nQ o1 o2
    have e4:=nQ o1 M4
    have e5:=nQ o2 M4
    refine qB [0,1,6] (j e0 (j e1 (j e2 (j e3 (j e4 (j e5 (j (gSt hv9) (j (ixo43 hv9) ((zG hv9).2.2))))))))) ?_
    have e0:=nQ w1 o1
    have e1:=nQ w1 o2
    have e2:=nQ w1 M4
    have e3:=nQ o1 o2
    have e4:=nQ o1 M4
    have e5:=nQ o2 M4
    refine qH (j e0 (j e1 (j e2 (j e3 (j e4 (j e5 (gSt hv9))))))) hK4 ?_
    have e0:=nQ w1 o1
    have e1:=nQ w1 o2
    have e2:=nQ w1 M4
    have e3:=nQ o1 o2
    have e4:=nQ o1 M4
    have e5:=nQ o2 M4
    refine Rt tok [] [0,1,5,6] (by intro K k;simp -dsimp -implicitDefEqProofs [e0,e1,e2,e3,e4,e5,(gset hv9 _)];exact k) fun a ha=>?_
    obtain⟨l11,hl11,H⟩:=bE H
    obtain rfl:=oi H
    refine hK2 _ _ _ rfl ?_;rw[ha]
    refine gP zH w1 s2.toNat 0 ?_ (hr:=by exact gset hv9 _)
    rw[show hp E0 [(w1,some ⟨39,1,(eL yP s3).set s2.toNat [.osl 4 1 (eL rB r8)]⟩),(o1,some ⟨4,1,eL rB r7⟩),(M4,some ⟨4,1,eL rB v9⟩)] (M4+17)=hp E0 [(w1,some ⟨39,1,eL yP l11⟩),(o1,some ⟨4,1,eL rB r7⟩),(M4,some ⟨4,1,eL rB v9⟩)] (M4+17) from by(try rw[zE hl11]);rw[(setx_iff.1 hl11).2,<- zY];rfl];(try rw[<- zE hl11])
    exact Rc.fin (zM (AHeap.Sub.trans (AHeap.Sub.trans (AHeap.Sub.refl _) (zU rfl (by simp;try omega))) (zU rfl (by simp;try omega)))) ⟨M4+17,(by omega),(by first|rfl|exact((zE hl11).trans fM1_1)|omega),rfl,rfl⟩
   refine Js hK4 ?_
   have e0:=nQ w1 o1
   have e1:=nQ w1 o2
   have e2:=nQ w1 M4
   have e3:=nQ o1 o2
   have e4:=nQ o1 M4
   have e5:=nQ o2 M4
   refine Rt tok [] [0,1,5,6] (by intro K k;simp -dsimp -implicitDefEqProofs [e0,e1,e2,e3,e4,e5,(gset hv9 _)];exact k) fun a ha=>?_
   obtain⟨l12,hl12,H⟩:=bE H
   obtain rfl:=oi H
   refine hK2 _ _ _ rfl ?_;rw[ha]
   refine gP zH w1 s2.toNat 0 ?_ (hr:=by exact gset hv9 _)
   rw[show hp E0 [(w1,some ⟨39,1,(eL yP s3).set s2.toNat [.osl 4 1 (eL rB v9)]⟩),(o1,some ⟨4,1,eL rB r7⟩),(o2,some ⟨4,1,eL rB r8⟩)] (M4+11)=hp E0 [(w1,some ⟨39,1,eL yP l12⟩),(o1,some ⟨4,1,eL rB r7⟩),(o2,some ⟨4,1,eL rB r8⟩)] (M4+11) from by(try rw[zE hl12]);rw[(setx_iff.1 hl12).2,<- zY];rfl];(try rw[<- zE hl12])
   exact Rc.fin (zM (AHeap.Sub.trans (AHeap.Sub.trans (AHeap.Sub.refl _) (zU rfl (by simp;try omega))) (zU rfl (by simp;try omega)))) ⟨M4+11,(by omega),(by first|rfl|exact((zE hl12).trans fM1_1)|omega),rfl,rfl⟩
  cases oj H
  refine zK (hO2 _ _ _ _ rfl ⟨rfl,?_⟩)
  refine kr ?_
  exact Rf ⟨M1+2,(by omega),(by first|rfl|exact fM1_1|omega),rfl,rfl⟩
 intro x a J hx
 obtain⟨y4,y5⟩:=e1
 obtain⟨rfl,b,U,hr,M2,fM2_0,fM2_1,rfl,rfl⟩:=hx
 (try dsimp only at H)
 show K1 _ _
 refine hK1 _ _ (zH hr ?_)
 refine Rc.mk ?_
 refine qA [4] ?_
 obtain rfl:=oi H
 refine Kp [4] ?_
 refine Wr ?_
 refine⟨[.bool y4],by simp,M2+2,by omega,by first|rfl|exact fM2_1|omega,?_,?_⟩
 .simp[eN]
 first|rfl|simp

theorem c156 {p0:List gQuad}{r:(List (List Bool))}(H:hZ p0=some r):APure Tryz.prog G 156 [.fsl (eL rQuad p0)] (.fsl (eL rL_B r)):=by
 refine qK func156 ntmps156 results156 fun N0=>?_
 unfold hZ at H
 refine qA [0] ?_
 have q0:∀J i,bsA T 43 true i 0 [] J=some (.esl,J):=fun _ _=>rfl
 refine Sy tok [0] [0,3] q0 ?_
 refine Wsq [0,3] fun K1 hK1=>?_
 obtain⟨r1,hr1,H⟩:=bE H
 refine qD [0,3,8] (c103 hr1) ?_
 refine Ci H ?_ ?_<;>intro H
 .refine qA [2] ?_
  cases oj H;exact W4
 refine Js hK1 ?_
 refine Wsq [0,3] fun K2 hK2=>?_
 refine qA [0,3,4] ?_
 refine Wb ?_
 obtain⟨e1,hse1,H⟩:=bE H
 refine zR [0,3,4] (fun s a J=>∃M1 o1:Nat,N0<=M1/\N0<=o1/\o1<M1/\a=[(0,.fsl (eL rQuad p0)),(3,.sl o1 0 s.2.length),(4,.int .i64 s.1)]/\J=hp E0 [(o1,some ⟨39,1,eL yP s.2⟩)] M1) (fun s x a J=>x=.exit 0/\Rc G 24 N0 (fun a J=>∃M2 o2:Nat,N0<=M2/\N0<=o2/\o2<M2/\a=[(0,.fsl (eL rQuad p0)),(3,.sl o2 0 s.length)]/\J=hp E0 [(o2,some ⟨39,1,eL yP s⟩)] M2) (AAct.keep a [0,3]) J) hse1 ?_ ?_ ?_
 .refine kp [0,3,4] ?_
  refine gNilS zH 3 39 1 [(N0+7,some ⟨39,1,eL yP ([]:List (List Bool))⟩)] [(0,.fsl (eL rQuad p0)),(3,.sl (N0+7) 0 ([]:List (List Bool)).length),(4,.int .i64 0)] (by simp(disch:=omega)) (by simp(disch:=omega) [eN]) [0,3,4] rfl ?_
  exact R2 (N0+8) (N0+7)
 .clear H hse1
  rintro⟨s2,s3⟩ fl a J H ⟨M1,o1,fM1_0,fM1_1,fM1_2,rfl,rfl⟩ K3 O3 hK3 hO3
  unfold tS at H;dsimp only at H
  refine Wsq [0,3,4] fun K4 hK4=>?_
  refine qA [0,3,4,13] ?_
  refine Ci H ?_ ?_<;>intro H
  .refine Js hK4 ?_
   refine Wsq [0,3,4] fun K5 hK5=>?_
   refine Wb ?_
   obtain⟨l5,hl5,H⟩:=bE H
   obtain⟨l6,hl6,H⟩:=bE H
   have q1:∀(a0:Nat) (a1:Nat) J i,bsA T 43 true i 1 [(0,.sl a0 0 a1)] J=some (.fsl [[.sl a0 0 a1]],J):=fun _ _ _ _=>rfl
   have e0:=nQ o1 (M1+5)
   have e1:=nQ o1 (M1+7)
   refine Rb tok [2] (j e0 (j e1 (j (mak39 hl5) (j q1 (apr43 yP hl6))))) hK5 ?_
   refine gP Wre (M1+7) s3.length 0 ?_ (hr:=by exact app_get _ _ _)
   rw[show hp E0 [(M1+7,some ⟨39,1,eL yP s3++[[.osl 4 1 (eL rB l5)]]⟩)] (M1+9)=hp E0 [(M1+7,some ⟨39,1,eL yP l6⟩)] (M1+9) from by rw[<- app_enc (f:=yP) (c:=[.osl 4 1 (eL rB l5)]) hl6 rfl]]
   obtain rfl:=oi H
   refine qI hK3 ?_
   exact R2 (M1+12) (M1+7)
  cases oj H
  refine zK (hO3 _ _ _ _ rfl ⟨rfl,?_⟩)
  refine kr ?_
  exact R2 (M1+4) o1
 intro x a J hx
 obtain⟨y4,rfl⟩:∃x,x=e1:=⟨_,rfl⟩
 obtain⟨rfl,b,U,hr,M2,o2,fM2_0,fM2_1,fM2_2,rfl,rfl⟩:=hx
 (try dsimp only at H)
 show K2 _ _
 refine hK2 _ _ (zH hr ?_)
 refine Rc.mk ?_
 refine Wsq [3] fun K6 hK6=>?_
 refine Wb ?_
 obtain⟨e2,hse2,H⟩:=bE H
 refine zR [0,3] (fun s a J=>∃M3 o3:Nat,N0<=M3/\N0<=o3/\o3<M3/\a=[(0,.fsl (eL rQuad p0)),(3,.sl o3 0 s.length)]/\J=hp E0 [(o3,some ⟨39,1,eL yP s⟩)] M3) (fun s x a J=>x=.exit 2/\Rc G 24 N0 (fun a J=>∃M4 o4:Nat,N0<=M4/\N0<=o4/\o4<M4/\a=[(3,.sl o4 0 s.length)]/\J=hp E0 [(o4,some ⟨39,1,eL yP s⟩)] M4) (AAct.keep a [3]) J) hse2 ?_ ?_ ?_
 .refine kp [0,3] ?_
  exact R2 M2 o2
 .clear H hse2
  rintro s7 fl a J H ⟨M3,o3,fM3_0,fM3_1,fM3_2,rfl,rfl⟩ K7 O7 hK7 hO7
  unfold gV at H;dsimp only at H
  refine Wsq [0,3] fun K8 hK8=>?_
  obtain⟨r9,hr9,H⟩:=bE H
  refine jC tok [] [0,3,22] (fun a J=>∃M5:Nat,M3+3<=M5/\r9.2.length=s7.length/\a=[(0,.fsl (eL rQuad p0)),(3,.sl o3 0 s7.length),(22,.bool r9.1)]/\J=hp E0 [(o3,some ⟨39,1,eL yP r9.2⟩)] M5) (fun K hK=>?_) ?_
  .skip
   refine m0 ?_
   refine(c175 (H:=hr9) (by simp)).mono ?_;rintro _ _ ⟨M5,fM5_0,fM5_1,rfl,rfl⟩;simp only[hpN] at fM5_0
   refine m2 @hoS @hoN ?_
   exact hK _ _ ⟨M5,(by omega),fM5_1,rfl,rfl⟩
  rintro a J ⟨M5,fM5_0,fM5_1,rfl,rfl⟩
  try rw[<- fM5_1]
  refine Ci H ?_ ?_<;>intro H
  .refine Js hK8 ?_
   refine Wb ?_
   refine Wsk ?_
   show K7 _ _
   refine kE [0,3] fun a' ha=>?_
   cases oj H
   refine hK7 _ _ _ rfl ?_;rw[ha]
   exact R2 M5 o3
  obtain rfl:=oi H
  refine zK (hO7 _ _ _ _ rfl ⟨rfl,?_⟩)
  refine kr ?_
  exact R2 M5 o3
 intro x a J hx
 obtain⟨y8,rfl⟩:∃x,x=e2:=⟨_,rfl⟩
 obtain⟨rfl,b,U,hr,M4,o4,fM4_0,fM4_1,fM4_2,rfl,rfl⟩:=hx
 (try dsimp only at H)
 show K6 _ _
 refine hK6 _ _ (zH hr ?_)
 refine Rc.mk ?_
 refine qA [2] ?_
 cases oj H;exact W4

theorem c157 {p0:gQuad}{p1:List Bool}{r:Bool}(H:oQ p0 p1=some r):APure Tryz.prog G 157 [.agg [.int .i64 p0.Op,.int .i64 p0.Dst,.int .i64 p0.A,.int .i64 p0.B,.int .i64 p0.N],.fsl (eL rB p1)] (.bool r):=by
 refine qK func157 ntmps157 results157 fun N0=>?_
 unfold oQ at H
 refine S0 tok [0] [1,2] ?_
 refine Wsq [] fun K1 hK1=>?_
 refine qA [1,2,6] ?_
 refine Wb ?_
 obtain⟨j1,hj1,H⟩:=bE H
 refine kP (kN fun K2 hK2=>?_)
 have hJ1:∀a J,Rc G 17 N0 (fun a J=>∃M1:Nat,N0<=M1/\a=[(1,.fsl (eL rB p1)),(2,.fptr [.int .i64 p0.Op,.int .i64 p0.Dst,.int .i64 p0.A,.int .i64 p0.B,.int .i64 p0.N] 0),(7,.bool j1)]/\J=hp E0 [] M1) (a.keep [1,2,7]) J->K2 a J:=by
  rintro a J ⟨b,U,hr,M1,fM1_0,rfl,rfl⟩
  refine hK2 _ _ (kG [1,2,7] (Wre hr ?_))
  refine Ci H ?_ ?_<;>intro H
  .obtain⟨v2,hv2,H⟩:=bE H
   refine qB [4] (ix39 hv2) ?_
   cases oj H;exact W4
  refine Js hK1 ?_
  refine qA [4] ?_
  cases oj H;exact W4
 replace H:=hj1
 refine qA [1,2,6,7] ?_
 refine Ci H ?_ ?_<;>intro H
 .refine Wsk ?_
  show K2 _ _
  refine kE [1,2,7] fun a' ha=>?_
  cases oj H
  refine hJ1 _ _ ?_;rw[ha]
  exact R1 (N0+6)
 refine qA [1,2,6,7] ?_
 refine Ci H ?_ ?_<;>intro H
 .refine Wsk ?_
  show K2 _ _
  refine kE [1,2,7] fun a' ha=>?_
  cases oj H
  refine hJ1 _ _ ?_;rw[ha]
  exact R1 (N0+8)
 refine Rt0 tok [] [1,2,7] fun a ha=>?_
 cases oj H
 refine hJ1 _ _ ?_;rw[ha]
 exact R1 (N0+10)

theorem c133 {p0:List gQuad}{r:(List gQuad)×Bool}(H:pJ p0=some r):APure Tryz.prog G 133 [.fsl (eL rQuad p0)] (.tup [.fsl (eL rQuad r.1),.bool r.2]):=by
 refine qK func133 ntmps133 results133 fun N0=>?_
 unfold pJ at H
 refine qA [0] ?_
 have q0:∀J i,bsA T 34 true i 0 [] J=some (.esl,J):=fun _ _=>rfl
 refine Sy tok [0] [0,4] q0 ?_
 refine Wsq [0,4] fun K1 hK1=>?_
 obtain⟨r1,hr1,H⟩:=bE H
 refine qD [0,4,11] (c103 hr1) ?_
 refine Ci H ?_ ?_<;>intro H
 .refine qA [2,3] ?_
  cases oj H;exact W4
 refine Js hK1 ?_
 obtain⟨r2,hr2,H⟩:=bE H
 refine qD [0,4,5] (c156 hr2) ?_
 refine Wsq [4] fun K2 hK2=>?_
 refine qA [0,4,5,6] ?_
 refine Wb ?_
 obtain⟨e2,hse2,H⟩:=bE H
 refine zR [0,4,5,6] (fun s a J=>∃M1 o1:Nat,N0<=M1/\N0<=o1/\o1<M1/\a=[(0,.fsl (eL rQuad p0)),(4,.sl o1 0 s.2.length),(5,.fsl (eL rL_B r2)),(6,.int .i64 s.1)]/\J=hp E0 [(o1,some ⟨36,5,eL rQuad s.2⟩)] M1) (fun s x a J=>x=.exit 0/\Rc G 39 N0 (fun a J=>∃M2 o2:Nat,N0<=M2/\N0<=o2/\o2<M2/\a=[(4,.sl o2 0 s.length)]/\J=hp E0 [(o2,some ⟨36,5,eL rQuad s⟩)] M2) (AAct.keep a [4]) J) hse2 ?_ ?_ ?_
 .refine kp [0,4,5,6] ?_
  refine gNilS zH 4 36 5 [(N0+11,some ⟨36,5,eL rQuad ([]:List gQuad)⟩)] [(0,.fsl (eL rQuad p0)),(4,.sl (N0+11) 0 ([]:List gQuad).length),(5,.fsl (eL rL_B r2)),(6,.int .i64 0)] (by simp(disch:=omega)) (by simp(disch:=omega) [eN]) [0,4,5,6] rfl ?_
  exact R2 (N0+12) (N0+11)
 .clear H hse2
  rintro⟨s3,s4⟩ fl a J H ⟨M1,o1,fM1_0,fM1_1,fM1_2,rfl,rfl⟩ K3 O3 hK3 hO3
  unfold uT at H;dsimp only at H
  refine Wsq [0,4,5,6] fun K4 hK4=>?_
  refine qA [0,4,5,6,18] ?_
  refine Ci H ?_ ?_<;>intro H
  .refine Js hK4 ?_
   refine Wsq [0,4,5,6] fun K5 hK5=>?_
   refine Wb ?_
   obtain⟨v6,hv6,H⟩:=bE H
   have e0:=nQ o1 (M1+8)
   refine qC [0,4,5,6,7] e0 (ix34 hv6) ?_
   obtain⟨j1,hj1,H⟩:=bE H
   refine kP (kN fun K6 hK6=>?_)
   have hJ1:∀a J,Rc G 39 N0 (fun a J=>∃M3:Nat,N0<=M3/\o1<M3/\M1+8<M3/\a=[(0,.fsl (eL rQuad p0)),(4,.sl o1 0 s4.length),(5,.fsl (eL rL_B r2)),(6,.int .i64 s3),(7,.ptr (M1+8) 0 0)]/\J=hp E0 [(o1,some ⟨36,5,eL rQuad s4⟩),(M1+8,some ⟨36,5,[[.int .i64 j1.Op,.int .i64 j1.Dst,.int .i64 j1.A,.int .i64 j1.B,.int .i64 j1.N]]⟩)] M3) (a.keep [0,4,5,6,7]) J->K6 a J:=by
    rintro a J ⟨b,U,hr,M3,fM3_0,fM3_1,fM3_2,rfl,rfl⟩
    refine hK6 _ _ (kG [0,4,5,6,7] (Wre hr ?_))
    obtain⟨l8,hl8,H⟩:=bE H
    have q1:∀J i,bsA T 34 true i 1 [(0,.agg [.int .i64 j1.Op,.int .i64 j1.Dst,.int .i64 j1.A,.int .i64 j1.B,.int .i64 j1.N])] J=some (.fsl (eL rQuad ([j1]:List gQuad)),J):=fun _ _=>rfl
    have e0:=nQ o1 (M1+8)
    have e1:=nQ o1 (M3+3)
    have e2:=nQ (M1+8) (M3+3)
    have e3:=nQ (M1+5) M3
    refine Rb tok [2] (j e0 (j e1 (j e2 (j e3 (j q1 (app34 hl8)))))) hK5 ?_
    have e0:=nQ (M1+8) (M3+3)
    have e1:=nQ (M1+5) M3
    obtain rfl:=oi H
    refine qJ (j e0 e1) hK3 ?_
    exact Rc.fin (AHeap.Sub.trans (zM (AHeap.Sub.refl _)) (zU rfl (by simp;try omega))) ⟨M3+8,(M3+3),(by omega),(by omega),(by omega),rfl,rfl⟩
   replace H:=hj1
   obtain⟨r9,hr9,H⟩:=bE H
   obtain⟨r10,hr10,H⟩:=bE H
   refine Sd tok tokM [] [0] [1,2,3,4,0,5] [0,4,5,6,7,30] (by
    intro K k
    have e0:=nQ o1 (M1+8)
    simp only[pickL,zJ,zL]
    repeat first|simp -dsimp -implicitDefEqProofs [e0]|refine Pc.mk (c158 hr9) ?_|refine Pc.mk (c157 hr10) ?_
    exact k) ?_
   refine Ci H ?_ ?_<;>intro H
   .have e0:=nQ o1 (M1+8)
    refine Rt tok [] [0,4,5,6,7] (by intro K k;simp -dsimp -implicitDefEqProofs [e0];exact k) fun a ha=>?_
    cases oj H
    refine hJ1 _ _ ?_;rw[ha]
    exact R1 (M1+20)
   refine Wsk ?_
   show K6 _ _
   refine kE [0,4,5,6,7] fun a' ha=>?_
   cases oj H
   refine hJ1 _ _ ?_;rw[ha]
   exact R1 (M1+16)
  cases oj H
  refine zK (hO3 _ _ _ _ rfl ⟨rfl,?_⟩)
  refine kr ?_
  exact R2 (M1+4) o1
 intro x a J hx
 obtain⟨y5,rfl⟩:∃x,x=e2:=⟨_,rfl⟩
 obtain⟨rfl,b,U,hr,M2,o2,fM2_0,fM2_1,fM2_2,rfl,rfl⟩:=hx
 (try dsimp only at H)
 show K2 _ _
 refine hK2 _ _ (zH hr ?_)
 refine Rc.mk ?_
 refine qA [2,3] ?_
 cases oj H;exact W4

theorem c177 {p0:List gQuad}{p1:List Bool}{r:Bool×(List Bool)}(H:wY p0 p1=some r){J:AHeap}{w1:Nat}(q1:J.objs w1=some ⟨4,1,eL rB p1⟩):ACalls Tryz.prog G 177 [.fsl (eL rQuad p0),.sl w1 0 p1.length] J (fun v J'=>∃M:Nat,J.next<=M/\r.2.length=p1.length/\v=.bool r.1/\J'=hp J.objs [(w1,some ⟨4,1,eL rB r.2⟩)] M):=by
 refine xG (L:=[(w1,some ⟨4,1,eL rB p1⟩)]) (Q1:=fun v J'=>∃M:Nat,J.next<=M/\r.2.length=p1.length/\v=.bool r.1/\J'=hp E0 [(w1,some ⟨4,1,eL rB r.2⟩)] M) (by simp[q1]) (fun hlt=>?_) ?_ ⟨_,func177,rfl,rfl⟩
 rotate_left
 .rintro v J1 ⟨M,h0,h1,rfl,rfl⟩
  exact⟨_,M,rfl,by simp,by simp;try omega,M,h0,h1,rfl,rfl⟩
 generalize J.next=N0 at hlt ⊢
 have lw1:w1<N0:=hlt _ (.head _) rfl
 refine fnK tok func177 ntmps177 results177 ?_
 simp only[argsA,Nat.reduceAdd,hpN]
 unfold wY at H
 refine qA [0,1] ?_
 refine qA [0,1,5] ?_
 refine Wsq [5] fun K1 hK1=>?_
 refine qA [0,1,5,6] ?_
 refine Wb ?_
 obtain⟨e2,hse2,H⟩:=bE H
 refine zR [0,1,5,6] (fun s a J=>∃M1:Nat,N0<=M1/\s.2.2.length=p1.length/\a=[(0,.fsl (eL rQuad p0)),(1,.sl w1 0 s.2.2.length),(5,.bool s.1),(6,.int .i64 s.2.1)]/\J=hp E0 [(w1,some ⟨4,1,eL rB s.2.2⟩)] M1) (fun s x a J=>x=.exit 0/\Rc G 44 N0 (fun a J=>∃M2:Nat,N0<=M2/\s.2.length=p1.length/\a=[(5,.bool s.1)]/\J=hp E0 [(w1,some ⟨4,1,eL rB s.2⟩)] M2) (AAct.keep a [5]) J) hse2 ?_ ?_ ?_
 .refine kp [0,1,5,6] ?_
  exact Rf ⟨N0+3,(by omega),(by first|rfl|exact rfl|omega),rfl,rfl⟩
 .clear H hse2
  rintro⟨s1,s2,s3⟩ fl a J H ⟨M1,fM1_0,fM1_1,rfl,rfl⟩ K2 O2 hK2 hO2
  unfold sT at H;dsimp only at H
  refine Wsq [0,1,5,6] fun K3 hK3=>?_
  refine qA [0,1,5,6,12] ?_
  refine Ci H ?_ ?_<;>intro H
  .refine Js hK3 ?_
   refine Wsq [0,1,5,6] fun K4 hK4=>?_
   refine Wb ?_
   refine Wsq [0,1,5,6] fun K5 hK5=>?_
   obtain⟨v6,hv6,H⟩:=bE H
   refine qC [0,1,5,6,19] (ixo39 hv6) ((zG hv6).2.2) ?_
   refine Ci H ?_ ?_<;>intro H
   .refine zK ?_
    show K4 _ _
    refine kE [0,1,5,6] fun a' ha=>?_
    refine hK4 _ _ ?_;rw[ha]
    refine Rc.mk ?_
    obtain rfl:=oi H
    refine qI hK2 ?_
    exact Rf ⟨M1+12,(by omega),(by first|rfl|exact fM1_1|omega),rfl,rfl⟩
   refine Js hK5 ?_
   obtain⟨r7,hr7,H⟩:=bE H
   refine qD [0,1,5,6,7] (c176 hr7) ?_
   refine qA [0,1,5,6,7,8] ?_
   refine Wb ?_
   obtain⟨e1,hse1,H⟩:=bE H
   refine zR [0,1,5,6,7,8] (fun s a J=>∃M3:Nat,N0<=M3/\s.2.2.length=p1.length/\a=[(0,.fsl (eL rQuad p0)),(1,.sl w1 0 s.2.2.length),(5,.bool s.1),(6,.int .i64 s2),(7,.fsl (eL rI r7)),(8,.int .i64 s.2.1)]/\J=hp E0 [(w1,some ⟨4,1,eL rB s.2.2⟩)] M3) (fun s x a J=>x=.exit 2/\Rc G 44 N0 (fun a J=>∃M4:Nat,N0<=M4/\s.2.length=p1.length/\a=[(0,.fsl (eL rQuad p0)),(1,.sl w1 0 s.2.length),(5,.bool s.1),(6,.int .i64 s2)]/\J=hp E0 [(w1,some ⟨4,1,eL rB s.2⟩)] M4) (AAct.keep a [0,1,5,6]) J) hse1 ?_ ?_ ?_
   .refine kp [0,1,5,6,7,8] ?_
    exact Rf ⟨M1+14,(by omega),(by first|rfl|exact fM1_1|omega),rfl,rfl⟩
   .clear H hse1
    rintro⟨s8,s9,s10⟩ fl a J H ⟨M3,fM3_0,fM3_1,rfl,rfl⟩ K6 O6 hK6 hO6
    unfold sS at H;dsimp only at H
    refine Wsq [0,1,5,6,7,8] fun K7 hK7=>?_
    refine qA [0,1,5,6,7,8,26] ?_
    refine Ci H ?_ ?_<;>intro H
    .refine Js hK7 ?_
     refine Wsq [0,1,5,6,7,8] fun K8 hK8=>?_
     refine Wb ?_
     obtain⟨v13,hv13,H⟩:=bE H
     obtain⟨v14,hv14,H⟩:=bE H
     refine qB [0,1,5,6,7,8,36] (j (ix23 hv13) (j (ixo39 hv14) ((zG hv14).2.2))) ?_
     refine Ci H ?_ ?_<;>intro H
     .obtain⟨l15,hl15,H⟩:=bE H
      refine qB [0,1,6,7,8] (j (ix23 hv13) (j (ixo39 hv14) (j ((zG hv14).2.2) ((setx_iff.1 hl15).2.symm)))) ?_
      try rw[<- zE hl15]
      refine qG hK8 ?_
      obtain rfl:=oi H
      refine qI hK6 ?_
      exact Rf ⟨M3+23,(by omega),(by first|rfl|exact((zE hl15).trans fM3_1)|omega),rfl,rfl⟩
     refine Js hK8 ?_
     obtain rfl:=oi H
     refine qI hK6 ?_
     exact Rf ⟨M3+15,(by omega),(by first|rfl|exact fM3_1|omega),rfl,rfl⟩
    cases oj H
    refine zK (hO6 _ _ _ _ rfl ⟨rfl,?_⟩)
    refine kr ?_
    exact Rf ⟨M3+4,(by omega),(by first|rfl|exact fM3_1|omega),rfl,rfl⟩
   intro x a J hx
   obtain⟨y11,y12⟩:=e1
   obtain⟨rfl,b,U,hr,M4,fM4_0,fM4_1,rfl,rfl⟩:=hx
   (try dsimp only at H)
   show K4 _ _
   refine hK4 _ _ (zH hr ?_)
   refine Rc.mk ?_
   obtain rfl:=oi H
   refine qI hK2 ?_
   exact Rf ⟨M4+3,(by omega),(by first|rfl|exact fM4_1|omega),rfl,rfl⟩
  cases oj H
  refine zK (hO2 _ _ _ _ rfl ⟨rfl,?_⟩)
  refine kr ?_
  exact Rf ⟨M1+4,(by omega),(by first|rfl|exact fM1_1|omega),rfl,rfl⟩
 intro x a J hx
 obtain⟨y4,y5⟩:=e2
 obtain⟨rfl,b,U,hr,M2,fM2_0,fM2_1,rfl,rfl⟩:=hx
 (try dsimp only at H)
 show K1 _ _
 refine hK1 _ _ (zH hr ?_)
 refine Rc.mk ?_
 refine qA [4] ?_
 obtain rfl:=oi H
 refine Kp [4] ?_
 refine Wr ?_
 refine⟨[.bool y4],by simp,M2+2,by omega,by first|rfl|exact fM2_1|omega,?_,?_⟩
 .simp[eN]
 first|rfl|simp

theorem c160 {p0:gQuad}{p1:Int}{r:Bool}(H:oP p0 p1=some r):APure Tryz.prog G 160 [.agg [.int .i64 p0.Op,.int .i64 p0.Dst,.int .i64 p0.A,.int .i64 p0.B,.int .i64 p0.N],.int .i64 p1] (.bool r):=by
 refine qK func160 ntmps160 results160 fun N0=>?_
 unfold oP at H
 refine S0 tok [0] [1,2] ?_
 refine Wsq [] fun K1 hK1=>?_
 refine qA [1,2,6] ?_
 refine Wb ?_
 obtain⟨j1,hj1,H⟩:=bE H
 refine kP (kN fun K2 hK2=>?_)
 have hJ1:∀a J,Rc G 22 N0 (fun a J=>∃M1:Nat,N0<=M1/\a=[(1,.int .i64 p1),(2,.fptr [.int .i64 p0.Op,.int .i64 p0.Dst,.int .i64 p0.A,.int .i64 p0.B,.int .i64 p0.N] 0),(6,.int .i64 p0.Op),(7,.bool j1)]/\J=hp E0 [] M1) (a.keep [1,2,6,7]) J->K2 a J:=by
  rintro a J ⟨b,U,hr,M1,fM1_0,rfl,rfl⟩
  refine hK2 _ _ (kG [1,2,6,7] (Wre hr ?_))
  refine Ci H ?_ ?_<;>intro H
  .refine qA [4] ?_
   cases oj H;exact W4
  refine qA [2,15] ?_
  refine Ci H ?_ ?_<;>intro H
  .refine qA [4] ?_
   cases oj H;exact W4
  refine Js hK1 ?_
  refine qA [4] ?_
  cases oj H;exact W4
 replace H:=hj1
 refine qA [1,2,6,7] ?_
 refine Ci H ?_ ?_<;>intro H
 .refine Wsk ?_
  show K2 _ _
  refine kE [1,2,6,7] fun a' ha=>?_
  cases oj H
  refine hJ1 _ _ ?_;rw[ha]
  exact R1 (N0+6)
 refine Rt0 tok [] [1,2,6,7] fun a ha=>?_
 cases oj H
 refine hJ1 _ _ ?_;rw[ha]
 exact R1 (N0+8)
end Go.Proofs.YtolmjhgondilhaaGreat
