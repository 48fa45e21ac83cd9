/- The contracts of functions of the program (BT1): each computes what its mirror computes. No conditions. -/
import Derived.Test.YtnaikeccpnadgaaGreatNBT0
set_option linter.unusedSimpArgs false
set_option linter.unusedVariables false
set_option maxRecDepth 20000
set_option maxHeartbeats 4000000
namespace Go.Proofs.YtnaikeccpnadgaaGreat
open Go Go.Abs Go.RowKit Tryz

theorem c196 {p0:Bool}{r:Int}(H:fP p0=some r):APure Tryz.prog G 196 [.bool p0] (.int .i64 r):=by
 refine qK func196 ntmps196 results196 fun N0=>?_
 unfold fP at H
 refine qA [0] ?_
 refine Wsq [] fun K1 hK1=>?_
 refine qA [3] ?_
 refine Ci H ?_ ?_<;>intro H
 .refine qA [2] ?_
  cases oj H;exact W4
 refine Js hK1 ?_
 refine qA [2] ?_
 cases oj H;exact W4

theorem c197 {p0:Int}{p1:Int}{p2:Bool}{r:Int}(H:nJ p0 p1 p2=some r):APure Tryz.prog G 197 [.int .i64 p0,.int .i64 p1,.bool p2] (.int .i64 r):=by
 refine qK func197 ntmps197 results197 fun N0=>?_
 unfold nJ at H
 refine qA [0,1,2] ?_
 refine Wsq [0,1] fun K1 hK1=>?_
 refine qA [0,1,7] ?_
 refine Ci H ?_ ?_<;>intro H
 .obtain⟨v1,hv1,H⟩:=bE H
  refine qB [6] hv1 ?_
  cases oj H;exact W4
 refine Js hK1 ?_
 obtain⟨v2,hv2,H⟩:=bE H
 obtain⟨r3,hr3,H⟩:=bE H
 refine qE [6] hv2 (c143 hr3) ?_
 cases oj H;exact W4

theorem c198 {p0:Int}{p1:Int}{r:Int}(H:nL p0 p1=some r):APure Tryz.prog G 198 [.int .i64 p0,.int .i64 p1] (.int .i64 r):=by
 refine qK func198 ntmps198 results198 fun N0=>?_
 unfold nL at H
 refine qA [0,1] ?_
 refine Wsq [0,1] fun K1 hK1=>?_
 refine qA [0,1,6] ?_
 refine Ci H ?_ ?_<;>intro H
 .refine qA [4] ?_
  cases oj H;exact W4
 refine Js hK1 ?_
 obtain⟨v1,hv1,H⟩:=bE H
 obtain⟨r2,hr2,H⟩:=bE H
 refine qE [4] hv1 (c143 hr2) ?_
 cases oj H;exact W4

theorem c199 {p0:Int}{p1:Int}{r:Int}(H:nK p0 p1=some r):APure Tryz.prog G 199 [.int .i64 p0,.int .i64 p1] (.int .i64 r):=by
 refine qK func199 ntmps199 results199 fun N0=>?_
 unfold nK at H
 refine qA [0,1] ?_
 refine Wsq [0,1] fun K1 hK1=>?_
 refine qA [0,1,6] ?_
 refine Ci H ?_ ?_<;>intro H
 .refine qA [4] ?_
  cases oj H;exact W4
 refine Js hK1 ?_
 obtain⟨v1,hv1,H⟩:=bE H
 refine qB [4] hv1 ?_
 cases oj H;exact W4

theorem c192 {p0:Int}{p1:Int}{p2:Int}{r:Int×Bool}(H:mD p0 p1 p2=some r):APure Tryz.prog G 192 [.int .i64 p0,.int .i64 p1,.int .i64 p2] (.tup [.int .i64 r.1,.bool r.2]):=by
 refine qK func192 ntmps192 results192 fun N0=>?_
 unfold mD at H
 refine qA [0,1,2] ?_
 refine Wsq [0,1,2] fun K1 hK1=>?_
 obtain⟨r1,hr1,H⟩:=bE H
 obtain⟨g3,hg3,H⟩:=bE H
 obtain⟨g5,hg5,H⟩:=bE H
 refine qF tok [0,1,2,20] ([(0,.int .i64 p0),(1,.int .i64 p1),(2,.int .i64 p2),(20,.bool g5)]) (hp E0 [] (N0+15)) (by
  intro K k
  refine m0 ?_
  refine(c142 hr1).app (m0 ?_)
  cases hbg3:bnot r1
  .replace hg3:=ifF hbg3 hg3
   obtain⟨r2,hr2,hg3⟩:=bE hg3
   obtain rfl:=oi hg3
   refine m1 hbg3 ?_
   refine(c111 hr2).app (m1 hbg3 ?_)
   cases hbg5:(bnot r2)
   .replace hg5:=ifF hbg5 hg5
    obtain⟨r4,hr4,hg5⟩:=bE hg5
    cases oj hg5
    refine m2 hbg3 hbg5 ?_
    refine(c111 hr4).app (m2 hbg3 hbg5 ?_)
    exact k
   cases oj (ifT hbg5 hg5)
   exact m2 hbg3 hbg5 k
  cases oj (ifT hbg3 hg3)
  cases oj (ifT rfl hg5)
  refine m1 hbg3 ?_
  exact k) ?_
 refine Ci H ?_ ?_<;>intro H
 .refine qA [6,7] ?_
  cases oj H;exact W4
 refine Js hK1 ?_
 refine Wsq [1,2] fun K2 hK2=>?_
 refine qA [1,2,21] ?_
 refine Wb ?_
 refine qA [1,2,21,22] ?_
 refine Ci H ?_ ?_<;>intro H
 .refine qA [6,7] ?_
  cases oj H;exact W4
 refine qA [1,2,21,27] ?_
 refine Ci H ?_ ?_<;>intro H
 .refine qA [6,7] ?_
  cases oj H;exact W4
 refine qA [1,2,21,32] ?_
 refine Ci H ?_ ?_<;>intro H
 .refine qA [6,7] ?_
  cases oj H;exact W4
 refine qA [1,2,21,37] ?_
 refine Ci H ?_ ?_<;>intro H
 .obtain⟨r6,hr6,H⟩:=bE H
  refine qD [6,7] (c196 hr6) ?_
  cases oj H;exact W4
 refine qA [1,2,21,43] ?_
 refine Ci H ?_ ?_<;>intro H
 .obtain⟨r7,hr7,H⟩:=bE H
  refine qD [6,7] (c196 hr7) ?_
  cases oj H;exact W4
 refine qA [1,2,21,49] ?_
 refine Ci H ?_ ?_<;>intro H
 .obtain⟨r8,hr8,H⟩:=bE H
  refine qD [6,7] (c197 hr8) ?_
  cases oj H;exact W4
 refine qA [1,2,21,54] ?_
 refine Ci H ?_ ?_<;>intro H
 .obtain⟨r9,hr9,H⟩:=bE H
  refine qD [6,7] (c197 hr9) ?_
  cases oj H;exact W4
 refine qA [1,2,21,59] ?_
 refine Ci H ?_ ?_<;>intro H
 .obtain⟨r10,hr10,H⟩:=bE H
  refine qD [6,7] (c143 hr10) ?_
  cases oj H;exact W4
 refine qA [1,2,21,65] ?_
 refine Ci H ?_ ?_<;>intro H
 .obtain⟨r11,hr11,H⟩:=bE H
  refine qD [6,7] (c143 hr11) ?_
  cases oj H;exact W4
 refine qA [1,2,21,71] ?_
 refine Ci H ?_ ?_<;>intro H
 .obtain⟨r12,hr12,H⟩:=bE H
  refine qD [6,7] (c143 hr12) ?_
  cases oj H;exact W4
 refine qA [1,2,77] ?_
 refine Ci H ?_ ?_<;>intro H
 .obtain⟨r13,hr13,H⟩:=bE H
  refine qD [6,7] (c198 hr13) ?_
  cases oj H;exact W4
 refine Js hK2 ?_
 obtain⟨r14,hr14,H⟩:=bE H
 refine qD [6,7] (c199 hr14) ?_
 cases oj H;exact W4

theorem c185 {p0:gQuad}{p1:gFact}{p2:gFact}{r:gFact}(H:wG p0 p1 p2=some r):APure Tryz.prog G 185 [.agg [.int .i64 p0.Op,.int .i64 p0.Dst,.int .i64 p0.A,.int .i64 p0.B,.int .i64 p0.N],.agg [.int .i64 p1.Kind,.int .i64 p1.N],.agg [.int .i64 p2.Kind,.int .i64 p2.N]] (.agg [.int .i64 r.Kind,.int .i64 r.N]):=by
 refine qK func185 ntmps185 results185 fun N0=>?_
 unfold wG at H
 refine S0 tok [0,1,2] [3,4,5,6] ?_
 refine Wsq [3,4,5,6] fun K1 hK1=>?_
 obtain⟨g1,hg1,H⟩:=bE H
 refine qF tok [3,4,5,6,16] ([(3,.fptr [.int .i64 p0.Op,.int .i64 p0.Dst,.int .i64 p0.A,.int .i64 p0.B,.int .i64 p0.N] 0),(4,.fptr [.int .i64 p1.Kind,.int .i64 p1.N] 0),(5,.fptr [.int .i64 p2.Kind,.int .i64 p2.N] 0),(6,.ptr (N0+3) 0 0),(16,.bool g1)]) (hp E0 [(N0+3,some ⟨49,2,[[.int .i64 0,.int .i64 0]]⟩)] (N0+12)) (by
  intro K k
  refine m0 ?_
  cases hbg1:ine p1.Kind 1
  .cases oj (ifF hbg1 hg1)
   exact m1 hbg1 k
  cases oj (ifT hbg1 hg1)
  refine m1 hbg1 ?_
  exact k) ?_
 refine Ci H ?_ ?_<;>intro H
 .refine qA [6] ?_
  cases oj H
  refine Kp [6] ?_
  exact V0
 refine Js hK1 ?_
 obtain⟨r2,hr2,H⟩:=bE H
 refine qD [6,7] (c192 hr2) ?_
 refine qA [6] ?_
 obtain rfl:=oi H
 refine Kp [6] ?_
 exact V0

theorem c191 {p0:gFact}{p1:gFact}{r:gFact}(H:hU p0 p1=some r):APure Tryz.prog G 191 [.agg [.int .i64 p0.Kind,.int .i64 p0.N],.agg [.int .i64 p1.Kind,.int .i64 p1.N]] (.agg [.int .i64 r.Kind,.int .i64 r.N]):=by
 refine qK func191 ntmps191 results191 fun N0=>?_
 unfold hU at H
 refine S0 tok [0,1] [2,3,4] ?_
 refine Wsq [2,3,4] fun K1 hK1=>?_
 refine qA [2,3,4,7] ?_
 refine Ci H ?_ ?_<;>intro H
 .refine qA [4] ?_
  cases oj H
  refine Kp [4] ?_
  exact V0
 refine Js hK1 ?_
 refine Wsq [4] fun K2 hK2=>?_
 obtain⟨g1,hg1,H⟩:=bE H
 refine qF tok [2,4,16] ([(2,.fptr [.int .i64 p0.Kind,.int .i64 p0.N] 0),(4,.ptr (N0+2) 0 0),(16,.bool g1)]) (hp E0 [(N0+2,some ⟨49,2,[[.int .i64 0,.int .i64 0]]⟩)] (N0+14)) (by
  intro K k
  refine m0 ?_
  cases hbg1:ieq p1.Kind 0
  .cases oj (ifF hbg1 hg1)
   exact m1 hbg1 k
  cases oj (ifT hbg1 hg1)
  refine m1 hbg1 ?_
  exact k) ?_
 refine Ci H ?_ ?_<;>intro H
 .refine qA [4] ?_
  cases oj H
  refine Kp [4] ?_
  exact V0
 refine Js hK2 ?_
 refine qA [4] ?_
 cases oj H
 refine Kp [4] ?_
 exact V0

theorem c184 {p0:(List (List gFact))}{p1:Int}{p2:List gFact}{r:Bool×(List (List gFact))}(H:nH p0 p1 p2=some r){J:AHeap}{w0:Nat}(q0:J.objs w0=some ⟨44,1,eL zP p0⟩):ACalls Tryz.prog G 184 [.sl w0 0 p0.length,.int .i64 p1,.fsl (eL rFact p2)] J (fun v J'=>∃M:Nat,J.next<=M/\r.2.length=p0.length/\v=.bool r.1/\J'=hp J.objs [(w0,some ⟨44,1,eL zP r.2⟩)] M):=by
 refine uC (L:=[(w0,some ⟨44,1,eL zP p0⟩)]) (Q1:=fun v J'=>∃M:Nat,J.next<=M/\r.2.length=p0.length/\v=.bool r.1/\J'=hp E0 [(w0,some ⟨44,1,eL zP r.2⟩)] M) (by simp[q0]) (fun hlt=>?_) ?_ ⟨_,func184,rfl,rfl⟩
 rotate_left
 .rintro v J1 ⟨M,h0,h1,rfl,rfl⟩
  exact⟨_,M,rfl,by simp,by simp;try omega,M,h0,h1,rfl,rfl⟩
 generalize J.next=N0 at hlt ⊢
 have lw0:w0<N0:=hlt _ (.head _) rfl
 refine fnK tok func184 ntmps184 results184 ?_
 simp only[argsA,Nat.reduceAdd,hpN]
 unfold nH at H
 refine qA [0,1,2] ?_
 refine qA [0,1,2,7] ?_
 refine Wsq [7] fun K1 hK1=>?_
 refine qA [0,1,2,7,8] ?_
 refine Wb ?_
 obtain⟨e1,hse1,H⟩:=bE H
 refine zS [0,1,2,7,8] (fun s a J=>∃M1:Nat,N0<=M1/\s.2.2.length=p0.length/\a=[(0,.sl w0 0 s.2.2.length),(1,.int .i64 p1),(2,.fsl (eL rFact p2)),(7,.bool s.1),(8,.int .i64 s.2.1)]/\J=hp E0 [(w0,some ⟨44,1,eL zP s.2.2⟩)] M1) (fun s x a J=>x=.exit 0/\Rc G 43 N0 (fun a J=>∃M2:Nat,N0<=M2/\s.2.length=p0.length/\a=[(7,.bool s.1)]/\J=hp E0 [(w0,some ⟨44,1,eL zP s.2⟩)] M2) (AAct.keep a [7]) J) hse1 ?_ ?_ ?_
 .refine kp [0,1,2,7,8] ?_
  exact Rf ⟨N0+3,(by omega),(by first|rfl|exact rfl|omega),rfl,rfl⟩
 .clear H hse1
  rintro⟨s1,s2,s3⟩ fl a J H ⟨M1,fM1_0,fM1_1,rfl,rfl⟩ K2 O2 hK2 hO2
  unfold oV at H;dsimp only at H
  refine Wsq [0,1,2,7,8] fun K3 hK3=>?_
  refine qA [0,1,2,7,8,11] ?_
  refine Ci H ?_ ?_<;>intro H
  .refine Js hK3 ?_
   refine Wsq [0,1,2,7,8] fun K4 hK4=>?_
   refine Wb ?_
   obtain⟨v6,hv6,H⟩:=bE H
   refine gU Wre w0 p1.toNat 0 ?_ (hr:=by exact pC zP hv6)
   obtain⟨v7,hv7,H⟩:=bE H
   obtain⟨v8,hv8,H⟩:=bE H
   obtain⟨r9,hr9,H⟩:=bE H
   refine Sd tok tokM [] [2,3,5,6,12,13] [0,1,4,7,8,9,10,2,3,5,6,11,12,13] [0,1,2,7,8,9] (by
    intro K k
    have e0:=nQ w0 (M1+2)
    have e1:=nQ w0 (M1+15)
    simp only[pickL,zN,zO]
    repeat first|simp -dsimp -implicitDefEqProofs [e0,e1,(gset hv6 _),ix44 hv7,ixo45 hv6,(zG hv6).2.2,ixo44 hv8,(zG hv8).2.2]|refine Pc.mk (c191 hr9) ?_
    exact k) ?_
   refine Sd tok tokM [] [0,3,4,6,7] [1,2,5,0,3,4,6,7,8] [0,1,2,7,8,9,34] (by
    intro K k
    have e0:=nQ w0 (M1+2)
    have e1:=nQ w0 (M1+15)
    simp only[pickL,zN,zO]
    refine m1 (j e0 (j e1 (j (gSt hv6) (j (ixo45 hv6) (j ((zG hv6).2.2) (j (ixo44 hv8) ((zG hv8).2.2))))))) ?_
    exact k) ?_
   refine Ci H ?_ ?_<;>intro H
   .obtain⟨l10,hl10,H⟩:=bE H
    refine Sd tok tokM [] [2,3,5,6,7] [0,1,4,2,3,5,6,7] [0,1,2,8] (by
     intro K k
     have e0:=nQ w0 (M1+2)
     have e1:=nQ w0 (M1+15)
     simp only[pickL,zN,zO]
     refine m1 (j e0 (j e1 (j (gSt hv6) (j (ixo45 hv6) (j ((zG hv6).2.2) (j (ixo44 hv8) (j ((zG hv8).2.2) ((setx_iff.1 hl10).2.symm)))))))) ?_
     exact k) ?_
    try rw[<- zE hl10]
    have e0:=nQ w0 (M1+2)
    have e1:=nQ w0 (M1+15)
    refine qH (j e0 (j e1 (gSt hv6))) hK4 ?_
    have e0:=nQ w0 (M1+2)
    have e1:=nQ w0 (M1+15)
    refine Rt tok [] [0,1,2,7,8] (by intro K k;simp -dsimp -implicitDefEqProofs [e0,e1,(gset hv6 _)];exact k) fun a ha=>?_
    obtain⟨l11,hl11,H⟩:=bE H
    obtain rfl:=oi H
    refine hK2 _ _ _ rfl ?_;rw[ha]
    refine gP zI w0 p1.toNat 0 ?_ (hr:=by exact gset hv6 _)
    rw[show hp E0 [(w0,some ⟨44,1,(eL zP s3).set p1.toNat [.osl 49 2 (eL rFact l10)]⟩),(M1+15,some ⟨49,2,[[.int .i64 r9.Kind,.int .i64 r9.N]]⟩)] (M1+38)=hp E0 [(w0,some ⟨44,1,eL zP l11⟩),(M1+15,some ⟨49,2,[[.int .i64 r9.Kind,.int .i64 r9.N]]⟩)] (M1+38) from by(try rw[zE hl11]);rw[(setx_iff.1 hl11).2,<- zZ];rfl];(try rw[<- zE hl11])
    exact Rc.fin (zK (AHeap.Sub.trans (AHeap.Sub.refl _) (zT rfl (by simp;try omega)))) ⟨M1+38,(by omega),(by first|rfl|exact((zE hl11).trans fM1_1)|omega),rfl,rfl⟩
   refine Js hK4 ?_
   have e0:=nQ w0 (M1+2)
   have e1:=nQ w0 (M1+15)
   refine Rt tok [] [0,1,2,7,8] (by intro K k;simp -dsimp -implicitDefEqProofs [e0,e1,(gset hv6 _)];exact k) fun a ha=>?_
   obtain⟨l12,hl12,H⟩:=bE H
   obtain rfl:=oi H
   refine hK2 _ _ _ rfl ?_;rw[ha]
   refine gP zI w0 p1.toNat 0 ?_ (hr:=by exact gset hv6 _)
   rw[show hp E0 [(w0,some ⟨44,1,(eL zP s3).set p1.toNat [.osl 49 2 (eL rFact v6)]⟩),(M1+15,some ⟨49,2,[[.int .i64 r9.Kind,.int .i64 r9.N]]⟩)] (M1+29)=hp E0 [(w0,some ⟨44,1,eL zP l12⟩),(M1+15,some ⟨49,2,[[.int .i64 r9.Kind,.int .i64 r9.N]]⟩)] (M1+29) from by(try rw[zE hl12]);rw[(setx_iff.1 hl12).2,<- zZ];rfl];(try rw[<- zE hl12])
   exact Rc.fin (zK (AHeap.Sub.trans (AHeap.Sub.refl _) (zT rfl (by simp;try omega)))) ⟨M1+29,(by omega),(by first|rfl|exact((zE hl12).trans fM1_1)|omega),rfl,rfl⟩
  cases oj H
  refine zH (hO2 _ _ _ _ rfl ⟨rfl,?_⟩)
  refine kr ?_
  exact Rf ⟨M1+2,(by omega),(by first|rfl|exact fM1_1|omega),rfl,rfl⟩
 intro x a J hx
 obtain⟨y4,y5⟩:=e1
 obtain⟨rfl,b,U,hr,M2,fM2_0,fM2_1,rfl,rfl⟩:=hx
 (try dsimp only at H)
 show K1 _ _
 refine hK1 _ _ (zI hr ?_)
 refine Rc.mk ?_
 refine qA [6] ?_
 obtain rfl:=oi H
 refine Kp [6] ?_
 refine Wr ?_
 refine⟨[.bool y4],by simp,M2+2,by omega,by first|rfl|exact fM2_1|omega,?_,?_⟩
 .simp[eN]
 first|rfl|simp

theorem c178_o {p0:List gQuad}{p1:Int}{r:List Int}(H:dJ p0 p1=some r){J:AHeap}:ACalls Tryz.prog G 178 [.fsl (eL rQuad p0),.int .i64 p1] J (fun v J'=>∃M n0:Nat,J.next<=M/\J.next<=n0/\n0<M/\v=.sl n0 0 r.length/\J'=hp J.objs [(n0,some ⟨3,1,eL rI r⟩)] M):=by
 refine fr2 [] (by simp) (fun hlt=>?_) ⟨_,func178,rfl,rfl⟩
 generalize J.next=N0 at hlt ⊢
 refine fnK tok func178 ntmps178 results178 ?_
 simp only[argsA,Nat.reduceAdd,hpN]
 unfold dJ at H
 refine qA [0,1] ?_
 obtain⟨v1,hv1,H⟩:=bE H
 refine qB [1,5] (ix34 hv1) ?_
 refine Wsq [1] fun K1 hK1=>?_
 refine Wb ?_
 refine qA [1,5,10] ?_
 refine Ci H ?_ ?_<;>intro H
 .have q0:∀J i,bsA T 23 true i 0 [] J=some (.esl,J):=fun _ _=>rfl
  refine Sy tok [0] [4] q0 ?_
  obtain rfl:=oi H
  refine Kp [4] ?_
  refine gNilS Wre 4 3 1 [(N0+5,some ⟨68,5,[[.int .i64 v1.Op,.int .i64 v1.Dst,.int .i64 v1.A,.int .i64 v1.B,.int .i64 v1.N]]⟩),(N0+13,some ⟨3,1,eL rI ([]:List Int)⟩)] [(4,.sl (N0+13) 0 ([]:List Int).length)] (by simp(disch:=omega)) (by simp(disch:=omega) [eN]) [4] rfl ?_
  refine gDrop Wre [(N0+13,some ⟨3,1,eL rI ([]:List Int)⟩)] (AHeap.Sub.trans (zK (AHeap.Sub.refl _)) (zT rfl (by simp;try omega))) ?_
  exact V2 j0 (N0+14) (N0+13)
 refine qA [1,5,15] ?_
 refine Ci H ?_ ?_<;>intro H
 .obtain⟨l2,hl2,H⟩:=bE H
  have q1:∀J i,bsA T 23 false i 1 [(0,.int .i64 v1.N)] J=some (.sl i 0 (List.length l2),J.put i ⟨3,1,eL rI l2⟩):=by rw[<- Option.some.inj hl2];exact fun _ _=>rfl
  refine qB [4] q1 ?_
  obtain rfl:=oi H
  refine Kp [4] ?_
  refine gDrop Wre [(N0+17,some ⟨3,1,eL rI l2⟩)] (AHeap.Sub.trans (zK (AHeap.Sub.refl _)) (zT rfl (by simp;try omega))) ?_
  exact V2 j0 (N0+19) (N0+17)
 obtain⟨g3,hg3,H⟩:=bE H
 refine qF tok [1,5,22] ([(1,.int .i64 p1),(5,.ptr (N0+5) 0 0),(22,.bool g3)]) (hp E0 [(N0+5,some ⟨68,5,[[.int .i64 v1.Op,.int .i64 v1.Dst,.int .i64 v1.A,.int .i64 v1.B,.int .i64 v1.N]]⟩)] (N0+26)) (by
  intro K k
  refine m0 ?_
  cases hbg3:ieq v1.Op 5
  .cases oj (ifF hbg3 hg3)
   exact m1 hbg3 k
  cases oj (ifT hbg3 hg3)
  refine m1 hbg3 ?_
  exact k) ?_
 refine Ci H ?_ ?_<;>intro H
 .obtain⟨l4,hl4,H⟩:=bE H
  have q2:∀J i,bsA T 23 false i 2 [(0,.int .i64 v1.N),(1,.int .i64 (iadd .i64 p1 1))] J=some (.sl i 0 (List.length l4),J.put i ⟨3,1,eL rI l4⟩):=by rw[<- Option.some.inj hl4];exact fun _ _=>rfl
  refine qB [4] q2 ?_
  obtain rfl:=oi H
  refine Kp [4] ?_
  refine gDrop Wre [(N0+30,some ⟨3,1,eL rI l4⟩)] (AHeap.Sub.trans (zK (AHeap.Sub.refl _)) (zT rfl (by simp;try omega))) ?_
  exact V2 j0 (N0+32) (N0+30)
 obtain⟨g5,hg5,H⟩:=bE H
 refine qF tok [1,5,38] ([(1,.int .i64 p1),(5,.ptr (N0+5) 0 0),(38,.bool g5)]) (hp E0 [(N0+5,some ⟨68,5,[[.int .i64 v1.Op,.int .i64 v1.Dst,.int .i64 v1.A,.int .i64 v1.B,.int .i64 v1.N]]⟩)] (N0+37)) (by
  intro K k
  refine m0 ?_
  cases hbg5:ieq v1.Op 5
  .cases oj (ifF hbg5 hg5)
   exact m1 hbg5 k
  cases oj (ifT hbg5 hg5)
  refine m1 hbg5 ?_
  exact k) ?_
 refine Ci H ?_ ?_<;>intro H
 .obtain⟨l6,hl6,H⟩:=bE H
  have q3:∀J i,bsA T 23 false i 2 [(0,.int .i64 (iadd .i64 p1 1)),(1,.int .i64 v1.N)] J=some (.sl i 0 (List.length l6),J.put i ⟨3,1,eL rI l6⟩):=by rw[<- Option.some.inj hl6];exact fun _ _=>rfl
  refine qB [4] q3 ?_
  obtain rfl:=oi H
  refine Kp [4] ?_
  refine gDrop Wre [(N0+41,some ⟨3,1,eL rI l6⟩)] (AHeap.Sub.trans (zK (AHeap.Sub.refl _)) (zT rfl (by simp;try omega))) ?_
  exact V2 j0 (N0+43) (N0+41)
 refine Js hK1 ?_
 obtain⟨l7,hl7,H⟩:=bE H
 have q4:∀J i,bsA T 23 false i 1 [(0,.int .i64 (iadd .i64 p1 1))] J=some (.sl i 0 (List.length l7),J.put i ⟨3,1,eL rI l7⟩):=by rw[<- Option.some.inj hl7];exact fun _ _=>rfl
 refine qB [4] q4 ?_
 obtain rfl:=oi H
 refine Kp [4] ?_
 refine gDrop Wre [(N0+39,some ⟨3,1,eL rI l7⟩)] (AHeap.Sub.trans (zK (AHeap.Sub.refl _)) (zT rfl (by simp;try omega))) ?_
 exact V2 j0 (N0+41) (N0+39)

theorem c182_o {p0:List gQuad}{p1:List gFact}{p2:Int}{r:List Int}(H:uZ p0 p1 p2=some r){J:AHeap}:ACalls Tryz.prog G 182 [.fsl (eL rQuad p0),.fsl (eL rFact p1),.int .i64 p2] J (fun v J'=>∃M n0:Nat,J.next<=M/\J.next<=n0/\n0<M/\v=.sl n0 0 r.length/\J'=hp J.objs [(n0,some ⟨3,1,eL rI r⟩)] M):=by
 refine fr2 [] (by simp) (fun hlt=>?_) ⟨_,func182,rfl,rfl⟩
 generalize J.next=N0 at hlt ⊢
 refine fnK tok func182 ntmps182 results182 ?_
 simp only[argsA,Nat.reduceAdd,hpN]
 unfold uZ at H
 refine qA [0,1,2] ?_
 obtain⟨v1,hv1,H⟩:=bE H
 refine qB [0,1,2,7] (ix34 hv1) ?_
 refine Wsq [1,2,7] fun K1 hK1=>?_
 obtain⟨g3,hg3,H⟩:=bE H
 refine qF tok [0,1,2,7,23] ([(0,.fsl (eL rQuad p0)),(1,.fsl (eL rFact p1)),(2,.int .i64 p2),(7,.ptr (N0+5) 0 0),(23,.bool g3)]) (hp E0 [(N0+5,some ⟨68,5,[[.int .i64 v1.Op,.int .i64 v1.Dst,.int .i64 v1.A,.int .i64 v1.B,.int .i64 v1.N]]⟩)] (N0+19)) (by
  intro K k
  refine m0 ?_
  cases hbg3:ine v1.Op 5
  .replace hg3:=ifF hbg3 hg3
   obtain⟨v2,hv2,hg3⟩:=bE hg3
   cases oj hg3
   exact m2 hbg3 (ix44 hv2) k
  cases oj (ifT hbg3 hg3)
  refine m1 hbg3 ?_
  exact k) ?_
 refine Ci H ?_ ?_<;>intro H
 .obtain⟨r4,hr4,H⟩:=bE H
  refine jJ tok [] [6] (fun a J=>∃M1 o1:Nat,N0+23<=M1/\N0+23<=o1/\o1<M1/\a=[(6,.sl o1 0 r4.length)]/\J=hp E0 [(N0+5,some ⟨68,5,[[.int .i64 v1.Op,.int .i64 v1.Dst,.int .i64 v1.A,.int .i64 v1.B,.int .i64 v1.N]]⟩),(o1,some ⟨3,1,eL rI r4⟩)] M1) (fun K hK=>?_) ?_
  .skip
   refine m0 ?_
   refine mo (c178_o (H:=hr4)) fun M1 o1 fM1_0 fM1_1 fM1_2=>?_
   have eM1_0:=nQ o1 (N0+5)
   refine m1 (j eM1_0 (j @hoS @hoN)) ?_
   exact hK _ _ ⟨M1,o1,(by omega),(by omega),(by omega),rfl,rfl⟩
  rintro a J ⟨M1,o1,fM1_0,fM1_1,fM1_2,rfl,rfl⟩
  obtain rfl:=oi H
  refine Kp [6] ?_
  have z0:=nQ (N0+5) o1
  refine gDrop Wre [(o1,some ⟨3,1,eL rI r4⟩)] (AHeap.Sub.trans (zK (AHeap.Sub.refl _)) (zT rfl (by simp;try omega))) ?_
  exact V2 z0 M1 o1
 refine Js hK1 ?_
 refine Wsq [2] fun K2 hK2=>?_
 obtain⟨v5,hv5,H⟩:=bE H
 refine qB [2,7,33] (ix44 hv5) ?_
 refine Ci H ?_ ?_<;>intro H
 .obtain⟨l6,hl6,H⟩:=bE H
  have q0:∀J i,bsA T 23 false i 1 [(0,.int .i64 v1.N)] J=some (.sl i 0 (List.length l6),J.put i ⟨3,1,eL rI l6⟩):=by rw[<- Option.some.inj hl6];exact fun _ _=>rfl
  refine qB [6] q0 ?_
  obtain rfl:=oi H
  refine Kp [6] ?_
  refine gDrop Wre [(N0+28,some ⟨3,1,eL rI l6⟩)] (AHeap.Sub.trans (zK (AHeap.Sub.refl _)) (zT rfl (by simp;try omega))) ?_
  exact V2 j0 (N0+30) (N0+28)
 refine Js hK2 ?_
 obtain⟨l7,hl7,H⟩:=bE H
 have q1:∀J i,bsA T 23 false i 1 [(0,.int .i64 (iadd .i64 p2 1))] J=some (.sl i 0 (List.length l7),J.put i ⟨3,1,eL rI l7⟩):=by rw[<- Option.some.inj hl7];exact fun _ _=>rfl
 refine qB [6] q1 ?_
 obtain rfl:=oi H
 refine Kp [6] ?_
 refine gDrop Wre [(N0+28,some ⟨3,1,eL rI l7⟩)] (AHeap.Sub.trans (zK (AHeap.Sub.refl _)) (zT rfl (by simp;try omega))) ?_
 exact V2 j0 (N0+30) (N0+28)

theorem c182_o_b {p0:List gQuad}{p1:List gFact}{p2:Int}{r:List Int}(H:uZ p0 p1 p2=some r){J:AHeap}{args:List AV}(hy:args.map (thawA (fun _=>true) J 8)=[.fsl (eL rQuad p0),.fsl (eL rFact p1),.int .i64 p2]):ACalls Tryz.prog G 182 args J (fun v J'=>∃M n0:Nat,J.next<=M/\J.next<=n0/\n0<M/\v=.sl n0 0 r.length/\J'=hp J.objs [(n0,some ⟨3,1,eL rI r⟩)] M):=by
 refine borrowQ 8 8 (c182_o (J:=⟨E0,J.next⟩) H) hy ?_
 rintro _ _ ⟨M,n0,h0,h1,h2,rfl,rfl⟩
 refine⟨_,M,rfl,by simp[AV.rnf,AV.simp1],fun p hp ob ho=>?_,by simp,M,n0,h0,h1,h2,rfl,rfl⟩
 simp only[List.mem_cons,List.not_mem_nil,or_false] at hp
 rcases hp with rfl<;>(cases ho;first|exact encL_nf (fun x=>nf_rI 7 x) _|simp[AV.nf,AV.simp1])

theorem c183_o {p0:gQuad}{p1:List gFact}{r:List gFact}(H:tA p0 p1=some r){J:AHeap}:ACalls Tryz.prog G 183 [.agg [.int .i64 p0.Op,.int .i64 p0.Dst,.int .i64 p0.A,.int .i64 p0.B,.int .i64 p0.N],.fsl (eL rFact p1)] J (fun v J'=>∃M n0:Nat,J.next<=M/\J.next<=n0/\n0<M/\v=.sl n0 0 r.length/\J'=hp J.objs [(n0,some ⟨49,2,eL rFact r⟩)] M):=by
 refine fr2 [] (by simp) (fun hlt=>?_) ⟨_,func183,rfl,rfl⟩
 generalize J.next=N0 at hlt ⊢
 refine fnK tok func183 ntmps183 results183 ?_
 simp only[argsA,Nat.reduceAdd,hpN]
 unfold tA at H
 refine S0 tok [0] [1,2] ?_
 obtain⟨l1,hl1,H⟩:=bE H
 have q0:∀J i,bsA T 44 true i 0 [] J=some (.esl,J):=fun _ _=>rfl
 refine Sz tok [0] [1,2,5] q0 (appe44 hl1) ?_
 refine Wsq [5] fun K1 hK1=>?_
 refine qA [1,2,5,10] ?_
 refine Wb ?_
 refine qA [1,2,5,10,11] ?_
 refine Ci H ?_ ?_<;>intro H
 .obtain⟨v2,hv2,H⟩:=bE H
  obtain⟨l3,hl3,H⟩:=bE H
  refine Rt tok [] [5] (by intro K k;simp -dsimp -implicitDefEqProofs [ixo44 hv2,(zG hv2).2.2,(setx_iff.1 hl3).2.symm];exact k) fun a ha=>?_
  (try rw[<- zE hl3] at ha);(try rw[<- zE hl3])
  refine hK1 _ _ ?_;rw[ha]
  refine Rc.mk ?_
  refine qA [4] ?_
  obtain rfl:=oi H
  refine Kp [4] ?_
  exact V2 j0 (N0+20) (N0+4)
 refine qA [1,2,5,10,20] ?_
 refine Ci H ?_ ?_<;>intro H
 .obtain⟨v4,hv4,H⟩:=bE H
  obtain⟨v5,hv5,H⟩:=bE H
  obtain⟨l6,hl6,H⟩:=bE H
  refine dF tok tokM [] [8,9] [0,1,2,3,4,5,6,7,8,9] [5] (fun a J=>a=[(5,.sl (N0+4) 0 l1.length)]/\J=hp E0 [(N0+4,some ⟨49,2,eL rFact l6⟩)] (N0+22)) (by decide) (fun K hK=>?_) ?_
  .simp only[pickL,zN,zO]
   refine m1 (j (ix44 hv4) (j (ixo44 hv5) (j ((zG hv5).2.2) ((setx_iff.1 hl6).2.symm)))) ?_
   exact hK _ _ ⟨rfl,rfl⟩
  rintro a J ⟨ha,rfl⟩
  (try rw[<- zE hl6] at ha);(try rw[<- zE hl6])
  refine hK1 _ _ ?_;rw[ha]
  refine Rc.mk ?_
  refine qA [4] ?_
  obtain rfl:=oi H
  refine Kp [4] ?_
  exact V2 j0 (N0+24) (N0+4)
 refine qA [1,2,5,10,31] ?_
 refine Ci H ?_ ?_<;>intro H
 .obtain⟨v7,hv7,H⟩:=bE H
  obtain⟨l8,hl8,H⟩:=bE H
  refine Rt tok [] [5] (by intro K k;simp -dsimp -implicitDefEqProofs [ixo44 hv7,(zG hv7).2.2,(setx_iff.1 hl8).2.symm];exact k) fun a ha=>?_
  (try rw[<- zE hl8] at ha);(try rw[<- zE hl8])
  refine hK1 _ _ ?_;rw[ha]
  refine Rc.mk ?_
  refine qA [4] ?_
  obtain rfl:=oi H
  refine Kp [4] ?_
  exact V2 j0 (N0+22) (N0+4)
 refine qA [1,2,5,38] ?_
 refine Ci H ?_ ?_<;>intro H
 .obtain⟨v9,hv9,H⟩:=bE H
  obtain⟨v10,hv10,H⟩:=bE H
  obtain⟨r11,hr11,H⟩:=bE H
  obtain⟨v12,hv12,H⟩:=bE H
  obtain⟨l13,hl13,H⟩:=bE H
  refine dF tok tokM [] [15,16] [0,1,2,3,4,5,6,7,8,9,10,11,12,13,14,15,16] [5] (fun a J=>a=[(5,.sl (N0+4) 0 l1.length)]/\J=hp E0 [(N0+4,some ⟨49,2,eL rFact l13⟩)] (N0+33)) (by decide) (fun K hK=>?_) ?_
  .simp only[pickL,zN,zO]
   refine m1 (j (ix44 hv9) (j (ix44 hv10) (j (ixo44 hv12) (j ((zG hv12).2.2) ((setx_iff.1 hl13).2.symm))))) ?_
   refine Pc.mk (c185 hr11) (m1 (j (ix44 hv9) (j (ix44 hv10) (j (ixo44 hv12) (j ((zG hv12).2.2) ((setx_iff.1 hl13).2.symm))))) ?_)
   exact hK _ _ ⟨rfl,rfl⟩
  rintro a J ⟨ha,rfl⟩
  (try rw[<- zE hl13] at ha);(try rw[<- zE hl13])
  refine hK1 _ _ ?_;rw[ha]
  refine Rc.mk ?_
  refine qA [4] ?_
  obtain rfl:=oi H
  refine Kp [4] ?_
  exact V2 j0 (N0+35) (N0+4)
 refine Js hK1 ?_
 refine qA [4] ?_
 obtain rfl:=oi H
 refine Kp [4] ?_
 exact V2 j0 (N0+18) (N0+4)

theorem c183_o_b {p0:gQuad}{p1:List gFact}{r:List gFact}(H:tA p0 p1=some r){J:AHeap}{args:List AV}(hy:args.map (thawA (fun _=>true) J 8)=[.agg [.int .i64 p0.Op,.int .i64 p0.Dst,.int .i64 p0.A,.int .i64 p0.B,.int .i64 p0.N],.fsl (eL rFact p1)]):ACalls Tryz.prog G 183 args J (fun v J'=>∃M n0:Nat,J.next<=M/\J.next<=n0/\n0<M/\v=.sl n0 0 r.length/\J'=hp J.objs [(n0,some ⟨49,2,eL rFact r⟩)] M):=by
 refine borrowQ 8 8 (c183_o (J:=⟨E0,J.next⟩) H) hy ?_
 rintro _ _ ⟨M,n0,h0,h1,h2,rfl,rfl⟩
 refine⟨_,M,rfl,by simp[AV.rnf,AV.simp1],fun p hp ob ho=>?_,by simp,M,n0,h0,h1,h2,rfl,rfl⟩
 simp only[List.mem_cons,List.not_mem_nil,or_false] at hp
 rcases hp with rfl<;>(cases ho;first|exact encL_nf (fun x=>nf_rFact 7 x) _|simp[AV.nf,AV.simp1])

theorem c172 {p0:List gQuad}{p1:(List (List gFact))}{r:Bool×(List (List gFact))}(H:nG p0 p1=some r){J:AHeap}{w1:Nat}(q1:J.objs w1=some ⟨44,1,eL zP p1⟩):ACalls Tryz.prog G 172 [.fsl (eL rQuad p0),.sl w1 0 p1.length] J (fun v J'=>∃M:Nat,J.next<=M/\r.2.length=p1.length/\v=.bool r.1/\J'=hp J.objs [(w1,some ⟨44,1,eL zP r.2⟩)] M):=by
 refine uC (L:=[(w1,some ⟨44,1,eL zP p1⟩)]) (Q1:=fun v J'=>∃M:Nat,J.next<=M/\r.2.length=p1.length/\v=.bool r.1/\J'=hp E0 [(w1,some ⟨44,1,eL zP r.2⟩)] M) (by simp[q1]) (fun hlt=>?_) ?_ ⟨_,func172,rfl,rfl⟩
 rotate_left
 .rintro v J1 ⟨M,h0,h1,rfl,rfl⟩
  exact⟨_,M,rfl,by simp,by simp;try omega,M,h0,h1,rfl,rfl⟩
 generalize J.next=N0 at hlt ⊢
 have lw1:w1<N0:=hlt _ (.head _) rfl
 refine fnK tok func172 ntmps172 results172 ?_
 simp only[argsA,Nat.reduceAdd,hpN]
 unfold nG at H
 refine qA [0,1] ?_
 refine qA [0,1,5] ?_
 refine Wsq [5] fun K1 hK1=>?_
 refine qA [0,1,5,6] ?_
 refine Wb ?_
 obtain⟨e2,hse2,H⟩:=bE H
 refine zS [0,1,5,6] (fun s a J=>∃M1:Nat,N0<=M1/\s.2.2.length=p1.length/\a=[(0,.fsl (eL rQuad p0)),(1,.sl w1 0 s.2.2.length),(5,.bool s.1),(6,.int .i64 s.2.1)]/\J=hp E0 [(w1,some ⟨44,1,eL zP s.2.2⟩)] M1) (fun s x a J=>x=.exit 0/\Rc G 54 N0 (fun a J=>∃M2:Nat,N0<=M2/\s.2.length=p1.length/\a=[(5,.bool s.1)]/\J=hp E0 [(w1,some ⟨44,1,eL zP s.2⟩)] M2) (AAct.keep a [5]) J) hse2 ?_ ?_ ?_
 .refine kp [0,1,5,6] ?_
  exact Rf ⟨N0+3,(by omega),(by first|rfl|exact rfl|omega),rfl,rfl⟩
 .clear H hse2
  rintro⟨s1,s2,s3⟩ fl a J H ⟨M1,fM1_0,fM1_1,rfl,rfl⟩ K2 O2 hK2 hO2
  unfold oT at H;dsimp only at H
  refine Wsq [0,1,5,6] fun K3 hK3=>?_
  refine qA [0,1,5,6,13] ?_
  refine Ci H ?_ ?_<;>intro H
  .refine Js hK3 ?_
   refine Wsq [0,1,5,6] fun K4 hK4=>?_
   refine Wb ?_
   refine Wsq [0,1,5,6] fun K5 hK5=>?_
   obtain⟨v6,hv6,H⟩:=bE H
   refine gU Wre w1 s2.toNat 0 ?_ (hr:=by exact pC zP hv6)
   obtain⟨v7,hv7,H⟩:=bE H
   have e0:=nQ w1 (M1+4)
   refine qB [0,1,5,6,23] (j e0 (j (gSt hv6) (j (ixo45 hv6) (j ((zG hv6).2.2) (j (ixo44 hv7) (show _[0]? =some v7 from(zG hv7).2.2)))))) ?_
   refine Ci H ?_ ?_<;>intro H
   .refine zH ?_
    show K4 _ _
    refine kE [0,1,5,6] fun a' ha=>?_
    refine hK4 _ _ ?_;rw[ha]
    refine Rc.mk ?_
    have e0:=nQ w1 (M1+4)
    refine Rt tok [] [0,1,5,6] (by intro K k;simp -dsimp -implicitDefEqProofs [e0,(gset hv6 _)];exact k) fun a ha=>?_
    obtain⟨l8,hl8,H⟩:=bE H
    obtain rfl:=oi H
    refine hK2 _ _ _ rfl ?_;rw[ha]
    refine gP zI w1 s2.toNat 0 ?_ (hr:=by exact gset hv6 _)
    rw[show hp E0 [(w1,some ⟨44,1,(eL zP s3).set s2.toNat [.osl 49 2 (eL rFact v6)]⟩)] (M1+16)=hp E0 [(w1,some ⟨44,1,eL zP l8⟩)] (M1+16) from by(try rw[zE hl8]);rw[(setx_iff.1 hl8).2,<- zZ];rfl];(try rw[<- zE hl8])
    exact Rf ⟨M1+16,(by omega),(by first|rfl|exact((zE hl8).trans fM1_1)|omega),rfl,rfl⟩
   refine Js hK5 ?_
   refine gP Wre w1 s2.toNat 0 ?_ (hr:=by exact gset hv6 _)
   obtain⟨l9,hl9,H⟩:=bE H
   rw[show hp E0 [(w1,some ⟨44,1,(eL zP s3).set s2.toNat [.osl 49 2 (eL rFact v6)]⟩)] (M1+13)=hp E0 [(w1,some ⟨44,1,eL zP l9⟩)] (M1+13) from by(try rw[zE hl9]);rw[(setx_iff.1 hl9).2,<- zZ];rfl];(try rw[<- zE hl9])
   obtain⟨v10,hv10,H⟩:=bE H
   refine gU Wre w1 s2.toNat 0 ?_ (hr:=by exact pC zP hv10)
   obtain⟨r11,hr11,H⟩:=bE H
   refine jJ tok [] [0,1,5,6,7] (fun a J=>∃M3 o1:Nat,M1+22<=M3/\M1+22<=o1/\o1<M3/\a=[(0,.fsl (eL rQuad p0)),(1,.sl w1 0 l9.length),(5,.bool s1),(6,.int .i64 s2),(7,.sl o1 0 r11.length)]/\J=hp E0 [(w1,some ⟨44,1,(eL zP l9).set s2.toNat [.sl (M1+13) 0 v10.length]⟩),(M1+13,some ⟨49,2,eL rFact v10⟩),(o1,some ⟨3,1,eL rI r11⟩)] M3) (fun K hK=>?_) ?_
   .skip
    have e0:=nQ w1 (M1+13)
    refine m1 (j e0 (j (gSt hv10) (j (ixo45 hv10) ((zG hv10).2.2)))) ?_
    refine(c182_o_b (H:=hr11) (by simp[e0,(gset hv10 _),ixo45 hv10,(zG hv10).2.2])).mono ?_;rintro _ _ ⟨M3,o1,fM3_0,fM3_1,fM3_2,rfl,rfl⟩;simp only[hpN] at fM3_0 fM3_1 fM3_2
    have eM3_0:=nQ o1 w1
    have eM3_1:=nQ o1 (M1+13)
    refine m1 (j e0 (j (gSt hv10) (j (ixo45 hv10) (j ((zG hv10).2.2) (j eM3_0 (j eM3_1 (j @hoS @hoN))))))) ?_
    exact hK _ _ ⟨M3,o1,(by omega),(by omega),(by omega),rfl,rfl⟩
   rintro a J ⟨M3,o1,fM3_0,fM3_1,fM3_2,rfl,rfl⟩
   refine gP Wre w1 s2.toNat 0 ?_ (hr:=by exact gset hv10 _)
   obtain⟨l12,hl12,H⟩:=bE H
   rw[show hp E0 [(w1,some ⟨44,1,(eL zP l9).set s2.toNat [.osl 49 2 (eL rFact v10)]⟩),(o1,some ⟨3,1,eL rI r11⟩)] M3=hp E0 [(w1,some ⟨44,1,eL zP l12⟩),(o1,some ⟨3,1,eL rI r11⟩)] M3 from by(try rw[zE hl12]);rw[(setx_iff.1 hl12).2,<- zZ];rfl];(try rw[<- zE hl12])
   obtain⟨v14,hv14,H⟩:=bE H
   refine gU Wre w1 s2.toNat 0 ?_ (hr:=by exact pC zP hv14)
   obtain⟨v15,hv15,H⟩:=bE H
   obtain⟨r16,hr16,H⟩:=bE H
   refine fH tok tokM [] [6,7,8] [0,1,2,3,4,5,6,7,8,9] [0,1,5,6,7,8] (fun a J=>∃M4 o2:Nat,M3+11<=M4/\M3+11<=o2/\o2<M4/\a=[(0,.fsl (eL rQuad p0)),(1,.sl w1 0 l12.length),(5,.bool s1),(6,.int .i64 s2),(7,.sl o1 0 r11.length),(8,.sl o2 0 r16.length)]/\J=hp E0 [(w1,some ⟨44,1,(eL zP l12).set s2.toNat [.sl M3 0 v14.length]⟩),(o1,some ⟨3,1,eL rI r11⟩),(M3,some ⟨49,2,eL rFact v14⟩),(o2,some ⟨49,2,eL rFact r16⟩)] M4) (by decide) (fun K hK=>?_) ?_
   .simp only[pickL,zN,zO]
    have e0:=nQ w1 o1
    have e1:=nQ w1 M3
    have e2:=nQ o1 M3
    refine m1 (j e0 (j e1 (j e2 (j (gSt hv14) (j (ix34 hv15) (j (ixo45 hv14) ((zG hv14).2.2))))))) ?_
    refine(c183_o_b (H:=hr16) (by simp[e0,e1,e2,(gset hv14 _),ix34 hv15,ixo45 hv14,(zG hv14).2.2])).mono ?_;rintro _ _ ⟨M4,o2,fM4_0,fM4_1,fM4_2,rfl,rfl⟩;simp only[hpN] at fM4_0 fM4_1 fM4_2
    have eM4_0:=nQ o2 w1
    have eM4_1:=nQ o2 o1
    have eM4_2:=nQ o2 M3
    refine m1 (j e0 (j e1 (j e2 (j (gSt hv14) (j (ix34 hv15) (j (ixo45 hv14) (j ((zG hv14).2.2) (j eM4_0 (j eM4_1 (j eM4_2 (j @hoS @hoN))))))))))) ?_
    exact hK _ _ ⟨M4,o2,(by omega),(by omega),(by omega),rfl,rfl⟩
   rintro a J ⟨M4,o2,fM4_0,fM4_1,fM4_2,rfl,rfl⟩
   have e0:=nQ w1 o1
   have e1:=nQ w1 M3
   have e2:=nQ w1 o2
   have e3:=nQ o1 M3
   have e4:=nQ o1 o2
   have e5:=nQ M3 o2
   refine qB [0,1,5,6,7,8,9] (j e0 (j e1 (j e2 (j e3 (j e4 (j e5 (gSt hv14))))))) ?_
   refine Wb ?_
   obtain⟨l17,hl17,H⟩:=bE H
   obtain⟨e1,hse1,H⟩:=bE H
   refine zS [0,1,5,6,7,8,9] (fun s a J=>∃M5 o3:Nat,N0<=M5/\N0<=o3/\o3<M5/\s.2.2.1.length=p1.length/\a=[(0,.fsl (eL rQuad p0)),(1,.sl w1 0 s.2.2.1.length),(5,.bool s.1),(6,.int .i64 s2),(7,.sl o3 0 s.2.2.2.length),(8,.fsl (eL rFact r16)),(9,.int .i64 s.2.1)]/\J=hp E0 [(w1,some ⟨44,1,eL zP s.2.2.1⟩),(o3,some ⟨3,1,eL rI s.2.2.2⟩)] M5) (fun s x a J=>x=.exit 2/\Rc G 54 N0 (fun a J=>∃M6:Nat,N0<=M6/\s.2.length=p1.length/\a=[(0,.fsl (eL rQuad p0)),(1,.sl w1 0 s.2.length),(5,.bool s.1),(6,.int .i64 s2)]/\J=hp E0 [(w1,some ⟨44,1,eL zP s.2⟩)] M6) (AAct.keep a [0,1,5,6]) J) hse1 ?_ ?_ ?_
   .refine kp [0,1,5,6,7,8,9] ?_
    refine gP zI w1 s2.toNat 0 ?_ (hr:=by exact gset hv14 _)
    rw[show hp E0 [(w1,some ⟨44,1,(eL zP l12).set s2.toNat [.osl 49 2 (eL rFact v14)]⟩),(o1,some ⟨3,1,eL rI r11⟩),(o2,some ⟨49,2,eL rFact r16⟩)] (M4+1)=hp E0 [(w1,some ⟨44,1,eL zP l17⟩),(o1,some ⟨3,1,eL rI r11⟩),(o2,some ⟨49,2,eL rFact r16⟩)] (M4+1) from by(try rw[zE hl17]);rw[(setx_iff.1 hl17).2,<- zZ];rfl];(try rw[<- zE hl17])
    have z3:=nQ w1 o1
    have z4:=nQ w1 o2
    have z5:=nQ o1 o2
    refine gFrz zI 4 [o2] [(w1,some ⟨44,1,eL zP l17⟩),(o1,some ⟨3,1,eL rI r11⟩)] [(0,.fsl (eL rQuad p0)),(1,.sl w1 0 l17.length),(5,.bool s1),(6,.int .i64 s2),(7,.sl o1 0 r11.length),(8,.fsl (eL rFact r16)),(9,.int .i64 0)] (by simp[z3,z4,z5]) (cutD (by simp[z3,z4,z5])) ?_
    exact Rf ⟨M4+1,o1,(by omega),(by omega),(by omega),(by first|rfl|exact((zE hl17).trans ((zE hl12).trans ((zE hl9).trans fM1_1)))|omega),rfl,rfl⟩
   .clear H hse1
    rintro⟨s18,s19,s20,s21⟩ fl a J H ⟨M5,o3,fM5_0,fM5_1,fM5_2,fM5_3,rfl,rfl⟩ K6 O6 hK6 hO6
    unfold oS at H;dsimp only at H
    refine Wsq [0,1,5,6,7,8,9] fun K7 hK7=>?_
    have e0:=nQ w1 o3
    refine qB [0,1,5,6,7,8,9,43] e0 ?_
    refine Ci H ?_ ?_<;>intro H
    .refine Js hK7 ?_
     refine Wsq [0,1,5,6,7,8,9] fun K8 hK8=>?_
     refine Wb ?_
     obtain⟨v24,hv24,H⟩:=bE H
     obtain⟨r25,hr25,H⟩:=bE H
     refine jJ tok [] [0,1,5,6,7,8,9,52] (fun a J=>∃M7:Nat,M5+11<=M7/\r25.2.length=s20.length/\a=[(0,.fsl (eL rQuad p0)),(1,.sl w1 0 s20.length),(5,.bool s18),(6,.int .i64 s2),(7,.sl o3 0 s21.length),(8,.fsl (eL rFact r16)),(9,.int .i64 s19),(52,.bool r25.1)]/\J=hp E0 [(w1,some ⟨44,1,eL zP r25.2⟩),(o3,some ⟨3,1,eL rI s21⟩)] M7) (fun K hK=>?_) ?_
     .skip
      have e0:=nQ w1 o3
      refine m1 (j e0 (j (ixo23 hv24) ((zG hv24).2.2))) ?_
      refine(c184 (H:=hr25) (by simp[e0,ixo23 hv24,(zG hv24).2.2])).mono ?_;rintro _ _ ⟨M7,fM7_0,fM7_1,rfl,rfl⟩;simp only[hpN] at fM7_0
      refine m1 (j e0 (j (ixo23 hv24) (j ((zG hv24).2.2) (j @hoS @hoN)))) ?_
      exact hK _ _ ⟨M7,(by omega),fM7_1,rfl,rfl⟩
     rintro a J ⟨M7,fM7_0,fM7_1,rfl,rfl⟩
     try rw[<- fM7_1]
     refine Ci H ?_ ?_<;>intro H
     .have e0:=nQ w1 o3
      refine qH e0 hK8 ?_
      have e0:=nQ w1 o3
      obtain rfl:=oi H
      refine qJ e0 hK6 ?_
      exact Rf ⟨M7+4,o3,(by omega),(by omega),(by omega),(by first|rfl|exact((fM7_1).trans fM5_3)|omega),rfl,rfl⟩
     refine Js hK8 ?_
     have e0:=nQ w1 o3
     obtain rfl:=oi H
     refine qJ e0 hK6 ?_
     exact Rf ⟨M7+3,o3,(by omega),(by omega),(by omega),(by first|rfl|exact((fM7_1).trans fM5_3)|omega),rfl,rfl⟩
    cases oj H
    refine zH (hO6 _ _ _ _ rfl ⟨rfl,?_⟩)
    refine kr ?_
    exact Rc.fin (zK (AHeap.Sub.trans (AHeap.Sub.refl _) (zT rfl (by simp;try omega)))) ⟨M5+4,(by omega),(by first|rfl|exact fM5_3|omega),rfl,rfl⟩
   intro x a J hx
   obtain⟨y22,y23⟩:=e1
   obtain⟨rfl,b,U,hr,M6,fM6_0,fM6_1,rfl,rfl⟩:=hx
   (try dsimp only at H)
   show K4 _ _
   refine hK4 _ _ (zI hr ?_)
   refine Rc.mk ?_
   obtain rfl:=oi H
   refine qI hK2 ?_
   exact Rf ⟨M6+3,(by omega),(by first|rfl|exact fM6_1|omega),rfl,rfl⟩
  cases oj H
  refine zH (hO2 _ _ _ _ rfl ⟨rfl,?_⟩)
  refine kr ?_
  exact Rf ⟨M1+4,(by omega),(by first|rfl|exact fM1_1|omega),rfl,rfl⟩
 intro x a J hx
 obtain⟨y4,y5⟩:=e2
 obtain⟨rfl,b,U,hr,M2,fM2_0,fM2_1,rfl,rfl⟩:=hx
 (try dsimp only at H)
 show K1 _ _
 refine hK1 _ _ (zI hr ?_)
 refine Rc.mk ?_
 refine qA [4] ?_
 obtain rfl:=oi H
 refine Kp [4] ?_
 refine Wr ?_
 refine⟨[.bool y4],by simp,M2+2,by omega,by first|rfl|exact fM2_1|omega,?_,?_⟩
 .simp[eN]
 first|rfl|simp

theorem c153 {p0:List gQuad}{r:(List (List gFact))}(H:gK p0=some r):APure Tryz.prog G 153 [.fsl (eL rQuad p0)] (.fsl (eL kW r)):=by
 refine qK func153 ntmps153 results153 fun N0=>?_
 unfold gK at H
 refine qA [0] ?_
 have q0:∀J i,bsA T 45 true i 0 [] J=some (.esl,J):=fun _ _=>rfl
 refine Sy tok [0] [0,3] q0 ?_
 refine Wsq [0,3] fun K1 hK1=>?_
 obtain⟨r1,hr1,H⟩:=bE H
 refine qD [0,3,9] (c108 hr1) ?_
 refine Ci H ?_ ?_<;>intro H
 .refine qA [2] ?_
  cases oj H;exact W4
 refine Js hK1 ?_
 refine Wsq [0,3] fun K2 hK2=>?_
 refine qA [0,3,4] ?_
 refine Wb ?_
 obtain⟨e1,hse1,H⟩:=bE H
 refine zS [0,3,4] (fun s a J=>∃M1 o1:Nat,N0<=M1/\N0<=o1/\o1<M1/\a=[(0,.fsl (eL rQuad p0)),(3,.sl o1 0 s.2.length),(4,.int .i64 s.1)]/\J=hp E0 [(o1,some ⟨44,1,eL zP s.2⟩)] M1) (fun s x a J=>x=.exit 0/\Rc G 35 N0 (fun a J=>∃M2 o2:Nat,N0<=M2/\N0<=o2/\o2<M2/\a=[(0,.fsl (eL rQuad p0)),(3,.sl o2 0 s.length)]/\J=hp E0 [(o2,some ⟨44,1,eL zP s⟩)] M2) (AAct.keep a [0,3]) J) hse1 ?_ ?_ ?_
 .refine kp [0,3,4] ?_
  refine gNilS zI 3 44 1 [(N0+7,some ⟨44,1,eL zP ([]:List (List gFact))⟩)] [(0,.fsl (eL rQuad p0)),(3,.sl (N0+7) 0 ([]:List (List gFact)).length),(4,.int .i64 0)] (by simp(disch:=omega)) (by simp(disch:=omega) [eN]) [0,3,4] rfl ?_
  exact R2 (N0+8) (N0+7)
 .clear H hse1
  rintro⟨s2,s3⟩ fl a J H ⟨M1,o1,fM1_0,fM1_1,fM1_2,rfl,rfl⟩ K3 O3 hK3 hO3
  unfold tG at H;dsimp only at H
  refine Wsq [0,3,4] fun K4 hK4=>?_
  refine qA [0,3,4,14] ?_
  refine Ci H ?_ ?_<;>intro H
  .refine Js hK4 ?_
   refine Wsq [0,3,4] fun K5 hK5=>?_
   refine Wb ?_
   obtain⟨l5,hl5,H⟩:=bE H
   obtain⟨l6,hl6,H⟩:=bE H
   have q1:∀(a0:Nat) (a1:Nat) J i,bsA T 45 true i 1 [(0,.sl a0 0 a1)] J=some (.fsl [[.sl a0 0 a1]],J):=fun _ _ _ _=>rfl
   have e0:=nQ o1 (M1+5)
   have e1:=nQ o1 (M1+7)
   refine Rb tok [2] (j e0 (j e1 (j (mak44 hl5) (j q1 (apr45 zP hl6))))) hK5 ?_
   refine gP Wre (M1+7) s3.length 0 ?_ (hr:=by exact app_get _ _ _)
   rw[show hp E0 [(M1+7,some ⟨44,1,eL zP s3++[[.osl 49 2 (eL rFact l5)]]⟩)] (M1+9)=hp E0 [(M1+7,some ⟨44,1,eL zP l6⟩)] (M1+9) from by rw[<- app_enc (f:=zP) (c:=[.osl 49 2 (eL rFact l5)]) hl6 rfl]]
   obtain rfl:=oi H
   refine qI hK3 ?_
   exact R2 (M1+12) (M1+7)
  cases oj H
  refine zH (hO3 _ _ _ _ rfl ⟨rfl,?_⟩)
  refine kr ?_
  exact R2 (M1+4) o1
 intro x a J hx
 obtain⟨y4,rfl⟩:∃x,x=e1:=⟨_,rfl⟩
 obtain⟨rfl,b,U,hr,M2,o2,fM2_0,fM2_1,fM2_2,rfl,rfl⟩:=hx
 (try dsimp only at H)
 show K2 _ _
 refine hK2 _ _ (zI hr ?_)
 refine Rc.mk ?_
 refine Wsq [0,3] fun K6 hK6=>?_
 refine qA [0,3,5] ?_
 refine Wb ?_
 obtain⟨e2,hse2,H⟩:=bE H
 refine zS [0,3,5] (fun s a J=>∃M3 o3:Nat,N0<=M3/\N0<=o3/\o3<M3/\a=[(0,.fsl (eL rQuad p0)),(3,.sl o3 0 s.2.length),(5,.int .i64 s.1)]/\J=hp E0 [(o3,some ⟨44,1,eL zP s.2⟩)] M3) (fun s x a J=>x=.exit 2/\Rc G 35 N0 (fun a J=>∃M4 o4:Nat,N0<=M4/\N0<=o4/\o4<M4/\a=[(0,.fsl (eL rQuad p0)),(3,.sl o4 0 s.length)]/\J=hp E0 [(o4,some ⟨44,1,eL zP s⟩)] M4) (AAct.keep a [0,3]) J) hse2 ?_ ?_ ?_
 .refine kp [0,3,5] ?_
  exact R2 (M2+1) o2
 .clear H hse2
  rintro⟨s7,s8⟩ fl a J H ⟨M3,o3,fM3_0,fM3_1,fM3_2,rfl,rfl⟩ K7 O7 hK7 hO7
  unfold gJ at H;dsimp only at H
  refine Wsq [0,3,5] fun K8 hK8=>?_
  refine qA [0,3,5,22] ?_
  refine Ci H ?_ ?_<;>intro H
  .refine Js hK8 ?_
   refine Wsq [0,3,5] fun K9 hK9=>?_
   refine Wb ?_
   obtain⟨v10,hv10,H⟩:=bE H
   refine gU Wre o3 0 0 ?_ (hr:=by exact pC zP hv10)
   obtain⟨v11,hv11,H⟩:=bE H
   obtain⟨l12,hl12,H⟩:=bE H
   have e0:=nQ o3 (M3+2)
   refine Rt tok [] [0,3,5] (by intro K k;simp -dsimp -implicitDefEqProofs [e0,(gset hv10 _),(show((eL _ _).set 0 _)[0]? =some _ from gset hv10 _),ixo45 hv10,(show _[0]? =some v10 from(zG hv10).2.2),ixo44 hv11,(zG hv11).2.2,(setx_iff.1 hl12).2.symm];exact k) fun a ha=>?_
   (try rw[<- zE hl12] at ha);(try rw[<- zE hl12])
   refine hK9 _ _ ?_;rw[ha]
   refine Rc.mk ?_
   have e0:=nQ o3 (M3+2)
   refine Rt tok [] [0,3,5] (by intro K k;simp -dsimp -implicitDefEqProofs [e0,(gset hv10 _),(show((eL _ _).set 0 _)[0]? =some _ from gset hv10 _)];exact k) fun a ha=>?_
   obtain⟨l13,hl13,H⟩:=bE H
   obtain rfl:=oi H
   refine hK7 _ _ _ rfl ?_;rw[ha]
   refine gP zI o3 0 0 ?_ (hr:=by exact gset hv10 _)
   rw[show hp E0 [(o3,some ⟨44,1,(eL zP s8).set 0 [.osl 49 2 (eL rFact l12)]⟩)] (M3+13)=hp E0 [(o3,some ⟨44,1,eL zP l13⟩)] (M3+13) from by(try rw[zE hl13]);rw[(setx_iff.1 hl13).2,<- zZ];rfl];(try rw[<- zE hl13])
   exact R2 (M3+13) o3
  cases oj H
  refine zH (hO7 _ _ _ _ rfl ⟨rfl,?_⟩)
  refine kr ?_
  exact R2 (M3+2) o3
 intro x a J hx
 obtain⟨y9,rfl⟩:∃x,x=e2:=⟨_,rfl⟩
 obtain⟨rfl,b,U,hr,M4,o4,fM4_0,fM4_1,fM4_2,rfl,rfl⟩:=hx
 (try dsimp only at H)
 show K6 _ _
 refine hK6 _ _ (zI hr ?_)
 refine Rc.mk ?_
 refine Wsq [3] fun K10 hK10=>?_
 refine Wb ?_
 obtain⟨e3,hse3,H⟩:=bE H
 refine zS [0,3] (fun s a J=>∃M5 o5:Nat,N0<=M5/\N0<=o5/\o5<M5/\a=[(0,.fsl (eL rQuad p0)),(3,.sl o5 0 s.length)]/\J=hp E0 [(o5,some ⟨44,1,eL zP s⟩)] M5) (fun s x a J=>x=.exit 4/\Rc G 35 N0 (fun a J=>∃M6 o6:Nat,N0<=M6/\N0<=o6/\o6<M6/\a=[(3,.sl o6 0 s.length)]/\J=hp E0 [(o6,some ⟨44,1,eL zP s⟩)] M6) (AAct.keep a [3]) J) hse3 ?_ ?_ ?_
 .refine kp [0,3] ?_
  exact R2 M4 o4
 .clear H hse3
  rintro s14 fl a J H ⟨M5,o5,fM5_0,fM5_1,fM5_2,rfl,rfl⟩ K11 O11 hK11 hO11
  unfold gI at H;dsimp only at H
  refine Wsq [0,3] fun K12 hK12=>?_
  obtain⟨r16,hr16,H⟩:=bE H
  refine jJ tok [] [0,3,33] (fun a J=>∃M7:Nat,M5+3<=M7/\r16.2.length=s14.length/\a=[(0,.fsl (eL rQuad p0)),(3,.sl o5 0 s14.length),(33,.bool r16.1)]/\J=hp E0 [(o5,some ⟨44,1,eL zP r16.2⟩)] M7) (fun K hK=>?_) ?_
  .skip
   refine m0 ?_
   refine(c172 (H:=hr16) (by simp)).mono ?_;rintro _ _ ⟨M7,fM7_0,fM7_1,rfl,rfl⟩;simp only[hpN] at fM7_0
   refine m2 @hoS @hoN ?_
   exact hK _ _ ⟨M7,(by omega),fM7_1,rfl,rfl⟩
  rintro a J ⟨M7,fM7_0,fM7_1,rfl,rfl⟩
  try rw[<- fM7_1]
  refine Ci H ?_ ?_<;>intro H
  .refine Js hK12 ?_
   refine Wb ?_
   refine Wsk ?_
   show K11 _ _
   refine kE [0,3] fun a' ha=>?_
   cases oj H
   refine hK11 _ _ _ rfl ?_;rw[ha]
   exact R2 M7 o5
  obtain rfl:=oi H
  refine zH (hO11 _ _ _ _ rfl ⟨rfl,?_⟩)
  refine kr ?_
  exact R2 M7 o5
 intro x a J hx
 obtain⟨y15,rfl⟩:∃x,x=e3:=⟨_,rfl⟩
 obtain⟨rfl,b,U,hr,M6,o6,fM6_0,fM6_1,fM6_2,rfl,rfl⟩:=hx
 (try dsimp only at H)
 show K10 _ _
 refine hK10 _ _ (zI hr ?_)
 refine Rc.mk ?_
 refine qA [2] ?_
 cases oj H;exact W4

theorem c174 {p0:gFact}{p1:Int}{r:Bool}(H:oU p0 p1=some r):APure Tryz.prog G 174 [.agg [.int .i64 p0.Kind,.int .i64 p0.N],.int .i64 p1] (.bool r):=by
 refine qK func174 ntmps174 results174 fun N0=>?_
 unfold oU at H
 refine S0 tok [0] [1,2] ?_
 obtain⟨g1,hg1,H⟩:=bE H
 refine qF tok [4] ([(4,.bool g1)]) (hp E0 [] (N0+12)) (by
  intro K k
  refine m0 ?_
  cases hbg1:ieq p0.Kind 1
  .cases oj (ifF hbg1 hg1)
   exact m1 hbg1 k
  cases oj (ifT hbg1 hg1)
  refine m1 hbg1 ?_
  exact k) ?_
 cases oj H;exact W4

theorem c193 {p0:List Int}{p1:Int}{r:Bool}(H:fO p0 p1=some r):APure Tryz.prog G 193 [.fsl (eL rI p0),.int .i64 p1] (.bool r):=by
 refine qK func193 ntmps193 results193 fun N0=>?_
 unfold fO at H
 refine qA [0,1] ?_
 refine Wsq [] fun K1 hK1=>?_
 refine qA [0,1,5] ?_
 refine Wb ?_
 obtain⟨e1,hse1,H⟩:=bE H
 refine zS [0,1,5] (fun s a J=>∃M1:Nat,N0<=M1/\a=[(0,.fsl (eL rI p0)),(1,.int .i64 p1),(5,.int .i64 s)]/\J=hp E0 [] M1) (fun e x a J=>match e with|.inl s=>x=.exit 0/\Rc G 18 N0 (fun a J=>∃M2:Nat,N0<=M2/\a=[]/\J=hp E0 [] M2) (AAct.keep a []) J|.inr s=>x=.ret/\∃vs,resA T J a [.tmp 4]=some vs/\∃d,thawA (fun _=>true) J d (tupA vs)=.bool s) hse1 ?_ ?_ ?_
 .refine kp [0,1,5] ?_
  exact R1 (N0+2)
 .clear H hse1
  rintro s1 fl a J H ⟨M1,fM1_0,rfl,rfl⟩ K2 O2 hK2 hO2
  unfold dK at H;dsimp only at H
  refine Wsq [0,1,5] fun K3 hK3=>?_
  refine qA [0,1,5,9] ?_
  refine Ci H ?_ ?_<;>intro H
  .refine Js hK3 ?_
   refine Wsq [0,1,5] fun K4 hK4=>?_
   refine Wb ?_
   obtain⟨v2,hv2,H⟩:=bE H
   refine qB [0,1,5,17] (ix23 hv2) ?_
   refine Ci H ?_ ?_<;>intro H
   .refine qA [4] ?_
    cases oj H
    refine Kp [4] ?_
    refine Wr (hO2 _ _ _ _ rfl ⟨rfl,?_⟩)
    exact⟨[.bool true],by simp,4,by simp[eN]⟩
   refine Js hK4 ?_
   obtain rfl:=oi H
   refine qI hK2 ?_
   exact R1 (M1+13)
  cases oj H
  refine zH (hO2 _ _ _ _ rfl ⟨rfl,?_⟩)
  refine kr ?_
  exact R1 (M1+4)
 intro x a J hx
 rcases e1 with⟨⟩|r0
 .obtain⟨rfl,b,U,hr,M2,fM2_0,rfl,rfl⟩:=hx
  (try dsimp only at H)
  show K1 _ _
  refine hK1 _ _ (zI hr ?_)
  refine Rc.mk ?_
  refine qA [4] ?_
  cases oj H;exact W4
 obtain⟨rfl,hx2⟩:=hx
 (try dsimp only at H)
 cases oj H;first|exact hx2|(simp only[List.set_set] at hx2 ⊢;exact hx2)

theorem c186 {p0:Int}{p1:List Int}{r:Bool}(H:oW p0 p1=some r):APure Tryz.prog G 186 [.int .i64 p0,.fsl (eL rI p1)] (.bool r):=by
 refine qK func186 ntmps186 results186 fun N0=>?_
 unfold oW at H
 refine qA [0,1] ?_
 obtain⟨r1,hr1,H⟩:=bE H
 refine qD [4] (c193 hr1) ?_
 cases oj H;exact W4

theorem c173 {p0:gQuad}{p1:gFact}{p2:gFact}{r:gQuad}(H:cF p0 p1 p2=some r):APure Tryz.prog G 173 [.agg [.int .i64 p0.Op,.int .i64 p0.Dst,.int .i64 p0.A,.int .i64 p0.B,.int .i64 p0.N],.agg [.int .i64 p1.Kind,.int .i64 p1.N],.agg [.int .i64 p2.Kind,.int .i64 p2.N]] (.agg [.int .i64 r.Op,.int .i64 r.Dst,.int .i64 r.A,.int .i64 r.B,.int .i64 r.N]):=by
 refine qK func173 ntmps173 results173 fun N0=>?_
 unfold cF at H
 refine S0 tok [0,1,2] [3,4,5,6] ?_
 obtain⟨r1,hr1,H⟩:=bE H
 refine qD [3,4,5,6,7] (c185 hr1) ?_
 refine Wsq [3,6] fun K1 hK1=>?_
 refine Wb ?_
 refine qA [3,4,5,6,7,12] ?_
 refine Ci H ?_ ?_<;>intro H
 .refine qA [6] ?_
  obtain rfl:=oi H
  refine Kp [6] ?_
  exact V0
 obtain⟨r2,hr2,H⟩:=bE H
 obtain⟨g4,hg4,H⟩:=bE H
 refine Su tok [5] [3,4,5,6,21] ([(3,.fptr [.int .i64 p0.Op,.int .i64 p0.Dst,.int .i64 p0.A,.int .i64 p0.B,.int .i64 p0.N] 0),(4,.fptr [.int .i64 p1.Kind,.int .i64 p1.N] 0),(5,.fptr [.int .i64 p2.Kind,.int .i64 p2.N] 0),(6,.ptr (N0+3) 0 0),(21,.bool g4)]) (hp E0 [(N0+3,some ⟨68,5,[[.int .i64 0,.int .i64 0,.int .i64 0,.int .i64 0,.int .i64 0]]⟩),(N0+8,some ⟨49,2,[[.int .i64 r1.Kind,.int .i64 r1.N]]⟩)] (N0+23)) (by
  intro K k
  refine m0 ?_
  refine(c174 hr2).app (m0 ?_)
  cases hbg4:r2
  .cases oj (ifF hbg4 hg4)
   exact m1 hbg4 k
  replace hg4:=ifT hbg4 hg4
  obtain⟨r3,hr3,hg4⟩:=bE hg4
  have q0:∀J i,bsA T 23 true i 6 [(0,.int .i64 1),(1,.int .i64 2),(2,.int .i64 6),(3,.int .i64 7),(4,.int .i64 8),(5,.int .i64 9)] J=some (.fsl (eL rI ([1,2,6,7,8,9]:List Int)),J):=fun _ _=>rfl
  cases oj hg4
  refine m2 hbg4 q0 ?_
  refine(c186 hr3).app (m2 hbg4 q0 ?_)
  exact k) ?_
 refine Ci H ?_ ?_<;>intro H
 .refine qA [6] ?_
  cases oj H
  refine Kp [6] ?_
  exact V0
 obtain⟨r5,hr5,H⟩:=bE H
 obtain⟨g7,hg7,H⟩:=bE H
 refine Su tok [5] [3,4,5,6,35] ([(3,.fptr [.int .i64 p0.Op,.int .i64 p0.Dst,.int .i64 p0.A,.int .i64 p0.B,.int .i64 p0.N] 0),(4,.fptr [.int .i64 p1.Kind,.int .i64 p1.N] 0),(5,.fptr [.int .i64 p2.Kind,.int .i64 p2.N] 0),(6,.ptr (N0+3) 0 0),(35,.bool g7)]) (hp E0 [(N0+3,some ⟨68,5,[[.int .i64 0,.int .i64 0,.int .i64 0,.int .i64 0,.int .i64 0]]⟩),(N0+8,some ⟨49,2,[[.int .i64 r1.Kind,.int .i64 r1.N]]⟩)] (N0+32)) (by
  intro K k
  refine m0 ?_
  refine(c174 hr5).app (m0 ?_)
  cases hbg7:r5
  .cases oj (ifF hbg7 hg7)
   exact m1 hbg7 k
  replace hg7:=ifT hbg7 hg7
  obtain⟨r6,hr6,hg7⟩:=bE hg7
  have q1:∀J i,bsA T 23 true i 2 [(0,.int .i64 10),(1,.int .i64 11)] J=some (.fsl (eL rI ([10,11]:List Int)),J):=fun _ _=>rfl
  cases oj hg7
  refine m2 hbg7 q1 ?_
  refine(c186 hr6).app (m2 hbg7 q1 ?_)
  exact k) ?_
 refine Ci H ?_ ?_<;>intro H
 .refine qA [6] ?_
  cases oj H
  refine Kp [6] ?_
  exact V0
 obtain⟨r8,hr8,H⟩:=bE H
 obtain⟨g10,hg10,H⟩:=bE H
 refine Su tok [5] [3,4,5,6,49] ([(3,.fptr [.int .i64 p0.Op,.int .i64 p0.Dst,.int .i64 p0.A,.int .i64 p0.B,.int .i64 p0.N] 0),(4,.fptr [.int .i64 p1.Kind,.int .i64 p1.N] 0),(5,.fptr [.int .i64 p2.Kind,.int .i64 p2.N] 0),(6,.ptr (N0+3) 0 0),(49,.bool g10)]) (hp E0 [(N0+3,some ⟨68,5,[[.int .i64 0,.int .i64 0,.int .i64 0,.int .i64 0,.int .i64 0]]⟩),(N0+8,some ⟨49,2,[[.int .i64 r1.Kind,.int .i64 r1.N]]⟩)] (N0+41)) (by
  intro K k
  refine m0 ?_
  refine(c174 hr8).app (m0 ?_)
  cases hbg10:r8
  .cases oj (ifF hbg10 hg10)
   exact m1 hbg10 k
  replace hg10:=ifT hbg10 hg10
  obtain⟨r9,hr9,hg10⟩:=bE hg10
  have q2:∀J i,bsA T 23 true i 3 [(0,.int .i64 1),(1,.int .i64 2),(2,.int .i64 8)] J=some (.fsl (eL rI ([1,2,8]:List Int)),J):=fun _ _=>rfl
  cases oj hg10
  refine m2 hbg10 q2 ?_
  refine(c186 hr9).app (m2 hbg10 q2 ?_)
  exact k) ?_
 refine Ci H ?_ ?_<;>intro H
 .refine qA [6] ?_
  cases oj H
  refine Kp [6] ?_
  exact V0
 obtain⟨r11,hr11,H⟩:=bE H
 obtain⟨g12,hg12,H⟩:=bE H
 refine qF tok [3,4,5,6,63] ([(3,.fptr [.int .i64 p0.Op,.int .i64 p0.Dst,.int .i64 p0.A,.int .i64 p0.B,.int .i64 p0.N] 0),(4,.fptr [.int .i64 p1.Kind,.int .i64 p1.N] 0),(5,.fptr [.int .i64 p2.Kind,.int .i64 p2.N] 0),(6,.ptr (N0+3) 0 0),(63,.bool g12)]) (hp E0 [(N0+3,some ⟨68,5,[[.int .i64 0,.int .i64 0,.int .i64 0,.int .i64 0,.int .i64 0]]⟩),(N0+8,some ⟨49,2,[[.int .i64 r1.Kind,.int .i64 r1.N]]⟩)] (N0+49)) (by
  intro K k
  refine m0 ?_
  refine(c174 hr11).app (m0 ?_)
  cases hbg12:r11
  .cases oj (ifF hbg12 hg12)
   exact m1 hbg12 k
  cases oj (ifT hbg12 hg12)
  refine m1 hbg12 ?_
  exact k) ?_
 refine Ci H ?_ ?_<;>intro H
 .refine qA [6] ?_
  cases oj H
  refine Kp [6] ?_
  exact V0
 obtain⟨g13,hg13,H⟩:=bE H
 obtain⟨g15,hg15,H⟩:=bE H
 refine Su tok [9] [3,6,76] ([(3,.fptr [.int .i64 p0.Op,.int .i64 p0.Dst,.int .i64 p0.A,.int .i64 p0.B,.int .i64 p0.N] 0),(6,.ptr (N0+3) 0 0),(76,.bool g15)]) (hp E0 [(N0+3,some ⟨68,5,[[.int .i64 0,.int .i64 0,.int .i64 0,.int .i64 0,.int .i64 0]]⟩),(N0+8,some ⟨49,2,[[.int .i64 r1.Kind,.int .i64 r1.N]]⟩)] (N0+62)) (by
  intro K k
  refine m0 ?_
  refine(c174 hr8).app (m0 ?_)
  cases hbg13:r8
  .cases oj (ifF hbg13 hg13)
   refine m1 hbg13 ?_
   refine(c174 hr2).app (m1 hbg13 ?_)
   cases hbg15:r2
   .cases oj (ifF hbg15 hg15)
    exact m2 hbg13 hbg15 k
   replace hg15:=ifT hbg15 hg15
   obtain⟨r14,hr14,hg15⟩:=bE hg15
   have q3:∀J i,bsA T 23 true i 2 [(0,.int .i64 3),(1,.int .i64 10)] J=some (.fsl (eL rI ([3,10]:List Int)),J):=fun _ _=>rfl
   cases oj hg15
   refine m1 (j hbg13 (j hbg15 q3)) ?_
   refine(c186 hr14).app (m1 (j hbg13 (j hbg15 q3)) ?_)
   exact k
  cases oj (ifT hbg13 hg13)
  refine m1 hbg13 ?_
  replace hg15:=ifT rfl hg15
  obtain⟨r14,hr14,hg15⟩:=bE hg15
  have q3:∀J i,bsA T 23 true i 2 [(0,.int .i64 3),(1,.int .i64 10)] J=some (.fsl (eL rI ([3,10]:List Int)),J):=fun _ _=>rfl
  cases oj hg15
  refine m2 hbg13 q3 ?_
  refine(c186 hr14).app (m2 hbg13 q3 ?_)
  exact k) ?_
 refine Ci H ?_ ?_<;>intro H
 .refine qA [6] ?_
  cases oj H
  refine Kp [6] ?_
  exact V0
 refine Js hK1 ?_
 refine qA [6] ?_
 cases oj H
 refine Kp [6] ?_
 exact V0

theorem c154 {p0:gQuad}{p1:List gFact}{p2:Int}{r:gQuad}(H:hY p0 p1 p2=some r):APure Tryz.prog G 154 [.agg [.int .i64 p0.Op,.int .i64 p0.Dst,.int .i64 p0.A,.int .i64 p0.B,.int .i64 p0.N],.fsl (eL rFact p1),.int .i64 p2] (.agg [.int .i64 r.Op,.int .i64 r.Dst,.int .i64 r.A,.int .i64 r.B,.int .i64 r.N]):=by
 refine qK func154 ntmps154 results154 fun N0=>?_
 unfold hY at H
 refine S0 tok [0] [1,2,3,6] ?_
 refine Wsq [1,2,3,6] fun K1 hK1=>?_
 obtain⟨v1,hv1,H⟩:=bE H
 refine qB [1,2,3,6,11] (ix44 hv1) ?_
 refine Ci H ?_ ?_<;>intro H
 .refine qA [6] ?_
  cases oj H
  refine Kp [6] ?_
  exact V0
 refine Js hK1 ?_
 refine Wsq [3,6] fun K2 hK2=>?_
 refine qA [1,2,3,6,14] ?_
 refine Wb ?_
 refine qA [1,2,3,6,14,15] ?_
 refine Ci H ?_ ?_<;>intro H
 .obtain⟨v2,hv2,H⟩:=bE H
  refine qB [1,3,6,23] (ix44 hv2) ?_
  refine Ci H ?_ ?_<;>intro H
  .refine Sd tok tokM [] [9] [0,1,2,3,4,5,6,7,8,9] [6] (by
    intro K k
    simp only[pickL,zN,zO]
    refine m1 (ix44 hv2) ?_
    exact k) ?_
   obtain rfl:=oi H
   refine Kp [6] ?_
   exact V0
  refine Js hK2 ?_
  refine qA [6] ?_
  cases oj H
  refine Kp [6] ?_
  exact V0
 refine qA [1,2,3,6,14,33] ?_
 refine Ci H ?_ ?_<;>intro H
 .obtain⟨v3,hv3,H⟩:=bE H
  obtain⟨v4,hv4,H⟩:=bE H
  obtain⟨r5,hr5,H⟩:=bE H
  refine Sd tok tokM [] [12] [0,1,2,3,4,5,6,7,8,9,10,11,12] [6] (by
   intro K k
   simp only[pickL,zN,zO]
   repeat first|simp -dsimp -implicitDefEqProofs [ix44 hv3,ix44 hv4]|refine Pc.mk (c173 hr5) ?_
   exact k) ?_
  obtain rfl:=oi H
  refine Kp [6] ?_
  exact V0
 refine qA [1,2,3,6,47] ?_
 refine Ci H ?_ ?_<;>intro H
 .refine Wsq [1,2,3,6] fun K3 hK3=>?_
  obtain⟨v6,hv6,H⟩:=bE H
  obtain⟨r7,hr7,H⟩:=bE H
  refine qE [1,2,3,6,54] (ix44 hv6) (c174 hr7) ?_
  refine Ci H ?_ ?_<;>intro H
  .refine qA [6] ?_
   cases oj H
   refine Kp [6] ?_
   exact V0
  refine Js hK3 ?_
  refine qB [2,3,6,64] (ix44 hv6) ?_
  refine Ci H ?_ ?_<;>intro H
  .refine qA [6] ?_
   cases oj H
   refine Kp [6] ?_
   exact V0
  refine Js hK2 ?_
  refine qA [6] ?_
  cases oj H
  refine Kp [6] ?_
  exact V0
 refine Js hK2 ?_
 refine qA [6] ?_
 cases oj H
 refine Kp [6] ?_
 exact V0

theorem c136 {p0:List gQuad}{r:(List gQuad)×Bool}(H:nS p0=some r):APure Tryz.prog G 136 [.fsl (eL rQuad p0)] (.tup [.fsl (eL rQuad r.1),.bool r.2]):=by
 refine qK func136 ntmps136 results136 fun N0=>?_
 unfold nS at H
 refine qA [0] ?_
 have q0:∀J i,bsA T 34 true i 0 [] J=some (.esl,J):=fun _ _=>rfl
 refine Sy tok [0] [0,4] q0 ?_
 refine Wsq [0,4] fun K1 hK1=>?_
 obtain⟨r1,hr1,H⟩:=bE H
 refine qD [0,4,10] (c108 hr1) ?_
 refine Ci H ?_ ?_<;>intro H
 .refine qA [2,3] ?_
  cases oj H;exact W4
 refine Js hK1 ?_
 obtain⟨r2,hr2,H⟩:=bE H
 refine qD [0,4,5] (c153 hr2) ?_
 refine Wsq [4] fun K2 hK2=>?_
 refine qA [0,4,5,6] ?_
 refine Wb ?_
 obtain⟨e1,hse1,H⟩:=bE H
 refine zS [0,4,5,6] (fun s a J=>∃M1 o1:Nat,N0<=M1/\N0<=o1/\o1<M1/\a=[(0,.fsl (eL rQuad p0)),(4,.sl o1 0 s.2.length),(5,.fsl (eL kW r2)),(6,.int .i64 s.1)]/\J=hp E0 [(o1,some ⟨68,5,eL rQuad s.2⟩)] M1) (fun s x a J=>x=.exit 0/\Rc G 34 N0 (fun a J=>∃M2 o2:Nat,N0<=M2/\N0<=o2/\o2<M2/\a=[(4,.sl o2 0 s.length)]/\J=hp E0 [(o2,some ⟨68,5,eL rQuad s⟩)] M2) (AAct.keep a [4]) J) hse1 ?_ ?_ ?_
 .refine kp [0,4,5,6] ?_
  refine gNilS zI 4 68 5 [(N0+11,some ⟨68,5,eL rQuad ([]:List gQuad)⟩)] [(0,.fsl (eL rQuad p0)),(4,.sl (N0+11) 0 ([]:List gQuad).length),(5,.fsl (eL kW r2)),(6,.int .i64 0)] (by simp(disch:=omega)) (by simp(disch:=omega) [eN]) [0,4,5,6] rfl ?_
  exact R2 (N0+12) (N0+11)
 .clear H hse1
  rintro⟨s3,s4⟩ fl a J H ⟨M1,o1,fM1_0,fM1_1,fM1_2,rfl,rfl⟩ K3 O3 hK3 hO3
  unfold sA at H;dsimp only at H
  refine Wsq [0,4,5,6] fun K4 hK4=>?_
  refine qA [0,4,5,6,17] ?_
  refine Ci H ?_ ?_<;>intro H
  .refine Js hK4 ?_
   refine Wsq [0,4,5,6] fun K5 hK5=>?_
   refine Wb ?_
   obtain⟨v6,hv6,H⟩:=bE H
   obtain⟨v7,hv7,H⟩:=bE H
   obtain⟨r8,hr8,H⟩:=bE H
   obtain⟨l9,hl9,H⟩:=bE H
   have q1:∀J i,bsA T 34 true i 1 [(0,.agg [.int .i64 r8.Op,.int .i64 r8.Dst,.int .i64 r8.A,.int .i64 r8.B,.int .i64 r8.N])] J=some (.fsl (eL rQuad ([r8]:List gQuad)),J):=fun _ _=>rfl
   refine dF tok tokM [11] [12] [0,1,2,3,4,5,6,7,8,9,10,11,12,13] [0,4,5,6] (fun a J=>a=[(0,.fsl (eL rQuad p0)),(4,.sl (M1+16) 0 l9.length),(5,.fsl (eL kW r2)),(6,.int .i64 s3)]/\J=hp E0 [(M1+16,some ⟨68,5,eL rQuad l9⟩)] (M1+18)) (by decide) (fun K hK=>?_) ?_
   .simp only[pickL,zN,zO]
    have e0:=nQ o1 (M1+16)
    refine m1 (j e0 (j (ix34 hv6) (j (ix45 hv7) (j q1 (app34 hl9))))) ?_
    refine Pc.mk (c154 hr8) (m1 (j e0 (j (ix34 hv6) (j (ix45 hv7) (j q1 (app34 hl9))))) ?_)
    exact hK _ _ ⟨rfl,rfl⟩
   rintro a J ⟨ha,rfl⟩
   refine hK5 _ _ ?_;rw[ha]
   refine Rc.mk ?_
   obtain rfl:=oi H
   refine qI hK3 ?_
   exact R2 (M1+21) (M1+16)
  cases oj H
  refine zH (hO3 _ _ _ _ rfl ⟨rfl,?_⟩)
  refine kr ?_
  exact R2 (M1+4) o1
 intro x a J hx
 obtain⟨y5,rfl⟩:∃x,x=e1:=⟨_,rfl⟩
 obtain⟨rfl,b,U,hr,M2,o2,fM2_0,fM2_1,fM2_2,rfl,rfl⟩:=hx
 (try dsimp only at H)
 show K2 _ _
 refine hK2 _ _ (zI hr ?_)
 refine Rc.mk ?_
 refine qA [2,3] ?_
 cases oj H;exact W4

theorem c194 {p0:gQuad}{r:Int}(H:wL p0=some r):APure Tryz.prog G 194 [.agg [.int .i64 p0.Op,.int .i64 p0.Dst,.int .i64 p0.A,.int .i64 p0.B,.int .i64 p0.N]] (.int .i64 r):=by
 refine qK func194 ntmps194 results194 fun N0=>?_
 unfold wL at H
 refine S0 tok [0] [1] ?_
 refine Wsq [1] fun K1 hK1=>?_
 obtain⟨r1,hr1,H⟩:=bE H
 refine qD [1,5] (c127 hr1) ?_
 refine Ci H ?_ ?_<;>intro H
 .refine qA [2] ?_
  cases oj H;exact W4
 refine Js hK1 ?_
 refine Wsq [] fun K2 hK2=>?_
 refine qA [1,7] ?_
 refine Wb ?_
 obtain⟨j1,hj1,H⟩:=bE H
 refine kS (kM fun K3 hK3=>?_)
 have hJ1:∀a J,Rc G 15 N0 (fun a J=>∃M1:Nat,N0<=M1/\a=[(1,.fptr [.int .i64 p0.Op,.int .i64 p0.Dst,.int .i64 p0.A,.int .i64 p0.B,.int .i64 p0.N] 0),(8,.bool j1)]/\J=hp E0 [] M1) (a.keep [1,8]) J->K3 a J:=by
  rintro a J ⟨b,U,hr,M1,fM1_0,rfl,rfl⟩
  refine hK3 _ _ (kG [1,8] (Wre hr ?_))
  refine Ci H ?_ ?_<;>intro H
  .refine qA [2] ?_
   cases oj H;exact W4
  refine Js hK2 ?_
  refine qA [2] ?_
  cases oj H;exact W4
 replace H:=hj1
 refine qA [1,7,8] ?_
 refine Ci H ?_ ?_<;>intro H
 .refine Wsk ?_
  show K3 _ _
  refine kE [1,8] fun a' ha=>?_
  cases oj H
  refine hJ1 _ _ ?_;rw[ha]
  exact R1 (N0+9)
 refine qA [1,7,8] ?_
 refine Ci H ?_ ?_<;>intro H
 .refine Wsk ?_
  show K3 _ _
  refine kE [1,8] fun a' ha=>?_
  cases oj H
  refine hJ1 _ _ ?_;rw[ha]
  exact R1 (N0+11)
 refine qA [1,7,8] ?_
 refine Ci H ?_ ?_<;>intro H
 .refine Wsk ?_
  show K3 _ _
  refine kE [1,8] fun a' ha=>?_
  cases oj H
  refine hJ1 _ _ ?_;rw[ha]
  exact R1 (N0+13)
 refine Rt0 tok [] [1,8] fun a ha=>?_
 cases oj H
 refine hJ1 _ _ ?_;rw[ha]
 exact R1 (N0+15)

theorem c188 {p0:(List (List Int))}{p1:Int}{p2:List Int}{r:Bool×(List (List Int))}(H:nF p0 p1 p2=some r){J:AHeap}{w0:Nat}(q0:J.objs w0=some ⟨23,1,eL zX p0⟩):ACalls Tryz.prog G 188 [.sl w0 0 p0.length,.int .i64 p1,.fsl (eL rI p2)] J (fun v J'=>∃M:Nat,J.next<=M/\r.2.length=p0.length/\v=.bool r.1/\J'=hp J.objs [(w0,some ⟨23,1,eL zX r.2⟩)] M):=by
 refine uC (L:=[(w0,some ⟨23,1,eL zX p0⟩)]) (Q1:=fun v J'=>∃M:Nat,J.next<=M/\r.2.length=p0.length/\v=.bool r.1/\J'=hp E0 [(w0,some ⟨23,1,eL zX r.2⟩)] M) (by simp[q0]) (fun hlt=>?_) ?_ ⟨_,func188,rfl,rfl⟩
 rotate_left
 .rintro v J1 ⟨M,h0,h1,rfl,rfl⟩
  exact⟨_,M,rfl,by simp,by simp;try omega,M,h0,h1,rfl,rfl⟩
 generalize J.next=N0 at hlt ⊢
 have lw0:w0<N0:=hlt _ (.head _) rfl
 refine fnK tok func188 ntmps188 results188 ?_
 simp only[argsA,Nat.reduceAdd,hpN]
 unfold nF at H
 refine qA [0,1,2] ?_
 refine Wsq [0,1,2] fun K1 hK1=>?_
 obtain⟨v1,hv1,H⟩:=bE H
 refine gU Wre w0 p1.toNat 0 ?_ (hr:=by exact pC zX hv1)
 have e0:=nQ w0 (N0+1)
 refine qB [0,1,2,14] (j e0 (j (gSt hv1) (j (ixo50 hv1) ((zG hv1).2.2)))) ?_
 refine Ci H ?_ ?_<;>intro H
 .obtain⟨l2,hl2,H⟩:=bE H
  have q0:∀J i,bsA T 23 true i 0 [] J=some (.esl,J):=fun _ _=>rfl
  have e0:=nQ w0 (N0+1)
  have e1:=nQ w0 (N0+12)
  refine Sy tok [2] [] (j e0 (j e1 (j (gSt hv1) (j q0 (j (appe23 hl2) (j (ixo50 hv1) ((zG hv1).2.2))))))) ?_
  have e0:=nQ w0 (N0+1)
  have e1:=nQ w0 (N0+12)
  refine qB [6] (j e0 (j e1 (gSt hv1))) ?_
  obtain⟨l3,hl3,H⟩:=bE H
  obtain rfl:=oi H
  refine Kp [6] ?_
  refine gP Wre w0 p1.toNat 0 ?_ (hr:=by exact gset hv1 _)
  rw[show hp E0 [(w0,some ⟨23,1,(eL zX p0).set p1.toNat [.osl 3 1 (eL rI l2)]⟩),(N0+1,some ⟨3,1,eL rI v1⟩)] (N0+16)=hp E0 [(w0,some ⟨23,1,eL zX l3⟩),(N0+1,some ⟨3,1,eL rI v1⟩)] (N0+16) from by(try rw[zE hl3]);rw[(setx_iff.1 hl3).2,<- zZ];rfl];(try rw[<- zE hl3])
  have z0:=nQ w0 (N0+1)
  refine gDrop Wre [(w0,some ⟨23,1,eL zX l3⟩)] (zK (AHeap.Sub.trans (AHeap.Sub.refl _) (zT rfl (by simp;try omega)))) ?_
  refine Wr ?_
  refine⟨[.bool true],by simp[z0],N0+16,by omega,by first|rfl|exact(zE hl3)|omega,?_,?_⟩
  .simp[eN]
  first|rfl|simp
 refine Js hK1 ?_
 have e0:=nQ w0 (N0+1)
 refine qC [0,1,2,7] e0 (gSt hv1) ?_
 refine Wsq [7] fun K2 hK2=>?_
 have e0:=nQ w0 (N0+1)
 refine qC [0,1,2,7,8] e0 (gSt hv1) ?_
 refine Wb ?_
 obtain⟨l4,hl4,H⟩:=bE H
 obtain⟨e1,hse1,H⟩:=bE H
 refine zS [0,1,2,7,8] (fun s a J=>∃M1:Nat,N0<=M1/\s.2.2.length=p0.length/\a=[(0,.sl w0 0 s.2.2.length),(1,.int .i64 p1),(2,.fsl (eL rI p2)),(7,.bool s.1),(8,.int .i64 s.2.1)]/\J=hp E0 [(w0,some ⟨23,1,eL zX s.2.2⟩)] M1) (fun s x a J=>x=.exit 0/\Rc G 56 N0 (fun a J=>∃M2:Nat,N0<=M2/\s.2.length=p0.length/\a=[(7,.bool s.1)]/\J=hp E0 [(w0,some ⟨23,1,eL zX s.2⟩)] M2) (AAct.keep a [7]) J) hse1 ?_ ?_ ?_
 .refine kp [0,1,2,7,8] ?_
  refine gP zI w0 p1.toNat 0 ?_ (hr:=by exact gset hv1 _)
  rw[show hp E0 [(w0,some ⟨23,1,(eL zX p0).set p1.toNat [.osl 3 1 (eL rI v1)]⟩)] (N0+10)=hp E0 [(w0,some ⟨23,1,eL zX l4⟩)] (N0+10) from by(try rw[zE hl4]);rw[(setx_iff.1 hl4).2,<- zZ];rfl];(try rw[<- zE hl4])
  exact Rf ⟨N0+10,(by omega),(by first|rfl|exact(zE hl4)|omega),rfl,rfl⟩
 .clear H hse1
  rintro⟨s5,s6,s7⟩ fl a J H ⟨M1,fM1_0,fM1_1,rfl,rfl⟩ K3 O3 hK3 hO3
  unfold oR at H;dsimp only at H
  refine Wsq [0,1,2,7,8] fun K4 hK4=>?_
  refine qA [0,1,2,7,8,22] ?_
  refine Ci H ?_ ?_<;>intro H
  .refine Js hK4 ?_
   refine Wsq [0,1,2,7,8] fun K5 hK5=>?_
   refine Wb ?_
   obtain⟨v10,hv10,H⟩:=bE H
   refine gU Wre w0 p1.toNat 0 ?_ (hr:=by exact pC zX hv10)
   obtain⟨v11,hv11,H⟩:=bE H
   obtain⟨g13,hg13,H⟩:=bE H
   refine fH tok tokM [] [2,3,5,6,12,13,15,16] [0,1,4,7,2,3,5,6,8,9,10,11,14,17,18,19,20,12,13,15,16,21,22] [0,1,2,7,8,47] (fun a J=>a=[(0,.sl w0 0 s7.length),(1,.int .i64 p1),(2,.fsl (eL rI p2)),(7,.bool s5),(8,.int .i64 s6),(47,.bool g13)]/\J=hp E0 [(w0,some ⟨23,1,(eL zX s7).set p1.toNat [.sl (M1+2) 0 v10.length]⟩),(M1+2,some ⟨3,1,eL rI v10⟩)] (M1+26)) (by decide) (fun K hK=>?_) ?_
   .simp only[pickL,zN,zO]
    have e0:=nQ w0 (M1+2)
    refine m1 (j e0 (j (gSt hv10) (j (ixo50 hv10) (j ((zG hv10).2.2) (j (ixo23 hv11) ((zG hv11).2.2)))))) ?_
    cases hbg13:ine v11 s6
    .cases oj (ifF hbg13 hg13)
     refine m1 (j e0 (j (gSt hv10) (j (ixo50 hv10) (j ((zG hv10).2.2) (j (ixo23 hv11) (j ((zG hv11).2.2) hbg13)))))) ?_
     exact hK _ _ ⟨rfl,rfl⟩
    replace hg13:=ifT hbg13 hg13
    obtain⟨v12,hv12,hg13⟩:=bE hg13
    cases oj hg13
    refine m1 (j e0 (j (gSt hv10) (j (ixo50 hv10) (j ((zG hv10).2.2) (j (ixo23 hv11) (j ((zG hv11).2.2) (j hbg13 (ix23 hv12)))))))) ?_
    exact hK _ _ ⟨rfl,rfl⟩
   rintro a J ⟨rfl,rfl⟩
   refine Ci H ?_ ?_<;>intro H
   .obtain⟨l14,hl14,H⟩:=bE H
    have e0:=nQ w0 (M1+2)
    refine qB [0,1,2,8] (j e0 (j (gSt hv10) (j (ixo50 hv10) (j ((zG hv10).2.2) (j (ixo23 hv11) (j ((zG hv11).2.2) ((setx_iff.1 hl14).2.symm))))))) ?_
    try rw[<- zE hl14]
    have e0:=nQ w0 (M1+2)
    refine qH (j e0 (gSt hv10)) hK5 ?_
    have e0:=nQ w0 (M1+2)
    refine Rt tok [] [0,1,2,7,8] (by intro K k;simp -dsimp -implicitDefEqProofs [e0,(gset hv10 _)];exact k) fun a ha=>?_
    obtain⟨l15,hl15,H⟩:=bE H
    obtain rfl:=oi H
    refine hK3 _ _ _ rfl ?_;rw[ha]
    refine gP zI w0 p1.toNat 0 ?_ (hr:=by exact gset hv10 _)
    rw[show hp E0 [(w0,some ⟨23,1,(eL zX s7).set p1.toNat [.osl 3 1 (eL rI l14)]⟩)] (M1+38)=hp E0 [(w0,some ⟨23,1,eL zX l15⟩)] (M1+38) from by(try rw[zE hl15]);rw[(setx_iff.1 hl15).2,<- zZ];rfl];(try rw[<- zE hl15])
    exact Rf ⟨M1+38,(by omega),(by first|rfl|exact((zE hl15).trans fM1_1)|omega),rfl,rfl⟩
   refine Js hK5 ?_
   have e0:=nQ w0 (M1+2)
   refine Rt tok [] [0,1,2,7,8] (by intro K k;simp -dsimp -implicitDefEqProofs [e0,(gset hv10 _)];exact k) fun a ha=>?_
   obtain⟨l16,hl16,H⟩:=bE H
   obtain rfl:=oi H
   refine hK3 _ _ _ rfl ?_;rw[ha]
   refine gP zI w0 p1.toNat 0 ?_ (hr:=by exact gset hv10 _)
   rw[show hp E0 [(w0,some ⟨23,1,(eL zX s7).set p1.toNat [.osl 3 1 (eL rI v10)]⟩)] (M1+29)=hp E0 [(w0,some ⟨23,1,eL zX l16⟩)] (M1+29) from by(try rw[zE hl16]);rw[(setx_iff.1 hl16).2,<- zZ];rfl];(try rw[<- zE hl16])
   exact Rf ⟨M1+29,(by omega),(by first|rfl|exact((zE hl16).trans fM1_1)|omega),rfl,rfl⟩
  cases oj H
  refine zH (hO3 _ _ _ _ rfl ⟨rfl,?_⟩)
  refine kr ?_
  exact Rf ⟨M1+2,(by omega),(by first|rfl|exact fM1_1|omega),rfl,rfl⟩
 intro x a J hx
 obtain⟨y8,y9⟩:=e1
 obtain⟨rfl,b,U,hr,M2,fM2_0,fM2_1,rfl,rfl⟩:=hx
 (try dsimp only at H)
 show K2 _ _
 refine hK2 _ _ (zI hr ?_)
 refine Rc.mk ?_
 refine qA [6] ?_
 obtain rfl:=oi H
 refine Kp [6] ?_
 refine Wr ?_
 refine⟨[.bool y8],by simp,M2+2,by omega,by first|rfl|exact fM2_1|omega,?_,?_⟩
 .simp[eN]
 first|rfl|simp

theorem c187_o {p0:gQuad}{p1:List Int}{r:List Int}(H:uY p0 p1=some r){J:AHeap}:ACalls Tryz.prog G 187 [.agg [.int .i64 p0.Op,.int .i64 p0.Dst,.int .i64 p0.A,.int .i64 p0.B,.int .i64 p0.N],.fsl (eL rI p1)] J (fun v J'=>∃M n0:Nat,J.next<=M/\J.next<=n0/\n0<M/\v=.sl n0 0 r.length/\J'=hp J.objs [(n0,some ⟨3,1,eL rI r⟩)] M):=by
 refine fr2 [] (by simp) (fun hlt=>?_) ⟨_,func187,rfl,rfl⟩
 generalize J.next=N0 at hlt ⊢
 refine fnK tok func187 ntmps187 results187 ?_
 simp only[argsA,Nat.reduceAdd,hpN]
 unfold uY at H
 refine S0 tok [0] [1,2] ?_
 obtain⟨l1,hl1,H⟩:=bE H
 have q0:∀J i,bsA T 23 true i 0 [] J=some (.esl,J):=fun _ _=>rfl
 refine Sz tok [0] [2,5] q0 (appe23 hl1) ?_
 obtain⟨r2,hr2,H⟩:=bE H
 refine qD [2,5,6] (c194 hr2) ?_
 refine Wsq [2,5,6] fun K1 hK1=>?_
 refine qA [2,5,6,14] ?_
 refine Ci H ?_ ?_<;>intro H
 .refine qA [4] ?_
  obtain rfl:=oi H
  refine Kp [4] ?_
  exact V2 j0 (N0+13) (N0+4)
 refine Js hK1 ?_
 refine Wsq [2,5,6] fun K2 hK2=>?_
 refine qA [2,5,6,7] ?_
 refine Wb ?_
 obtain⟨e1,hse1,H⟩:=bE H
 refine zS [2,5,6,7] (fun s a J=>∃M1 o1:Nat,N0<=M1/\N0<=o1/\o1<M1/\a=[(2,.fptr [.int .i64 p0.Op,.int .i64 p0.Dst,.int .i64 p0.A,.int .i64 p0.B,.int .i64 p0.N] 0),(5,.sl o1 0 s.2.length),(6,.int .i64 r2),(7,.int .i64 s.1)]/\J=hp E0 [(o1,some ⟨3,1,eL rI s.2⟩)] M1) (fun s x a J=>x=.exit 0/\Rc G 43 N0 (fun a J=>∃M2 o2:Nat,N0<=M2/\N0<=o2/\o2<M2/\a=[(2,.fptr [.int .i64 p0.Op,.int .i64 p0.Dst,.int .i64 p0.A,.int .i64 p0.B,.int .i64 p0.N] 0),(5,.sl o2 0 s.length),(6,.int .i64 r2)]/\J=hp E0 [(o2,some ⟨3,1,eL rI s⟩)] M2) (AAct.keep a [2,5,6]) J) hse1 ?_ ?_ ?_
 .refine kp [2,5,6,7] ?_
  exact R2 (N0+12) (N0+4)
 .clear H hse1
  rintro⟨s3,s4⟩ fl a J H ⟨M1,o1,fM1_0,fM1_1,fM1_2,rfl,rfl⟩ K3 O3 hK3 hO3
  unfold hJ at H;dsimp only at H
  refine Wsq [2,5,6,7] fun K4 hK4=>?_
  refine qA [2,5,6,7,17] ?_
  refine Ci H ?_ ?_<;>intro H
  .refine Js hK4 ?_
   refine Wsq [2,5,6,7] fun K5 hK5=>?_
   refine Wb ?_
   obtain⟨v6,hv6,H⟩:=bE H
   refine qC [2,5,6,7,25] (ixo23 hv6) ((zG hv6).2.2) ?_
   refine Ci H ?_ ?_<;>intro H
   .obtain⟨l7,hl7,H⟩:=bE H
    refine Rt tok [] [2,5,6,7] (by intro K k;simp -dsimp -implicitDefEqProofs [ixo23 hv6,(zG hv6).2.2,(setx_iff.1 hl7).2.symm];exact k) fun a ha=>?_
    (try rw[<- zE hl7] at ha);(try rw[<- zE hl7])
    refine hK5 _ _ ?_;rw[ha]
    refine Rc.mk ?_
    obtain rfl:=oi H
    refine qI hK3 ?_
    exact R2 (M1+16) o1
   refine Js hK5 ?_
   obtain rfl:=oi H
   refine qI hK3 ?_
   exact R2 (M1+11) o1
  obtain rfl:=oi H
  refine zH (hO3 _ _ _ _ rfl ⟨rfl,?_⟩)
  refine kr ?_
  exact R2 (M1+2) o1
 intro x a J hx
 obtain⟨y5,rfl⟩:∃x,x=e1:=⟨_,rfl⟩
 obtain⟨rfl,b,U,hr,M2,o2,fM2_0,fM2_1,fM2_2,rfl,rfl⟩:=hx
 (try dsimp only at H)
 show K2 _ _
 refine hK2 _ _ (zI hr ?_)
 refine Rc.mk ?_
 obtain⟨v8,hv8,H⟩:=bE H
 obtain⟨l9,hl9,H⟩:=bE H
 refine qB [2,5,6] (j (ixo23 hv8) (j ((zG hv8).2.2) ((setx_iff.1 hl9).2.symm))) ?_
 try rw[<- zE hl9]
 refine Wsq [5] fun K6 hK6=>?_
 refine qA [2,5,6,36] ?_
 refine Ci H ?_ ?_<;>intro H
 .obtain⟨v10,hv10,H⟩:=bE H
  obtain⟨l11,hl11,H⟩:=bE H
  refine Rt tok [] [5] (by intro K k;simp -dsimp -implicitDefEqProofs [ixo23 hv10,(zG hv10).2.2,(setx_iff.1 hl11).2.symm];exact k) fun a ha=>?_
  (try rw[<- zE hl11] at ha);(try rw[<- zE hl11])
  refine hK6 _ _ ?_;rw[ha]
  refine Rc.mk ?_
  refine qA [4] ?_
  obtain rfl:=oi H
  refine Kp [4] ?_
  exact V2 j0 (M2+16) o2
 refine Js hK6 ?_
 refine qA [4] ?_
 obtain rfl:=oi H
 refine Kp [4] ?_
 exact V2 j0 (M2+10) o2

theorem c187_o_b {p0:gQuad}{p1:List Int}{r:List Int}(H:uY p0 p1=some r){J:AHeap}{args:List AV}(hy:args.map (thawA (fun _=>true) J 8)=[.agg [.int .i64 p0.Op,.int .i64 p0.Dst,.int .i64 p0.A,.int .i64 p0.B,.int .i64 p0.N],.fsl (eL rI p1)]):ACalls Tryz.prog G 187 args J (fun v J'=>∃M n0:Nat,J.next<=M/\J.next<=n0/\n0<M/\v=.sl n0 0 r.length/\J'=hp J.objs [(n0,some ⟨3,1,eL rI r⟩)] M):=by
 refine borrowQ 8 8 (c187_o (J:=⟨E0,J.next⟩) H) hy ?_
 rintro _ _ ⟨M,n0,h0,h1,h2,rfl,rfl⟩
 refine⟨_,M,rfl,by simp[AV.rnf,AV.simp1],fun p hp ob ho=>?_,by simp,M,n0,h0,h1,h2,rfl,rfl⟩
 simp only[List.mem_cons,List.not_mem_nil,or_false] at hp
 rcases hp with rfl<;>(cases ho;first|exact encL_nf (fun x=>nf_rI 7 x) _|simp[AV.nf,AV.simp1])

theorem c176 {p0:List gQuad}{p1:(List (List Int))}{r:Bool×(List (List Int))}(H:nE p0 p1=some r){J:AHeap}{w1:Nat}(q1:J.objs w1=some ⟨23,1,eL zX p1⟩):ACalls Tryz.prog G 176 [.fsl (eL rQuad p0),.sl w1 0 p1.length] J (fun v J'=>∃M:Nat,J.next<=M/\r.2.length=p1.length/\v=.bool r.1/\J'=hp J.objs [(w1,some ⟨23,1,eL zX r.2⟩)] M):=by
 refine uC (L:=[(w1,some ⟨23,1,eL zX p1⟩)]) (Q1:=fun v J'=>∃M:Nat,J.next<=M/\r.2.length=p1.length/\v=.bool r.1/\J'=hp E0 [(w1,some ⟨23,1,eL zX r.2⟩)] M) (by simp[q1]) (fun hlt=>?_) ?_ ⟨_,func176,rfl,rfl⟩
 rotate_left
 .rintro v J1 ⟨M,h0,h1,rfl,rfl⟩
  exact⟨_,M,rfl,by simp,by simp;try omega,M,h0,h1,rfl,rfl⟩
 generalize J.next=N0 at hlt ⊢
 have lw1:w1<N0:=hlt _ (.head _) rfl
 refine fnK tok func176 ntmps176 results176 ?_
 simp only[argsA,Nat.reduceAdd,hpN]
 unfold nE at H
 refine qA [0,1] ?_
 refine qA [0,1,5] ?_
 refine Wsq [5] fun K1 hK1=>?_
 refine qA [0,1,5,6] ?_
 refine Wb ?_
 obtain⟨e2,hse2,H⟩:=bE H
 refine zS [0,1,5,6] (fun s a J=>∃M1:Nat,N0<=M1/\s.2.2.length=p1.length/\a=[(0,.fsl (eL rQuad p0)),(1,.sl w1 0 s.2.2.length),(5,.bool s.1),(6,.int .i64 s.2.1)]/\J=hp E0 [(w1,some ⟨23,1,eL zX s.2.2⟩)] M1) (fun s x a J=>x=.exit 0/\Rc G 48 N0 (fun a J=>∃M2:Nat,N0<=M2/\s.2.length=p1.length/\a=[(5,.bool s.1)]/\J=hp E0 [(w1,some ⟨23,1,eL zX s.2⟩)] M2) (AAct.keep a [5]) J) hse2 ?_ ?_ ?_
 .refine kp [0,1,5,6] ?_
  exact Rf ⟨N0+3,(by omega),(by first|rfl|exact rfl|omega),rfl,rfl⟩
 .clear H hse2
  rintro⟨s1,s2,s3⟩ fl a J H ⟨M1,fM1_0,fM1_1,rfl,rfl⟩ K2 O2 hK2 hO2
  unfold oQ at H;dsimp only at H
  refine Wsq [0,1,5,6] fun K3 hK3=>?_
  refine qA [0,1,5,6,13] ?_
  refine Ci H ?_ ?_<;>intro H
  .refine Js hK3 ?_
   refine Wsq [0,1,5,6] fun K4 hK4=>?_
   refine Wb ?_
   refine Wsq [0,1,5,6] fun K5 hK5=>?_
   obtain⟨v6,hv6,H⟩:=bE H
   refine gU Wre w1 s2.toNat 0 ?_ (hr:=by exact pC zX hv6)
   have e0:=nQ w1 (M1+4)
   refine qB [0,1,5,6,21] (j e0 (j (gSt hv6) (j (ixo50 hv6) ((zG hv6).2.2)))) ?_
   refine Ci H ?_ ?_<;>intro H
   .refine zH ?_
    show K4 _ _
    refine kE [0,1,5,6] fun a' ha=>?_
    refine hK4 _ _ ?_;rw[ha]
    refine Rc.mk ?_
    have e0:=nQ w1 (M1+4)
    refine Rt tok [] [0,1,5,6] (by intro K k;simp -dsimp -implicitDefEqProofs [e0,(gset hv6 _)];exact k) fun a ha=>?_
    obtain⟨l7,hl7,H⟩:=bE H
    obtain rfl:=oi H
    refine hK2 _ _ _ rfl ?_;rw[ha]
    refine gP zI w1 s2.toNat 0 ?_ (hr:=by exact gset hv6 _)
    rw[show hp E0 [(w1,some ⟨23,1,(eL zX s3).set s2.toNat [.osl 3 1 (eL rI v6)]⟩)] (M1+14)=hp E0 [(w1,some ⟨23,1,eL zX l7⟩)] (M1+14) from by(try rw[zE hl7]);rw[(setx_iff.1 hl7).2,<- zZ];rfl];(try rw[<- zE hl7])
    exact Rf ⟨M1+14,(by omega),(by first|rfl|exact((zE hl7).trans fM1_1)|omega),rfl,rfl⟩
   refine Js hK5 ?_
   refine gP Wre w1 s2.toNat 0 ?_ (hr:=by exact gset hv6 _)
   obtain⟨l8,hl8,H⟩:=bE H
   rw[show hp E0 [(w1,some ⟨23,1,(eL zX s3).set s2.toNat [.osl 3 1 (eL rI v6)]⟩)] (M1+11)=hp E0 [(w1,some ⟨23,1,eL zX l8⟩)] (M1+11) from by(try rw[zE hl8]);rw[(setx_iff.1 hl8).2,<- zZ];rfl];(try rw[<- zE hl8])
   obtain⟨r9,hr9,H⟩:=bE H
   refine qD [0,1,5,6,7] (c178 hr9) ?_
   obtain⟨v11,hv11,H⟩:=bE H
   refine gU Wre w1 s2.toNat 0 ?_ (hr:=by exact pC zX hv11)
   obtain⟨v12,hv12,H⟩:=bE H
   obtain⟨r13,hr13,H⟩:=bE H
   refine fH tok tokM [] [6,7,8] [0,1,2,3,4,5,6,7,8,9] [0,1,5,6,7,8] (fun a J=>∃M3 o1:Nat,M1+26<=M3/\M1+26<=o1/\o1<M3/\a=[(0,.fsl (eL rQuad p0)),(1,.sl w1 0 l8.length),(5,.bool s1),(6,.int .i64 s2),(7,.fsl (eL rI r9)),(8,.sl o1 0 r13.length)]/\J=hp E0 [(w1,some ⟨23,1,(eL zX l8).set s2.toNat [.sl (M1+15) 0 v11.length]⟩),(M1+15,some ⟨3,1,eL rI v11⟩),(o1,some ⟨3,1,eL rI r13⟩)] M3) (by decide) (fun K hK=>?_) ?_
   .simp only[pickL,zN,zO]
    have e0:=nQ w1 (M1+15)
    refine m1 (j e0 (j (gSt hv11) (j (ix34 hv12) (j (ixo50 hv11) ((zG hv11).2.2))))) ?_
    refine(c187_o_b (H:=hr13) (by simp[e0,(gset hv11 _),ix34 hv12,ixo50 hv11,(zG hv11).2.2])).mono ?_;rintro _ _ ⟨M3,o1,fM3_0,fM3_1,fM3_2,rfl,rfl⟩;simp only[hpN] at fM3_0 fM3_1 fM3_2
    have eM3_0:=nQ o1 w1
    have eM3_1:=nQ o1 (M1+15)
    refine m1 (j e0 (j (gSt hv11) (j (ix34 hv12) (j (ixo50 hv11) (j ((zG hv11).2.2) (j eM3_0 (j eM3_1 (j @hoS @hoN)))))))) ?_
    exact hK _ _ ⟨M3,o1,(by omega),(by omega),(by omega),rfl,rfl⟩
   rintro a J ⟨M3,o1,fM3_0,fM3_1,fM3_2,rfl,rfl⟩
   have e0:=nQ w1 (M1+15)
   have e1:=nQ w1 o1
   have e2:=nQ (M1+15) o1
   refine qB [0,1,5,6,7,8,9] (j e0 (j e1 (j e2 (gSt hv11)))) ?_
   refine Wb ?_
   obtain⟨l14,hl14,H⟩:=bE H
   obtain⟨e1,hse1,H⟩:=bE H
   refine zS [0,1,5,6,7,8,9] (fun s a J=>∃M4:Nat,N0<=M4/\s.2.2.length=p1.length/\a=[(0,.fsl (eL rQuad p0)),(1,.sl w1 0 s.2.2.length),(5,.bool s.1),(6,.int .i64 s2),(7,.fsl (eL rI r9)),(8,.fsl (eL rI r13)),(9,.int .i64 s.2.1)]/\J=hp E0 [(w1,some ⟨23,1,eL zX s.2.2⟩)] M4) (fun s x a J=>x=.exit 2/\Rc G 48 N0 (fun a J=>∃M5:Nat,N0<=M5/\s.2.length=p1.length/\a=[(0,.fsl (eL rQuad p0)),(1,.sl w1 0 s.2.length),(5,.bool s.1),(6,.int .i64 s2)]/\J=hp E0 [(w1,some ⟨23,1,eL zX s.2⟩)] M5) (AAct.keep a [0,1,5,6]) J) hse1 ?_ ?_ ?_
   .refine kp [0,1,5,6,7,8,9] ?_
    refine gP zI w1 s2.toNat 0 ?_ (hr:=by exact gset hv11 _)
    rw[show hp E0 [(w1,some ⟨23,1,(eL zX l8).set s2.toNat [.osl 3 1 (eL rI v11)]⟩),(o1,some ⟨3,1,eL rI r13⟩)] (M3+1)=hp E0 [(w1,some ⟨23,1,eL zX l14⟩),(o1,some ⟨3,1,eL rI r13⟩)] (M3+1) from by(try rw[zE hl14]);rw[(setx_iff.1 hl14).2,<- zZ];rfl];(try rw[<- zE hl14])
    have z1:=nQ w1 o1
    refine gFrz zI 4 [o1] [(w1,some ⟨23,1,eL zX l14⟩)] [(0,.fsl (eL rQuad p0)),(1,.sl w1 0 l14.length),(5,.bool s1),(6,.int .i64 s2),(7,.fsl (eL rI r9)),(8,.fsl (eL rI r13)),(9,.int .i64 0)] (by simp[z1]) (cutD (by simp[z1])) ?_
    exact Rf ⟨M3+1,(by omega),(by first|rfl|exact((zE hl14).trans ((zE hl8).trans fM1_1))|omega),rfl,rfl⟩
   .clear H hse1
    rintro⟨s15,s16,s17⟩ fl a J H ⟨M4,fM4_0,fM4_1,rfl,rfl⟩ K6 O6 hK6 hO6
    unfold oP at H;dsimp only at H
    refine Wsq [0,1,5,6,7,8,9] fun K7 hK7=>?_
    refine qA [0,1,5,6,7,8,9,37] ?_
    refine Ci H ?_ ?_<;>intro H
    .refine Js hK7 ?_
     refine Wsq [0,1,5,6,7,8,9] fun K8 hK8=>?_
     refine Wb ?_
     obtain⟨v20,hv20,H⟩:=bE H
     obtain⟨r21,hr21,H⟩:=bE H
     refine jJ tok [] [0,1,5,6,7,8,9,46] (fun a J=>∃M6:Nat,M4+11<=M6/\r21.2.length=s17.length/\a=[(0,.fsl (eL rQuad p0)),(1,.sl w1 0 s17.length),(5,.bool s15),(6,.int .i64 s2),(7,.fsl (eL rI r9)),(8,.fsl (eL rI r13)),(9,.int .i64 s16),(46,.bool r21.1)]/\J=hp E0 [(w1,some ⟨23,1,eL zX r21.2⟩)] M6) (fun K hK=>?_) ?_
     .skip
      refine m1 (ix23 hv20) ?_
      refine(c188 (H:=hr21) (by simp[ix23 hv20])).mono ?_;rintro _ _ ⟨M6,fM6_0,fM6_1,rfl,rfl⟩;simp only[hpN] at fM6_0
      refine m1 (j (ix23 hv20) (j @hoS @hoN)) ?_
      exact hK _ _ ⟨M6,(by omega),fM6_1,rfl,rfl⟩
     rintro a J ⟨M6,fM6_0,fM6_1,rfl,rfl⟩
     try rw[<- fM6_1]
     refine Ci H ?_ ?_<;>intro H
     .refine qG hK8 ?_
      obtain rfl:=oi H
      refine qI hK6 ?_
      exact Rf ⟨M6+4,(by omega),(by first|rfl|exact((fM6_1).trans fM4_1)|omega),rfl,rfl⟩
     refine Js hK8 ?_
     obtain rfl:=oi H
     refine qI hK6 ?_
     exact Rf ⟨M6+3,(by omega),(by first|rfl|exact((fM6_1).trans fM4_1)|omega),rfl,rfl⟩
    cases oj H
    refine zH (hO6 _ _ _ _ rfl ⟨rfl,?_⟩)
    refine kr ?_
    exact Rf ⟨M4+4,(by omega),(by first|rfl|exact fM4_1|omega),rfl,rfl⟩
   intro x a J hx
   obtain⟨y18,y19⟩:=e1
   obtain⟨rfl,b,U,hr,M5,fM5_0,fM5_1,rfl,rfl⟩:=hx
   (try dsimp only at H)
   show K4 _ _
   refine hK4 _ _ (zI hr ?_)
   refine Rc.mk ?_
   obtain rfl:=oi H
   refine qI hK2 ?_
   exact Rf ⟨M5+3,(by omega),(by first|rfl|exact fM5_1|omega),rfl,rfl⟩
  cases oj H
  refine zH (hO2 _ _ _ _ rfl ⟨rfl,?_⟩)
  refine kr ?_
  exact Rf ⟨M1+4,(by omega),(by first|rfl|exact fM1_1|omega),rfl,rfl⟩
 intro x a J hx
 obtain⟨y4,y5⟩:=e2
 obtain⟨rfl,b,U,hr,M2,fM2_0,fM2_1,rfl,rfl⟩:=hx
 (try dsimp only at H)
 show K1 _ _
 refine hK1 _ _ (zI hr ?_)
 refine Rc.mk ?_
 refine qA [4] ?_
 obtain rfl:=oi H
 refine Kp [4] ?_
 refine Wr ?_
 refine⟨[.bool y4],by simp,M2+2,by omega,by first|rfl|exact fM2_1|omega,?_,?_⟩
 .simp[eN]
 first|rfl|simp

theorem c175_o {r:List Int}(H:sW=some r){J:AHeap}:ACalls Tryz.prog G 175 [] J (fun v J'=>∃M n0:Nat,J.next<=M/\J.next<=n0/\n0<M/\v=.sl n0 0 r.length/\J'=hp J.objs [(n0,some ⟨3,1,eL rI r⟩)] M):=by
 refine fr2 [] (by simp) (fun hlt=>?_) ⟨_,func175,rfl,rfl⟩
 generalize J.next=N0 at hlt ⊢
 refine fnK tok func175 ntmps175 results175 ?_
 simp only[argsA,Nat.reduceAdd,hpN]
 unfold sW at H
 refine qA [] ?_
 have q0:∀J i,bsA T 23 true i 0 [] J=some (.esl,J):=fun _ _=>rfl
 refine Sy tok [0] [1] q0 ?_
 refine Wsq [1] fun K1 hK1=>?_
 refine qA [1,2] ?_
 refine Wb ?_
 obtain⟨e1,hse1,H⟩:=bE H
 refine zS [1,2] (fun s a J=>∃M1 o1:Nat,N0<=M1/\N0<=o1/\o1<M1/\a=[(1,.sl o1 0 s.2.length),(2,.int .i64 s.1)]/\J=hp E0 [(o1,some ⟨3,1,eL rI s.2⟩)] M1) (fun s x a J=>x=.exit 0/\Rc G 13 N0 (fun a J=>∃M2 o2:Nat,N0<=M2/\N0<=o2/\o2<M2/\a=[(1,.sl o2 0 s.length)]/\J=hp E0 [(o2,some ⟨3,1,eL rI s⟩)] M2) (AAct.keep a [1]) J) hse1 ?_ ?_ ?_
 .refine kp [1,2] ?_
  refine gNilS zI 1 3 1 [(N0+4,some ⟨3,1,eL rI ([]:List Int)⟩)] [(1,.sl (N0+4) 0 ([]:List Int).length),(2,.int .i64 0)] (by simp(disch:=omega)) (by simp(disch:=omega) [eN]) [1,2] rfl ?_
  exact R2 (N0+5) (N0+4)
 .clear H hse1
  rintro⟨s1,s2⟩ fl a J H ⟨M1,o1,fM1_0,fM1_1,fM1_2,rfl,rfl⟩ K2 O2 hK2 hO2
  unfold dA at H;dsimp only at H
  refine Wsq [1,2] fun K3 hK3=>?_
  refine qA [1,2,5] ?_
  refine Ci H ?_ ?_<;>intro H
  .refine Js hK3 ?_
   refine Wsq [1,2] fun K4 hK4=>?_
   refine Wb ?_
   obtain⟨l4,hl4,H⟩:=bE H
   have q1:∀J i,bsA T 23 true i 1 [(0,.int .i64 s1)] J=some (.fsl (eL rI ([s1]:List Int)),J):=fun _ _=>rfl
   have e0:=nQ o1 (M1+5)
   refine Rb tok [2] (j e0 (j q1 (app23 hl4))) hK4 ?_
   obtain rfl:=oi H
   refine qI hK2 ?_
   exact R2 (M1+10) (M1+5)
  cases oj H
  refine zH (hO2 _ _ _ _ rfl ⟨rfl,?_⟩)
  refine kr ?_
  exact R2 (M1+2) o1
 intro x a J hx
 obtain⟨y3,rfl⟩:∃x,x=e1:=⟨_,rfl⟩
 obtain⟨rfl,b,U,hr,M2,o2,fM2_0,fM2_1,fM2_2,rfl,rfl⟩:=hx
 (try dsimp only at H)
 show K1 _ _
 refine hK1 _ _ (zI hr ?_)
 refine Rc.mk ?_
 refine qA [0] ?_
 obtain rfl:=oi H
 refine Kp [0] ?_
 exact V2 j0 (M2+2) o2

theorem c155 {p0:List gQuad}{r:(List (List Int))}(H:nV p0=some r):APure Tryz.prog G 155 [.fsl (eL rQuad p0)] (.fsl (eL rL_I r)):=by
 refine qK func155 ntmps155 results155 fun N0=>?_
 unfold nV at H
 refine qA [0] ?_
 have q0:∀J i,bsA T 50 true i 0 [] J=some (.esl,J):=fun _ _=>rfl
 refine Sy tok [0] [0,3] q0 ?_
 refine Wsq [0,3] fun K1 hK1=>?_
 obtain⟨r1,hr1,H⟩:=bE H
 refine qD [0,3,9] (c108 hr1) ?_
 refine Ci H ?_ ?_<;>intro H
 .refine qA [2] ?_
  cases oj H;exact W4
 refine Js hK1 ?_
 refine Wsq [0,3] fun K2 hK2=>?_
 refine qA [0,3,4] ?_
 refine Wb ?_
 obtain⟨e1,hse1,H⟩:=bE H
 refine zS [0,3,4] (fun s a J=>∃M1 o1:Nat,N0<=M1/\N0<=o1/\o1<M1/\a=[(0,.fsl (eL rQuad p0)),(3,.sl o1 0 s.2.length),(4,.int .i64 s.1)]/\J=hp E0 [(o1,some ⟨23,1,eL zX s.2⟩)] M1) (fun s x a J=>x=.exit 0/\Rc G 44 N0 (fun a J=>∃M2 o2:Nat,N0<=M2/\N0<=o2/\o2<M2/\a=[(0,.fsl (eL rQuad p0)),(3,.sl o2 0 s.length)]/\J=hp E0 [(o2,some ⟨23,1,eL zX s⟩)] M2) (AAct.keep a [0,3]) J) hse1 ?_ ?_ ?_
 .refine kp [0,3,4] ?_
  refine gNilS zI 3 23 1 [(N0+7,some ⟨23,1,eL zX ([]:List (List Int))⟩)] [(0,.fsl (eL rQuad p0)),(3,.sl (N0+7) 0 ([]:List (List Int)).length),(4,.int .i64 0)] (by simp(disch:=omega)) (by simp(disch:=omega) [eN]) [0,3,4] rfl ?_
  exact R2 (N0+8) (N0+7)
 .clear H hse1
  rintro⟨s2,s3⟩ fl a J H ⟨M1,o1,fM1_0,fM1_1,fM1_2,rfl,rfl⟩ K3 O3 hK3 hO3
  unfold vH at H;dsimp only at H
  refine Wsq [0,3,4] fun K4 hK4=>?_
  refine qA [0,3,4,14] ?_
  refine Ci H ?_ ?_<;>intro H
  .refine Js hK4 ?_
   refine Wsq [0,3,4] fun K5 hK5=>?_
   refine Wb ?_
   obtain⟨l5,hl5,H⟩:=bE H
   have q1:∀J i,bsA T 23 true i 0 [] J=some (.esl,J):=fun _ _=>rfl
   have q2:∀  J i,bsA T 50 true i 1 [(0,.esl)] J=some (.fsl [[.esl]],J):=fun  _ _=>rfl
   have e0:=nQ o1 (M1+7)
   refine Rb tok [1,2] (j e0 (j q1 (j q2 (apr50 zX hl5)))) hK5 ?_
   refine gPk0 Wre (o:=(M1+7)) (ob:=⟨23,1,eL zX s3++[[.esl]]⟩) (row:=[.esl]) (r:=s3.length) (i:=0) 3 1 [(M1+7,some ⟨23,1,eL zX s3++[[.osl 3 1 (eL rI ([]:List Int))]]⟩)] (by simp(disch:=omega)) (app_get _ _ _) rfl (by simp(disch:=omega)) (by simp(disch:=omega) [eN,fE]) ?_
   rw[show hp E0 [(M1+7,some ⟨23,1,eL zX s3++[[.osl 3 1 (eL rI ([]:List Int))]]⟩)] (M1+9)=hp E0 [(M1+7,some ⟨23,1,eL zX l5⟩)] (M1+9) from by rw[<- app_enc (f:=zX) (c:=[.osl 3 1 (eL rI ([]:List Int))]) hl5 rfl]]
   obtain rfl:=oi H
   refine qI hK3 ?_
   exact R2 (M1+12) (M1+7)
  cases oj H
  refine zH (hO3 _ _ _ _ rfl ⟨rfl,?_⟩)
  refine kr ?_
  exact R2 (M1+4) o1
 intro x a J hx
 obtain⟨y4,rfl⟩:∃x,x=e1:=⟨_,rfl⟩
 obtain⟨rfl,b,U,hr,M2,o2,fM2_0,fM2_1,fM2_2,rfl,rfl⟩:=hx
 (try dsimp only at H)
 show K2 _ _
 refine hK2 _ _ (zI hr ?_)
 refine Rc.mk ?_
 obtain⟨r6,hr6,H⟩:=bE H
 obtain⟨v7,hv7,H⟩:=bE H
 refine jJ tok [] [0,3] (fun a J=>∃M3 o3:Nat,M2+4<=M3/\M2+4<=o3/\o3<M3/\a=[(0,.fsl (eL rQuad p0)),(3,.sl o2 0 y4.length)]/\J=hp E0 [(o2,some ⟨23,1,(eL zX y4).set 0 [.sl o3 0 r6.length]⟩),(o3,some ⟨3,1,eL rI r6⟩)] M3) (fun K hK=>?_) ?_
 .skip
  refine m2 (ixo50 hv7) (show _[0]? =some v7 from(zG hv7).2.2) ?_
  refine mo (c175_o (H:=hr6)) fun M3 o3 fM3_0 fM3_1 fM3_2=>?_
  have eM3_0:=nQ o3 o2
  refine m1 (j (ixo50 hv7) (j (show _[0]? =some v7 from(zG hv7).2.2) (j eM3_0 (j @hoS @hoN)))) ?_
  exact hK _ _ ⟨M3,o3,(by omega),(by omega),(by omega),rfl,rfl⟩
 rintro a J ⟨M3,o3,fM3_0,fM3_1,fM3_2,rfl,rfl⟩
 refine Wsq [0,3] fun K6 hK6=>?_
 refine Wb ?_
 obtain⟨l8,hl8,H⟩:=bE H
 obtain⟨e2,hse2,H⟩:=bE H
 refine zS [0,3] (fun s a J=>∃M4 o4:Nat,N0<=M4/\N0<=o4/\o4<M4/\a=[(0,.fsl (eL rQuad p0)),(3,.sl o4 0 s.length)]/\J=hp E0 [(o4,some ⟨23,1,eL zX s⟩)] M4) (fun s x a J=>x=.exit 2/\Rc G 44 N0 (fun a J=>∃M5 o5:Nat,N0<=M5/\N0<=o5/\o5<M5/\a=[(0,.fsl (eL rQuad p0)),(3,.sl o5 0 s.length)]/\J=hp E0 [(o5,some ⟨23,1,eL zX s⟩)] M5) (AAct.keep a [0,3]) J) hse2 ?_ ?_ ?_
 .refine kp [0,3] ?_
  refine gP zI o2 0 0 ?_ (hr:=by exact gset hv7 _)
  rw[show hp E0 [(o2,some ⟨23,1,(eL zX y4).set 0 [.osl 3 1 (eL rI r6)]⟩)] M3=hp E0 [(o2,some ⟨23,1,eL zX l8⟩)] M3 from by(try rw[zE hl8]);rw[(setx_iff.1 hl8).2,<- zZ];rfl];(try rw[<- zE hl8])
  exact R2 M3 o2
 .clear H hse2
  rintro s9 fl a J H ⟨M4,o4,fM4_0,fM4_1,fM4_2,rfl,rfl⟩ K7 O7 hK7 hO7
  unfold mB at H;dsimp only at H
  refine Wsq [0,3] fun K8 hK8=>?_
  obtain⟨r11,hr11,H⟩:=bE H
  refine jJ tok [] [0,3,26] (fun a J=>∃M6:Nat,M4+3<=M6/\r11.2.length=s9.length/\a=[(0,.fsl (eL rQuad p0)),(3,.sl o4 0 s9.length),(26,.bool r11.1)]/\J=hp E0 [(o4,some ⟨23,1,eL zX r11.2⟩)] M6) (fun K hK=>?_) ?_
  .skip
   refine m0 ?_
   refine(c176 (H:=hr11) (by simp)).mono ?_;rintro _ _ ⟨M6,fM6_0,fM6_1,rfl,rfl⟩;simp only[hpN] at fM6_0
   refine m2 @hoS @hoN ?_
   exact hK _ _ ⟨M6,(by omega),fM6_1,rfl,rfl⟩
  rintro a J ⟨M6,fM6_0,fM6_1,rfl,rfl⟩
  try rw[<- fM6_1]
  refine Ci H ?_ ?_<;>intro H
  .refine Js hK8 ?_
   refine Wb ?_
   refine Wsk ?_
   show K7 _ _
   refine kE [0,3] fun a' ha=>?_
   cases oj H
   refine hK7 _ _ _ rfl ?_;rw[ha]
   exact R2 M6 o4
  obtain rfl:=oi H
  refine zH (hO7 _ _ _ _ rfl ⟨rfl,?_⟩)
  refine kr ?_
  exact R2 M6 o4
 intro x a J hx
 obtain⟨y10,rfl⟩:∃x,x=e2:=⟨_,rfl⟩
 obtain⟨rfl,b,U,hr,M5,o5,fM5_0,fM5_1,fM5_2,rfl,rfl⟩:=hx
 (try dsimp only at H)
 show K6 _ _
 refine hK6 _ _ (zI hr ?_)
 refine Rc.mk ?_
 refine Wsq [3] fun K9 hK9=>?_
 refine qA [0,3,5] ?_
 refine Wb ?_
 obtain⟨e3,hse3,H⟩:=bE H
 refine zS [0,3,5] (fun s a J=>∃M7 o6:Nat,N0<=M7/\N0<=o6/\o6<M7/\a=[(0,.fsl (eL rQuad p0)),(3,.sl o6 0 s.2.length),(5,.int .i64 s.1)]/\J=hp E0 [(o6,some ⟨23,1,eL zX s.2⟩)] M7) (fun s x a J=>x=.exit 4/\Rc G 44 N0 (fun a J=>∃M8 o7:Nat,N0<=M8/\N0<=o7/\o7<M8/\a=[(3,.sl o7 0 s.length)]/\J=hp E0 [(o7,some ⟨23,1,eL zX s⟩)] M8) (AAct.keep a [3]) J) hse3 ?_ ?_ ?_
 .refine kp [0,3,5] ?_
  exact R2 (M5+1) o5
 .clear H hse3
  rintro⟨s12,s13⟩ fl a J H ⟨M7,o6,fM7_0,fM7_1,fM7_2,rfl,rfl⟩ K10 O10 hK10 hO10
  unfold mA at H;dsimp only at H
  refine Wsq [0,3,5] fun K11 hK11=>?_
  refine qA [0,3,5,30] ?_
  refine Ci H ?_ ?_<;>intro H
  .refine Js hK11 ?_
   refine Wsq [0,3,5] fun K12 hK12=>?_
   refine Wb ?_
   obtain⟨v15,hv15,H⟩:=bE H
   refine gU Wre o6 s12.toNat 0 ?_ (hr:=by exact pC zX hv15)
   have e0:=nQ o6 (M7+4)
   refine qB [0,3,5,38] (j e0 (j (gSt hv15) (j (ixo50 hv15) ((zG hv15).2.2)))) ?_
   refine Ci H ?_ ?_<;>intro H
   .refine gP Wre o6 s12.toNat 0 ?_ (hr:=by exact gset hv15 _)
    obtain⟨l16,hl16,H⟩:=bE H
    rw[show hp E0 [(o6,some ⟨23,1,(eL zX s13).set s12.toNat [.osl 3 1 (eL rI v15)]⟩)] (M7+11)=hp E0 [(o6,some ⟨23,1,eL zX l16⟩)] (M7+11) from by(try rw[zE hl16]);rw[(setx_iff.1 hl16).2,<- zZ];rfl];(try rw[<- zE hl16])
    obtain⟨r17,hr17,H⟩:=bE H
    obtain⟨v18,hv18,H⟩:=bE H
    refine AWP_rt tok [] [0,3,5] (fun a J=>∃M9 o8:Nat,M7+16<=M9/\M7+16<=o8/\o8<M9/\a=[(0,.fsl (eL rQuad p0)),(3,.sl o6 0 l16.length),(5,.int .i64 s12)]/\J=hp E0 [(o6,some ⟨23,1,(eL zX l16).set s12.toNat [.sl o8 0 r17.length]⟩),(o8,some ⟨3,1,eL rI r17⟩)] M9) (fun K hK=>?_) ?_
    .skip
     refine m2 (ixo50 hv18) ((zG hv18).2.2) ?_
     refine mo (c175_o (H:=hr17)) fun M9 o8 fM9_0 fM9_1 fM9_2=>?_
     have eM9_0:=nQ o8 o6
     refine m1 (j (ixo50 hv18) (j ((zG hv18).2.2) (j eM9_0 (j @hoS @hoN)))) ?_
     exact hK _ _ ⟨M9,o8,(by omega),(by omega),(by omega),rfl,rfl⟩
    rintro a J ⟨M9,o8,fM9_0,fM9_1,fM9_2,ha,rfl⟩
    refine hK12 _ _ ?_;rw[ha]
    refine Rc.mk ?_
    have e0:=nQ o6 o8
    refine Rt tok [] [0,3,5] (by intro K k;simp -dsimp -implicitDefEqProofs [e0,(gset hv18 _)];exact k) fun a ha=>?_
    obtain⟨l19,hl19,H⟩:=bE H
    obtain rfl:=oi H
    refine hK10 _ _ _ rfl ?_;rw[ha]
    refine gP zI o6 s12.toNat 0 ?_ (hr:=by exact gset hv18 _)
    rw[show hp E0 [(o6,some ⟨23,1,(eL zX l16).set s12.toNat [.osl 3 1 (eL rI r17)]⟩)] (M9+3)=hp E0 [(o6,some ⟨23,1,eL zX l19⟩)] (M9+3) from by(try rw[zE hl19]);rw[(setx_iff.1 hl19).2,<- zZ];rfl];(try rw[<- zE hl19])
    exact R2 (M9+3) o6
   refine Js hK12 ?_
   have e0:=nQ o6 (M7+4)
   refine Rt tok [] [0,3,5] (by intro K k;simp -dsimp -implicitDefEqProofs [e0,(gset hv15 _)];exact k) fun a ha=>?_
   obtain⟨l20,hl20,H⟩:=bE H
   obtain rfl:=oi H
   refine hK10 _ _ _ rfl ?_;rw[ha]
   refine gP zI o6 s12.toNat 0 ?_ (hr:=by exact gset hv15 _)
   rw[show hp E0 [(o6,some ⟨23,1,(eL zX s13).set s12.toNat [.osl 3 1 (eL rI v15)]⟩)] (M7+14)=hp E0 [(o6,some ⟨23,1,eL zX l20⟩)] (M7+14) from by(try rw[zE hl20]);rw[(setx_iff.1 hl20).2,<- zZ];rfl];(try rw[<- zE hl20])
   exact R2 (M7+14) o6
  cases oj H
  refine zH (hO10 _ _ _ _ rfl ⟨rfl,?_⟩)
  refine kr ?_
  exact R2 (M7+4) o6
 intro x a J hx
 obtain⟨y14,rfl⟩:∃x,x=e3:=⟨_,rfl⟩
 obtain⟨rfl,b,U,hr,M8,o7,fM8_0,fM8_1,fM8_2,rfl,rfl⟩:=hx
 (try dsimp only at H)
 show K9 _ _
 refine hK9 _ _ (zI hr ?_)
 refine Rc.mk ?_
 refine qA [2] ?_
 cases oj H;exact W4

theorem c156 {p0:gQuad}{p1:List Int}{r:gQuad}(H:cD p0 p1=some r):APure Tryz.prog G 156 [.agg [.int .i64 p0.Op,.int .i64 p0.Dst,.int .i64 p0.A,.int .i64 p0.B,.int .i64 p0.N],.fsl (eL rI p1)] (.agg [.int .i64 r.Op,.int .i64 r.Dst,.int .i64 r.A,.int .i64 r.B,.int .i64 r.N]):=by
 refine qK func156 ntmps156 results156 fun N0=>?_
 unfold cD at H
 refine qA [1,2,4] ?_
 refine Wsq [2,4] fun K1 hK1=>?_
 refine qA [1,2,4,6] ?_
 refine Wb ?_
 obtain⟨j1,hj1,H⟩:=bE H
 refine kS (kM fun K2 hK2=>?_)
 have hJ1:∀a J,Rc G 33 N0 (fun a J=>∃M1:Nat,N0<=M1/\N0<M1/\N0+1<M1/\a=[(1,.fsl (eL rI p1)),(2,.ptr N0 0 0),(4,.ptr (N0+1) 0 0),(6,.int .i64 p0.Op),(7,.bool j1)]/\J=hp E0 [(N0,some ⟨68,5,[[.int .i64 p0.Op,.int .i64 p0.Dst,.int .i64 p0.A,.int .i64 p0.B,.int .i64 p0.N]]⟩),(N0+1,some ⟨68,5,[[.int .i64 0,.int .i64 0,.int .i64 0,.int .i64 0,.int .i64 0]]⟩)] M1) (a.keep [1,2,4,6,7]) J->K2 a J:=by
  rintro a J ⟨b,U,hr,M1,fM1_0,fM1_1,fM1_2,rfl,rfl⟩
  refine hK2 _ _ (kG [1,2,4,6,7] (Wre hr ?_))
  refine Ci H ?_ ?_<;>intro H
  .obtain⟨v2,hv2,H⟩:=bE H
   refine qH (ix23 hv2) hK1 ?_
   refine qA [4] ?_
   obtain rfl:=oi H
   refine Kp [4] ?_
   exact V0
  refine qA [1,2,4,18] ?_
  refine Ci H ?_ ?_<;>intro H
  .obtain⟨v3,hv3,H⟩:=bE H
   refine qB [1,2,4] (ix23 hv3) ?_
   obtain⟨v4,hv4,H⟩:=bE H
   refine qH (ix23 hv4) hK1 ?_
   refine qA [4] ?_
   obtain rfl:=oi H
   refine Kp [4] ?_
   exact V0
  refine Js hK1 ?_
  refine qA [4] ?_
  cases oj H
  refine Kp [4] ?_
  exact V0
 replace H:=hj1
 refine qA [1,2,4,6,7] ?_
 refine Ci H ?_ ?_<;>intro H
 .refine Wsk ?_
  show K2 _ _
  refine kE [1,2,4,6,7] fun a' ha=>?_
  cases oj H
  refine hJ1 _ _ ?_;rw[ha]
  exact R1 (N0+6)
 refine qA [1,2,4,6,7] ?_
 refine Ci H ?_ ?_<;>intro H
 .refine Wsk ?_
  show K2 _ _
  refine kE [1,2,4,6,7] fun a' ha=>?_
  cases oj H
  refine hJ1 _ _ ?_;rw[ha]
  exact R1 (N0+8)
 refine qA [1,2,4,6,7] ?_
 refine Ci H ?_ ?_<;>intro H
 .refine Wsk ?_
  show K2 _ _
  refine kE [1,2,4,6,7] fun a' ha=>?_
  cases oj H
  refine hJ1 _ _ ?_;rw[ha]
  exact R1 (N0+10)
 refine Rt0 tok [] [1,2,4,6,7] fun a ha=>?_
 cases oj H
 refine hJ1 _ _ ?_;rw[ha]
 exact R1 (N0+12)

theorem c137 {p0:List gQuad}{r:(List gQuad)×Bool}(H:nU p0=some r):APure Tryz.prog G 137 [.fsl (eL rQuad p0)] (.tup [.fsl (eL rQuad r.1),.bool r.2]):=by
 refine qK func137 ntmps137 results137 fun N0=>?_
 unfold nU at H
 refine qA [0] ?_
 have q0:∀J i,bsA T 34 true i 0 [] J=some (.esl,J):=fun _ _=>rfl
 refine Sy tok [0] [0,4] q0 ?_
 refine Wsq [0,4] fun K1 hK1=>?_
 obtain⟨r1,hr1,H⟩:=bE H
 refine qD [0,4,10] (c108 hr1) ?_
 refine Ci H ?_ ?_<;>intro H
 .refine qA [2,3] ?_
  cases oj H;exact W4
 refine Js hK1 ?_
 obtain⟨r2,hr2,H⟩:=bE H
 refine qD [0,4,5] (c155 hr2) ?_
 refine Wsq [4] fun K2 hK2=>?_
 refine qA [0,4,5,6] ?_
 refine Wb ?_
 obtain⟨e1,hse1,H⟩:=bE H
 refine zS [0,4,5,6] (fun s a J=>∃M1 o1:Nat,N0<=M1/\N0<=o1/\o1<M1/\a=[(0,.fsl (eL rQuad p0)),(4,.sl o1 0 s.2.length),(5,.fsl (eL rL_I r2)),(6,.int .i64 s.1)]/\J=hp E0 [(o1,some ⟨68,5,eL rQuad s.2⟩)] M1) (fun s x a J=>x=.exit 0/\Rc G 33 N0 (fun a J=>∃M2 o2:Nat,N0<=M2/\N0<=o2/\o2<M2/\a=[(4,.sl o2 0 s.length)]/\J=hp E0 [(o2,some ⟨68,5,eL rQuad s⟩)] M2) (AAct.keep a [4]) J) hse1 ?_ ?_ ?_
 .refine kp [0,4,5,6] ?_
  refine gNilS zI 4 68 5 [(N0+11,some ⟨68,5,eL rQuad ([]:List gQuad)⟩)] [(0,.fsl (eL rQuad p0)),(4,.sl (N0+11) 0 ([]:List gQuad).length),(5,.fsl (eL rL_I r2)),(6,.int .i64 0)] (by simp(disch:=omega)) (by simp(disch:=omega) [eN]) [0,4,5,6] rfl ?_
  exact R2 (N0+12) (N0+11)
 .clear H hse1
  rintro⟨s3,s4⟩ fl a J H ⟨M1,o1,fM1_0,fM1_1,fM1_2,rfl,rfl⟩ K3 O3 hK3 hO3
  unfold sC at H;dsimp only at H
  refine Wsq [0,4,5,6] fun K4 hK4=>?_
  refine qA [0,4,5,6,17] ?_
  refine Ci H ?_ ?_<;>intro H
  .refine Js hK4 ?_
   refine Wsq [0,4,5,6] fun K5 hK5=>?_
   refine Wb ?_
   obtain⟨v6,hv6,H⟩:=bE H
   obtain⟨v7,hv7,H⟩:=bE H
   obtain⟨r8,hr8,H⟩:=bE H
   obtain⟨l9,hl9,H⟩:=bE H
   have q1:∀J i,bsA T 34 true i 1 [(0,.agg [.int .i64 r8.Op,.int .i64 r8.Dst,.int .i64 r8.A,.int .i64 r8.B,.int .i64 r8.N])] J=some (.fsl (eL rQuad ([r8]:List gQuad)),J):=fun _ _=>rfl
   refine dF tok tokM [10] [11] [0,1,2,3,4,5,6,7,8,9,10,11,12] [0,4,5,6] (fun a J=>a=[(0,.fsl (eL rQuad p0)),(4,.sl (M1+15) 0 l9.length),(5,.fsl (eL rL_I r2)),(6,.int .i64 s3)]/\J=hp E0 [(M1+15,some ⟨68,5,eL rQuad l9⟩)] (M1+17)) (by decide) (fun K hK=>?_) ?_
   .simp only[pickL,zN,zO]
    have e0:=nQ o1 (M1+15)
    refine m1 (j e0 (j (ix34 hv6) (j (ix50 hv7) (j q1 (app34 hl9))))) ?_
    refine Pc.mk (c156 hr8) (m1 (j e0 (j (ix34 hv6) (j (ix50 hv7) (j q1 (app34 hl9))))) ?_)
    exact hK _ _ ⟨rfl,rfl⟩
   rintro a J ⟨ha,rfl⟩
   refine hK5 _ _ ?_;rw[ha]
   refine Rc.mk ?_
   obtain rfl:=oi H
   refine qI hK3 ?_
   exact R2 (M1+20) (M1+15)
  cases oj H
  refine zH (hO3 _ _ _ _ rfl ⟨rfl,?_⟩)
  refine kr ?_
  exact R2 (M1+4) o1
 intro x a J hx
 obtain⟨y5,rfl⟩:∃x,x=e1:=⟨_,rfl⟩
 obtain⟨rfl,b,U,hr,M2,o2,fM2_0,fM2_1,fM2_2,rfl,rfl⟩:=hx
 (try dsimp only at H)
 show K2 _ _
 refine hK2 _ _ (zI hr ?_)
 refine Rc.mk ?_
 refine qA [2,3] ?_
 cases oj H;exact W4

theorem c157 {p0:List gQuad}{p1:Int}{r:Int}(H:sV p0 p1=some r):APure Tryz.prog G 157 [.fsl (eL rQuad p0),.int .i64 p1] (.int .i64 r):=by
 refine qK func157 ntmps157 results157 fun N0=>?_
 unfold sV at H
 refine qA [0,1] ?_
 refine qA [0,1,5] ?_
 refine Wsq [1] fun K1 hK1=>?_
 refine qA [0,1,5,6] ?_
 refine Wb ?_
 obtain⟨e1,hse1,H⟩:=bE H
 refine zS [0,1,5,6] (fun s a J=>∃M1:Nat,N0<=M1/\a=[(0,.fsl (eL rQuad p0)),(1,.int .i64 p1),(5,.int .i64 s.1),(6,.int .i64 s.2)]/\J=hp E0 [] M1) (fun e x a J=>match e with|.inl s=>x=.exit 0/\Rc G 27 N0 (fun a J=>∃M2:Nat,N0<=M2/\a=[(1,.int .i64 p1)]/\J=hp E0 [] M2) (AAct.keep a [1]) J|.inr s=>x=.ret/\∃vs,resA T J a [.tmp 4]=some vs/\∃d,thawA (fun _=>true) J d (tupA vs)=.int .i64 s) hse1 ?_ ?_ ?_
 .refine kp [0,1,5,6] ?_
  exact R1 (N0+4)
 .clear H hse1
  rintro⟨s1,s2⟩ fl a J H ⟨M1,fM1_0,rfl,rfl⟩ K2 O2 hK2 hO2
  unfold pR at H;dsimp only at H
  refine Wsq [0,1,5,6] fun K3 hK3=>?_
  refine qA [0,1,5,6,11] ?_
  refine Ci H ?_ ?_<;>intro H
  .refine Js hK3 ?_
   refine Wsq [0,1,5,6] fun K4 hK4=>?_
   refine Wb ?_
   refine Wsq [0,1,5,6] fun K5 hK5=>?_
   obtain⟨v3,hv3,H⟩:=bE H
   refine qB [0,1,5,6,19] (ix34 hv3) ?_
   refine Ci H ?_ ?_<;>intro H
   .refine qA [4] ?_
    cases oj H
    refine Kp [4] ?_
    refine Wr (hO2 _ _ _ _ rfl ⟨rfl,?_⟩)
    exact⟨[.int .i64 s1],by simp,4,by simp[eN]⟩
   refine Js hK5 ?_
   refine qH (ix34 hv3) hK4 ?_
   obtain rfl:=oi H
   refine qI hK2 ?_
   exact R1 (M1+19)
  cases oj H
  refine zH (hO2 _ _ _ _ rfl ⟨rfl,?_⟩)
  refine kr ?_
  exact R1 (M1+4)
 intro x a J hx
 rcases e1 with⟨⟩|r0
 .obtain⟨rfl,b,U,hr,M2,fM2_0,rfl,rfl⟩:=hx
  (try dsimp only at H)
  show K1 _ _
  refine hK1 _ _ (zI hr ?_)
  refine Rc.mk ?_
  refine qA [4] ?_
  cases oj H;exact W4
 obtain⟨rfl,hx2⟩:=hx
 (try dsimp only at H)
 cases oj H;first|exact hx2|(simp only[List.set_set] at hx2 ⊢;exact hx2)

theorem c138 {p0:List gQuad}{r:(List gQuad)×Bool}(H:nR p0=some r):APure Tryz.prog G 138 [.fsl (eL rQuad p0)] (.tup [.fsl (eL rQuad r.1),.bool r.2]):=by
 refine qK func138 ntmps138 results138 fun N0=>?_
 unfold nR at H
 refine qA [0] ?_
 have q0:∀J i,bsA T 34 true i 0 [] J=some (.esl,J):=fun _ _=>rfl
 refine Sy tok [0] [0,4] q0 ?_
 refine Wsq [0,4] fun K1 hK1=>?_
 obtain⟨r1,hr1,H⟩:=bE H
 refine qD [0,4,10] (c108 hr1) ?_
 refine Ci H ?_ ?_<;>intro H
 .refine qA [2,3] ?_
  cases oj H;exact W4
 refine Js hK1 ?_
 refine Wsq [4] fun K2 hK2=>?_
 refine qA [0,4,5] ?_
 refine Wb ?_
 obtain⟨e2,hse2,H⟩:=bE H
 refine zS [0,4,5] (fun s a J=>∃M1 o1:Nat,N0<=M1/\N0<=o1/\o1<M1/\a=[(0,.fsl (eL rQuad p0)),(4,.sl o1 0 s.2.length),(5,.int .i64 s.1)]/\J=hp E0 [(o1,some ⟨68,5,eL rQuad s.2⟩)] M1) (fun s x a J=>x=.exit 0/\Rc G 40 N0 (fun a J=>∃M2 o2:Nat,N0<=M2/\N0<=o2/\o2<M2/\a=[(4,.sl o2 0 s.length)]/\J=hp E0 [(o2,some ⟨68,5,eL rQuad s⟩)] M2) (AAct.keep a [4]) J) hse2 ?_ ?_ ?_
 .refine kp [0,4,5] ?_
  refine gNilS zI 4 68 5 [(N0+8,some ⟨68,5,eL rQuad ([]:List gQuad)⟩)] [(0,.fsl (eL rQuad p0)),(4,.sl (N0+8) 0 ([]:List gQuad).length),(5,.int .i64 0)] (by simp(disch:=omega)) (by simp(disch:=omega) [eN]) [0,4,5] rfl ?_
  exact R2 (N0+9) (N0+8)
 .clear H hse2
  rintro⟨s2,s3⟩ fl a J H ⟨M1,o1,fM1_0,fM1_1,fM1_2,rfl,rfl⟩ K3 O3 hK3 hO3
  unfold tZ at H;dsimp only at H
  refine Wsq [0,4,5] fun K4 hK4=>?_
  refine qA [0,4,5,15] ?_
  refine Ci H ?_ ?_<;>intro H
  .refine Js hK4 ?_
   refine Wsq [0,4,5] fun K5 hK5=>?_
   refine Wb ?_
   obtain⟨v5,hv5,H⟩:=bE H
   have e0:=nQ o1 (M1+8)
   refine qC [0,4,5,6] e0 (ix34 hv5) ?_
   obtain⟨j1,hj1,H⟩:=bE H
   refine kS (kM fun K6 hK6=>?_)
   have hJ1:∀a J,Rc G 40 N0 (fun a J=>∃M3:Nat,N0<=M3/\o1<M3/\M1+8<M3/\a=[(0,.fsl (eL rQuad p0)),(4,.sl o1 0 s3.length),(5,.int .i64 s2),(6,.ptr (M1+8) 0 0)]/\J=hp E0 [(o1,some ⟨68,5,eL rQuad s3⟩),(M1+8,some ⟨68,5,[[.int .i64 j1.Op,.int .i64 j1.Dst,.int .i64 j1.A,.int .i64 j1.B,.int .i64 j1.N]]⟩)] M3) (a.keep [0,4,5,6]) J->K6 a J:=by
    rintro a J ⟨b,U,hr,M3,fM3_0,fM3_1,fM3_2,rfl,rfl⟩
    refine hK6 _ _ (kG [0,4,5,6] (Wre hr ?_))
    obtain⟨l7,hl7,H⟩:=bE H
    have q1:∀J i,bsA T 34 true i 1 [(0,.agg [.int .i64 j1.Op,.int .i64 j1.Dst,.int .i64 j1.A,.int .i64 j1.B,.int .i64 j1.N])] J=some (.fsl (eL rQuad ([j1]:List gQuad)),J):=fun _ _=>rfl
    have e0:=nQ o1 (M1+8)
    have e1:=nQ o1 (M3+3)
    have e2:=nQ (M1+8) (M3+3)
    have e3:=nQ (M1+5) M3
    refine Rb tok [2] (j e0 (j e1 (j e2 (j e3 (j q1 (app34 hl7)))))) hK5 ?_
    have e0:=nQ (M1+8) (M3+3)
    have e1:=nQ (M1+5) M3
    obtain rfl:=oi H
    refine qJ (j e0 e1) hK3 ?_
    exact Rc.fin (AHeap.Sub.trans (zK (AHeap.Sub.refl _)) (zT rfl (by simp;try omega))) ⟨M3+8,(M3+3),(by omega),(by omega),(by omega),rfl,rfl⟩
   replace H:=hj1
   obtain⟨g8,hg8,H⟩:=bE H
   refine qF tok [0,4,5,6,29] ([(0,.fsl (eL rQuad p0)),(4,.sl o1 0 s3.length),(5,.int .i64 s2),(6,.ptr (M1+8) 0 0),(29,.bool g8)]) (hp E0 [(o1,some ⟨68,5,eL rQuad s3⟩),(M1+8,some ⟨68,5,[[.int .i64 v5.Op,.int .i64 v5.Dst,.int .i64 v5.A,.int .i64 v5.B,.int .i64 v5.N]]⟩)] (M1+18)) (by
    intro K k
    have e0:=nQ o1 (M1+8)
    refine m1 e0 ?_
    cases hbg8:ieq v5.Op 4
    .cases oj (ifF hbg8 hg8)
     exact m2 e0 hbg8 k
    cases oj (ifT hbg8 hg8)
    refine m2 e0 hbg8 ?_
    exact k) ?_
   refine Ci H ?_ ?_<;>intro H
   .obtain⟨r9,hr9,H⟩:=bE H
    have e0:=nQ o1 (M1+8)
    refine Rt tok [] [0,4,5,6] (by intro K k;(repeat first|simp -dsimp -implicitDefEqProofs [e0]|refine(c157 hr9).app ?_);exact k) fun a ha=>?_
    cases oj H
    refine hJ1 _ _ ?_;rw[ha]
    exact R1 (M1+24)
   refine Wsk ?_
   show K6 _ _
   refine kE [0,4,5,6] fun a' ha=>?_
   cases oj H
   refine hJ1 _ _ ?_;rw[ha]
   exact R1 (M1+18)
  cases oj H
  refine zH (hO3 _ _ _ _ rfl ⟨rfl,?_⟩)
  refine kr ?_
  exact R2 (M1+4) o1
 intro x a J hx
 obtain⟨y4,rfl⟩:∃x,x=e2:=⟨_,rfl⟩
 obtain⟨rfl,b,U,hr,M2,o2,fM2_0,fM2_1,fM2_2,rfl,rfl⟩:=hx
 (try dsimp only at H)
 show K2 _ _
 refine hK2 _ _ (zI hr ?_)
 refine Rc.mk ?_
 refine qA [2,3] ?_
 cases oj H;exact W4

theorem c160 {p0:List gQuad}{p1:(List (List Bool))}{p2:Int}{r:List Bool}(H:sJ p0 p1 p2=some r):APure Tryz.prog G 160 [.fsl (eL rQuad p0),.fsl (eL rL_B p1),.int .i64 p2] (.fsl (eL rB r)):=by
 refine qK func160 ntmps160 results160 fun N0=>?_
 unfold sJ at H
 refine qA [0,1,2] ?_
 obtain⟨l1,hl1,H⟩:=bE H
 refine qB [0,1,2,7] (mak38 hl1) ?_
 obtain⟨r2,hr2,H⟩:=bE H
 refine qD [1,7,8] (c178 hr2) ?_
 refine Wsq [7] fun K1 hK1=>?_
 refine qA [1,7,8,9] ?_
 refine Wb ?_
 obtain⟨e2,hse2,H⟩:=bE H
 refine zS [1,7,8,9] (fun s a J=>∃M1 o1:Nat,N0<=M1/\N0<=o1/\o1<M1/\a=[(1,.fsl (eL rL_B p1)),(7,.sl o1 0 s.2.length),(8,.fsl (eL rI r2)),(9,.int .i64 s.1)]/\J=hp E0 [(o1,some ⟨4,1,eL rB s.2⟩)] M1) (fun s x a J=>x=.exit 0/\Rc G 45 N0 (fun a J=>∃M2 o2:Nat,N0<=M2/\N0<=o2/\o2<M2/\a=[(7,.sl o2 0 s.length)]/\J=hp E0 [(o2,some ⟨4,1,eL rB s⟩)] M2) (AAct.keep a [7]) J) hse2 ?_ ?_ ?_
 .refine kp [1,7,8,9] ?_
  exact R2 (N0+8) (N0+1)
 .clear H hse2
  rintro⟨s3,s4⟩ fl a J H ⟨M1,o1,fM1_0,fM1_1,fM1_2,rfl,rfl⟩ K2 O2 hK2 hO2
  unfold wW at H;dsimp only at H
  refine Wsq [1,7,8,9] fun K3 hK3=>?_
  refine qA [1,7,8,9,18] ?_
  refine Ci H ?_ ?_<;>intro H
  .refine Js hK3 ?_
   refine Wsq [1,7,8,9] fun K4 hK4=>?_
   refine Wb ?_
   refine qA [1,7,8,9,10] ?_
   refine Wb ?_
   obtain⟨e1,hse1,H⟩:=bE H
   refine zS [1,7,8,9,10] (fun s a J=>∃M3 o3:Nat,N0<=M3/\N0<=o3/\o3<M3/\a=[(1,.fsl (eL rL_B p1)),(7,.sl o3 0 s.2.length),(8,.fsl (eL rI r2)),(9,.int .i64 s3),(10,.int .i64 s.1)]/\J=hp E0 [(o3,some ⟨4,1,eL rB s.2⟩)] M3) (fun s x a J=>x=.exit 2/\Rc G 45 N0 (fun a J=>∃M4 o4:Nat,N0<=M4/\N0<=o4/\o4<M4/\a=[(1,.fsl (eL rL_B p1)),(7,.sl o4 0 s.length),(8,.fsl (eL rI r2)),(9,.int .i64 s3)]/\J=hp E0 [(o4,some ⟨4,1,eL rB s⟩)] M4) (AAct.keep a [1,7,8,9]) J) hse1 ?_ ?_ ?_
   .refine kp [1,7,8,9,10] ?_
    exact R2 (M1+5) o1
   .clear H hse1
    rintro⟨s6,s7⟩ fl a J H ⟨M3,o3,fM3_0,fM3_1,fM3_2,rfl,rfl⟩ K5 O5 hK5 hO5
    unfold wV at H;dsimp only at H
    refine Wsq [1,7,8,9,10] fun K6 hK6=>?_
    refine qA [1,7,8,9,10,22] ?_
    refine Ci H ?_ ?_<;>intro H
    .refine Js hK6 ?_
     refine Wsq [1,7,8,9,10] fun K7 hK7=>?_
     refine Wb ?_
     obtain⟨v9,hv9,H⟩:=bE H
     obtain⟨g13,hg13,H⟩:=bE H
     obtain⟨l14,hl14,H⟩:=bE H
     refine AWP_rt tok [] [1,7,8,9,10] (fun a J=>a=[(1,.fsl (eL rL_B p1)),(7,.sl o3 0 s7.length),(8,.fsl (eL rI r2)),(9,.int .i64 s3),(10,.int .i64 s6)]/\J=hp E0 [(o3,some ⟨4,1,eL rB l14⟩)] (M3+22)) (fun K hK=>?_) ?_
     .skip
      refine m1 (j (ixo38 hv9) (j ((zG hv9).2.2) ((setx_iff.1 hl14).2.symm))) ?_
      cases hbg13:v9
      .replace hg13:=ifF hbg13 hg13
       obtain⟨v10,hv10,hg13⟩:=bE hg13
       obtain⟨v11,hv11,hg13⟩:=bE hg13
       obtain⟨v12,hv12,hg13⟩:=bE hg13
       cases oj hg13
       refine m1 (j (ixo38 hv9) (j ((zG hv9).2.2) (j ((setx_iff.1 hl14).2.symm) (j hbg13 (j (ix23 hv10) (j (ix39 hv11) (ix38 hv12))))))) ?_
       exact hK _ _ ⟨rfl,rfl⟩
      cases oj (ifT hbg13 hg13)
      refine m1 (j (ixo38 hv9) (j ((zG hv9).2.2) (j ((setx_iff.1 hl14).2.symm) hbg13))) ?_
      exact hK _ _ ⟨rfl,rfl⟩
     rintro a J ⟨ha,rfl⟩
     (try rw[<- zE hl14] at ha);(try rw[<- zE hl14])
     refine hK7 _ _ ?_;rw[ha]
     refine Rc.mk ?_
     obtain rfl:=oi H
     refine qI hK5 ?_
     exact R2 (M3+25) o3
    obtain rfl:=oi H
    refine zH (hO5 _ _ _ _ rfl ⟨rfl,?_⟩)
    refine kr ?_
    exact R2 (M3+2) o3
   intro x a J hx
   obtain⟨y8,rfl⟩:∃x,x=e1:=⟨_,rfl⟩
   obtain⟨rfl,b,U,hr,M4,o4,fM4_0,fM4_1,fM4_2,rfl,rfl⟩:=hx
   (try dsimp only at H)
   show K4 _ _
   refine hK4 _ _ (zI hr ?_)
   refine Rc.mk ?_
   obtain rfl:=oi H
   refine qI hK2 ?_
   exact R2 (M4+3) o4
  cases oj H
  refine zH (hO2 _ _ _ _ rfl ⟨rfl,?_⟩)
  refine kr ?_
  exact R2 (M1+4) o1
 intro x a J hx
 obtain⟨y5,rfl⟩:∃x,x=e2:=⟨_,rfl⟩
 obtain⟨rfl,b,U,hr,M2,o2,fM2_0,fM2_1,fM2_2,rfl,rfl⟩:=hx
 (try dsimp only at H)
 show K1 _ _
 refine hK1 _ _ (zI hr ?_)
 refine Rc.mk ?_
 refine qA [6] ?_
 cases oj H;exact W4

theorem c195 {p0:gQuad}{r:List Int}(H:sK p0=some r):APure Tryz.prog G 195 [.agg [.int .i64 p0.Op,.int .i64 p0.Dst,.int .i64 p0.A,.int .i64 p0.B,.int .i64 p0.N]] (.fsl (eL rI r)):=by
 refine qK func195 ntmps195 results195 fun N0=>?_
 unfold sK at H
 refine S0 tok [0] [1] ?_
 refine Wsq [1] fun K1 hK1=>?_
 obtain⟨r1,hr1,H⟩:=bE H
 refine qD [1,5] (c127 hr1) ?_
 refine Ci H ?_ ?_<;>intro H
 .have q0:∀J i,bsA T 23 true i 0 [] J=some (.esl,J):=fun _ _=>rfl
  refine Sy tok [0] [2] q0 ?_
  cases oj H;exact W4
 refine Js hK1 ?_
 refine Wsq [] fun K2 hK2=>?_
 refine qA [1,8] ?_
 refine Wb ?_
 obtain⟨j1,hj1,H⟩:=bE H
 refine kS (kM fun K4 hK4=>?_)
 have hJ1:∀a J,Rc G 39 N0 (fun a J=>∃M1:Nat,N0<=M1/\a=[(1,.fptr [.int .i64 p0.Op,.int .i64 p0.Dst,.int .i64 p0.A,.int .i64 p0.B,.int .i64 p0.N] 0),(8,.int .i64 p0.Op),(9,.bool j1)]/\J=hp E0 [] M1) (a.keep [1,8,9]) J->K4 a J:=by
  rintro a J ⟨b,U,hr,M1,fM1_0,rfl,rfl⟩
  refine hK4 _ _ (kG [1,8,9] (Wre hr ?_))
  refine Ci H ?_ ?_<;>intro H
  .have q1:∀J i,bsA T 23 true i 1 [(0,.int .i64 p0.A)] J=some (.fsl (eL rI ([p0.A]:List Int)),J):=fun _ _=>rfl
   refine Sy tok [2] [2] q1 ?_
   cases oj H;exact W4
  refine qA [1,17] ?_
  refine Ci H ?_ ?_<;>intro H
  .refine Wsq [1] fun K3 hK3=>?_
   refine qA [1,23] ?_
   refine Ci H ?_ ?_<;>intro H
   .have q2:∀J i,bsA T 23 true i 1 [(0,.int .i64 p0.A)] J=some (.fsl (eL rI ([p0.A]:List Int)),J):=fun _ _=>rfl
    refine Sy tok [2] [2] q2 ?_
    cases oj H;exact W4
   refine Js hK3 ?_
   have q3:∀J i,bsA T 23 true i 2 [(0,.int .i64 (imin p0.A p0.B)),(1,.int .i64 (imax p0.A p0.B))] J=some (.fsl (eL rI ([imin p0.A p0.B,imax p0.A p0.B]:List Int)),J):=fun _ _=>rfl
   refine Sy tok [10] [2] q3 ?_
   cases oj H;exact W4
  refine Js hK2 ?_
  have q4:∀J i,bsA T 23 true i 0 [] J=some (.esl,J):=fun _ _=>rfl
  refine Sy tok [0] [2] q4 ?_
  cases oj H;exact W4
 replace H:=hj1
 refine qA [1,8,9] ?_
 refine Ci H ?_ ?_<;>intro H
 .refine Wsk ?_
  show K4 _ _
  refine kE [1,8,9] fun a' ha=>?_
  cases oj H
  refine hJ1 _ _ ?_;rw[ha]
  exact R1 (N0+9)
 refine qA [1,8,9] ?_
 refine Ci H ?_ ?_<;>intro H
 .refine Wsk ?_
  show K4 _ _
  refine kE [1,8,9] fun a' ha=>?_
  cases oj H
  refine hJ1 _ _ ?_;rw[ha]
  exact R1 (N0+11)
 refine qA [1,8,9] ?_
 refine Ci H ?_ ?_<;>intro H
 .refine Wsk ?_
  show K4 _ _
  refine kE [1,8,9] fun a' ha=>?_
  cases oj H
  refine hJ1 _ _ ?_;rw[ha]
  exact R1 (N0+13)
 refine Rt0 tok [] [1,8,9] fun a ha=>?_
 cases oj H
 refine hJ1 _ _ ?_;rw[ha]
 exact R1 (N0+15)

theorem c190 {p0:List Bool}{p1:List Bool}{r:Bool}(H:hZ p0 p1=some r):APure Tryz.prog G 190 [.fsl (eL rB p0),.fsl (eL rB p1)] (.bool r):=by
 refine qK func190 ntmps190 results190 fun N0=>?_
 unfold hZ at H
 refine qA [0,1] ?_
 refine Wsq [0,1] fun K1 hK1=>?_
 refine qA [0,1,5] ?_
 refine Wb ?_
 obtain⟨e1,hse1,H⟩:=bE H
 refine zS [0,1,5] (fun s a J=>∃M1:Nat,N0<=M1/\a=[(0,.fsl (eL rB p0)),(1,.fsl (eL rB p1)),(5,.int .i64 s)]/\J=hp E0 [] M1) (fun e x a J=>match e with|.inl s=>x=.exit 0/\Rc G 26 N0 (fun a J=>∃M2:Nat,N0<=M2/\a=[(0,.fsl (eL rB p0)),(1,.fsl (eL rB p1))]/\J=hp E0 [] M2) (AAct.keep a [0,1]) J|.inr s=>x=.ret/\∃vs,resA T J a [.tmp 4]=some vs/\∃d,thawA (fun _=>true) J d (tupA vs)=.bool s) hse1 ?_ ?_ ?_
 .refine kp [0,1,5] ?_
  exact R1 (N0+2)
 .clear H hse1
  rintro s1 fl a J H ⟨M1,fM1_0,rfl,rfl⟩ K2 O2 hK2 hO2
  unfold pH at H;dsimp only at H
  refine Wsq [0,1,5] fun K3 hK3=>?_
  refine qA [0,1,5,9] ?_
  refine Ci H ?_ ?_<;>intro H
  .refine Js hK3 ?_
   refine Wsq [0,1,5] fun K4 hK4=>?_
   refine Wb ?_
   obtain⟨v2,hv2,H⟩:=bE H
   obtain⟨v3,hv3,H⟩:=bE H
   refine Sd tok tokM [] [] [0,1,2,3,4,5,6,7,8] [0,1,5,20] (by
    intro K k
    simp only[pickL,zN,zO]
    refine m2 (ix38 hv2) (ix38 hv3) ?_
    exact k) ?_
   refine Ci H ?_ ?_<;>intro H
   .refine qA [4] ?_
    cases oj H
    refine Kp [4] ?_
    refine Wr (hO2 _ _ _ _ rfl ⟨rfl,?_⟩)
    exact⟨[.bool false],by simp,4,by simp[eN]⟩
   refine Js hK4 ?_
   obtain rfl:=oi H
   refine qI hK2 ?_
   exact R1 (M1+16)
  cases oj H
  refine zH (hO2 _ _ _ _ rfl ⟨rfl,?_⟩)
  refine kr ?_
  exact R1 (M1+4)
 intro x a J hx
 rcases e1 with⟨⟩|r0
 .obtain⟨rfl,b,U,hr,M2,fM2_0,rfl,rfl⟩:=hx
  (try dsimp only at H)
  show K1 _ _
  refine hK1 _ _ (zI hr ?_)
  refine Rc.mk ?_
  refine qA [4] ?_
  cases oj H;exact W4
 obtain⟨rfl,hx2⟩:=hx
 (try dsimp only at H)
 cases oj H;first|exact hx2|(simp only[List.set_set] at hx2 ⊢;exact hx2)

theorem c160_o {p0:List gQuad}{p1:(List (List Bool))}{p2:Int}{r:List Bool}(H:tB p0 p1 p2=some r){J:AHeap}:ACalls Tryz.prog G 160 [.fsl (eL rQuad p0),.fsl (eL rL_B p1),.int .i64 p2] J (fun v J'=>∃M n0:Nat,J.next<=M/\J.next<=n0/\n0<M/\v=.sl n0 0 r.length/\J'=hp J.objs [(n0,some ⟨4,1,eL rB r⟩)] M):=by
 refine fr2 [] (by simp) (fun hlt=>?_) ⟨_,func160,rfl,rfl⟩
 generalize J.next=N0 at hlt ⊢
 refine fnK tok func160 ntmps160 results160 ?_
 simp only[argsA,Nat.reduceAdd,hpN]
 unfold tB at H
 refine qA [0,1,2] ?_
 obtain⟨l1,hl1,H⟩:=bE H
 refine qB [0,1,2,7] (mak38 hl1) ?_
 obtain⟨r2,hr2,H⟩:=bE H
 refine qD [1,7,8] (c178 hr2) ?_
 refine Wsq [7] fun K1 hK1=>?_
 refine qA [1,7,8,9] ?_
 refine Wb ?_
 obtain⟨e2,hse2,H⟩:=bE H
 refine zS [1,7,8,9] (fun s a J=>∃M1 o1:Nat,N0<=M1/\N0<=o1/\o1<M1/\a=[(1,.fsl (eL rL_B p1)),(7,.sl o1 0 s.2.length),(8,.fsl (eL rI r2)),(9,.int .i64 s.1)]/\J=hp E0 [(o1,some ⟨4,1,eL rB s.2⟩)] M1) (fun s x a J=>x=.exit 0/\Rc G 45 N0 (fun a J=>∃M2 o2:Nat,N0<=M2/\N0<=o2/\o2<M2/\a=[(7,.sl o2 0 s.length)]/\J=hp E0 [(o2,some ⟨4,1,eL rB s⟩)] M2) (AAct.keep a [7]) J) hse2 ?_ ?_ ?_
 .refine kp [1,7,8,9] ?_
  exact R2 (N0+8) (N0+1)
 .clear H hse2
  rintro⟨s3,s4⟩ fl a J H ⟨M1,o1,fM1_0,fM1_1,fM1_2,rfl,rfl⟩ K2 O2 hK2 hO2
  unfold gB at H;dsimp only at H
  refine Wsq [1,7,8,9] fun K3 hK3=>?_
  refine qA [1,7,8,9,18] ?_
  refine Ci H ?_ ?_<;>intro H
  .refine Js hK3 ?_
   refine Wsq [1,7,8,9] fun K4 hK4=>?_
   refine Wb ?_
   refine qA [1,7,8,9,10] ?_
   refine Wb ?_
   obtain⟨e1,hse1,H⟩:=bE H
   refine zS [1,7,8,9,10] (fun s a J=>∃M3 o3:Nat,N0<=M3/\N0<=o3/\o3<M3/\a=[(1,.fsl (eL rL_B p1)),(7,.sl o3 0 s.2.length),(8,.fsl (eL rI r2)),(9,.int .i64 s3),(10,.int .i64 s.1)]/\J=hp E0 [(o3,some ⟨4,1,eL rB s.2⟩)] M3) (fun s x a J=>x=.exit 2/\Rc G 45 N0 (fun a J=>∃M4 o4:Nat,N0<=M4/\N0<=o4/\o4<M4/\a=[(1,.fsl (eL rL_B p1)),(7,.sl o4 0 s.length),(8,.fsl (eL rI r2)),(9,.int .i64 s3)]/\J=hp E0 [(o4,some ⟨4,1,eL rB s⟩)] M4) (AAct.keep a [1,7,8,9]) J) hse1 ?_ ?_ ?_
   .refine kp [1,7,8,9,10] ?_
    exact R2 (M1+5) o1
   .clear H hse1
    rintro⟨s6,s7⟩ fl a J H ⟨M3,o3,fM3_0,fM3_1,fM3_2,rfl,rfl⟩ K5 O5 hK5 hO5
    unfold gA at H;dsimp only at H
    refine Wsq [1,7,8,9,10] fun K6 hK6=>?_
    refine qA [1,7,8,9,10,22] ?_
    refine Ci H ?_ ?_<;>intro H
    .refine Js hK6 ?_
     refine Wsq [1,7,8,9,10] fun K7 hK7=>?_
     refine Wb ?_
     obtain⟨v9,hv9,H⟩:=bE H
     obtain⟨g13,hg13,H⟩:=bE H
     obtain⟨l14,hl14,H⟩:=bE H
     refine AWP_rt tok [] [1,7,8,9,10] (fun a J=>a=[(1,.fsl (eL rL_B p1)),(7,.sl o3 0 s7.length),(8,.fsl (eL rI r2)),(9,.int .i64 s3),(10,.int .i64 s6)]/\J=hp E0 [(o3,some ⟨4,1,eL rB l14⟩)] (M3+22)) (fun K hK=>?_) ?_
     .skip
      refine m1 (j (ixo38 hv9) (j ((zG hv9).2.2) ((setx_iff.1 hl14).2.symm))) ?_
      cases hbg13:v9
      .replace hg13:=ifF hbg13 hg13
       obtain⟨v10,hv10,hg13⟩:=bE hg13
       obtain⟨v11,hv11,hg13⟩:=bE hg13
       obtain⟨v12,hv12,hg13⟩:=bE hg13
       cases oj hg13
       refine m1 (j (ixo38 hv9) (j ((zG hv9).2.2) (j ((setx_iff.1 hl14).2.symm) (j hbg13 (j (ix23 hv10) (j (ix39 hv11) (ix38 hv12))))))) ?_
       exact hK _ _ ⟨rfl,rfl⟩
      cases oj (ifT hbg13 hg13)
      refine m1 (j (ixo38 hv9) (j ((zG hv9).2.2) (j ((setx_iff.1 hl14).2.symm) hbg13))) ?_
      exact hK _ _ ⟨rfl,rfl⟩
     rintro a J ⟨ha,rfl⟩
     (try rw[<- zE hl14] at ha);(try rw[<- zE hl14])
     refine hK7 _ _ ?_;rw[ha]
     refine Rc.mk ?_
     obtain rfl:=oi H
     refine qI hK5 ?_
     exact R2 (M3+25) o3
    obtain rfl:=oi H
    refine zH (hO5 _ _ _ _ rfl ⟨rfl,?_⟩)
    refine kr ?_
    exact R2 (M3+2) o3
   intro x a J hx
   obtain⟨y8,rfl⟩:∃x,x=e1:=⟨_,rfl⟩
   obtain⟨rfl,b,U,hr,M4,o4,fM4_0,fM4_1,fM4_2,rfl,rfl⟩:=hx
   (try dsimp only at H)
   show K4 _ _
   refine hK4 _ _ (zI hr ?_)
   refine Rc.mk ?_
   obtain rfl:=oi H
   refine qI hK2 ?_
   exact R2 (M4+3) o4
  cases oj H
  refine zH (hO2 _ _ _ _ rfl ⟨rfl,?_⟩)
  refine kr ?_
  exact R2 (M1+4) o1
 intro x a J hx
 obtain⟨y5,rfl⟩:∃x,x=e2:=⟨_,rfl⟩
 obtain⟨rfl,b,U,hr,M2,o2,fM2_0,fM2_1,fM2_2,rfl,rfl⟩:=hx
 (try dsimp only at H)
 show K1 _ _
 refine hK1 _ _ (zI hr ?_)
 refine Rc.mk ?_
 refine qA [6] ?_
 obtain rfl:=oi H
 refine Kp [6] ?_
 exact V2 j0 (M2+2) o2

theorem c160_o_b {p0:List gQuad}{p1:(List (List Bool))}{p2:Int}{r:List Bool}(H:tB p0 p1 p2=some r){J:AHeap}{args:List AV}(hy:args.map (thawA (fun _=>true) J 8)=[.fsl (eL rQuad p0),.fsl (eL rL_B p1),.int .i64 p2]):ACalls Tryz.prog G 160 args J (fun v J'=>∃M n0:Nat,J.next<=M/\J.next<=n0/\n0<M/\v=.sl n0 0 r.length/\J'=hp J.objs [(n0,some ⟨4,1,eL rB r⟩)] M):=by
 refine borrowQ 8 8 (c160_o (J:=⟨E0,J.next⟩) H) hy ?_
 rintro _ _ ⟨M,n0,h0,h1,h2,rfl,rfl⟩
 refine⟨_,M,rfl,by simp[AV.rnf,AV.simp1],fun p hp ob ho=>?_,by simp,M,n0,h0,h1,h2,rfl,rfl⟩
 simp only[List.mem_cons,List.not_mem_nil,or_false] at hp
 rcases hp with rfl<;>(cases ho;first|exact encL_nf (fun x=>nf_rB 7 x) _|simp[AV.nf,AV.simp1])

theorem c189_o {p0:gQuad}{p1:List Bool}{r:List Bool}(H:wU p0 p1=some r){J:AHeap}:ACalls Tryz.prog G 189 [.agg [.int .i64 p0.Op,.int .i64 p0.Dst,.int .i64 p0.A,.int .i64 p0.B,.int .i64 p0.N],.fsl (eL rB p1)] J (fun v J'=>∃M n0:Nat,J.next<=M/\J.next<=n0/\n0<M/\v=.sl n0 0 r.length/\J'=hp J.objs [(n0,some ⟨4,1,eL rB r⟩)] M):=by
 refine fr2 [] (by simp) (fun hlt=>?_) ⟨_,func189,rfl,rfl⟩
 generalize J.next=N0 at hlt ⊢
 refine fnK tok func189 ntmps189 results189 ?_
 simp only[argsA,Nat.reduceAdd,hpN]
 unfold wU at H
 refine S0 tok [0] [1,2] ?_
 obtain⟨l1,hl1,H⟩:=bE H
 have q0:∀J i,bsA T 38 true i 0 [] J=some (.esl,J):=fun _ _=>rfl
 refine Sz tok [0] [2,5] q0 (appe38 hl1) ?_
 obtain⟨j1,hj1,H⟩:=bE H
 refine kS (kM fun K5 hK5=>?_)
 have hJ1:∀a J,Rc G 33 N0 (fun a J=>∃M1:Nat,N0<=M1/\N0+4<M1/\a=[(2,.fptr [.int .i64 p0.Op,.int .i64 p0.Dst,.int .i64 p0.A,.int .i64 p0.B,.int .i64 p0.N] 0),(5,.sl (N0+4) 0 j1.length)]/\J=hp E0 [(N0+4,some ⟨4,1,eL rB j1⟩)] M1) (a.keep [2,5]) J->K5 a J:=by
  rintro a J ⟨b,U,hr,M1,fM1_0,fM1_1,rfl,rfl⟩
  refine hK5 _ _ (kG [2,5] (Wre hr ?_))
  obtain⟨r3,hr3,H⟩:=bE H
  refine qD [5,6] (c195 hr3) ?_
  refine Wsq [5] fun K1 hK1=>?_
  refine qA [5,6,7] ?_
  refine Wb ?_
  obtain⟨e2,hse2,H⟩:=bE H
  refine zS [5,6,7] (fun s a J=>∃M2 o1:Nat,N0<=M2/\N0<=o1/\o1<M2/\a=[(5,.sl o1 0 s.2.length),(6,.fsl (eL rI r3)),(7,.int .i64 s.1)]/\J=hp E0 [(o1,some ⟨4,1,eL rB s.2⟩)] M2) (fun s x a J=>x=.exit 0/\Rc G 33 N0 (fun a J=>∃M3 o2:Nat,N0<=M3/\N0<=o2/\o2<M3/\a=[(5,.sl o2 0 s.length)]/\J=hp E0 [(o2,some ⟨4,1,eL rB s⟩)] M3) (AAct.keep a [5]) J) hse2 ?_ ?_ ?_
  .refine kp [5,6,7] ?_
   exact R2 (M1+4) (N0+4)
  .clear H hse2
   rintro⟨s4,s5⟩ fl a J H ⟨M2,o1,fM2_0,fM2_1,fM2_2,rfl,rfl⟩ K2 O2 hK2 hO2
   unfold mM at H;dsimp only at H
   refine Wsq [5,6,7] fun K3 hK3=>?_
   refine qA [5,6,7,23] ?_
   refine Ci H ?_ ?_<;>intro H
   .refine Js hK3 ?_
    refine Wsq [5,6,7] fun K4 hK4=>?_
    refine Wb ?_
    obtain⟨v7,hv7,H⟩:=bE H
    obtain⟨v8,hv8,H⟩:=bE H
    obtain⟨l9,hl9,H⟩:=bE H
    refine Rt tok [] [5,6,7] (by intro K k;simp -dsimp -implicitDefEqProofs [ix23 hv7,ixo38 hv8,(zG hv8).2.2,(setx_iff.1 hl9).2.symm];exact k) fun a ha=>?_
    (try rw[<- zE hl9] at ha);(try rw[<- zE hl9])
    refine hK4 _ _ ?_;rw[ha]
    refine Rc.mk ?_
    obtain rfl:=oi H
    refine qI hK2 ?_
    exact R2 (M2+14) o1
   cases oj H
   refine zH (hO2 _ _ _ _ rfl ⟨rfl,?_⟩)
   refine kr ?_
   exact R2 (M2+4) o1
  intro x a J hx
  obtain⟨y6,rfl⟩:∃x,x=e2:=⟨_,rfl⟩
  obtain⟨rfl,b,U,hr,M3,o2,fM3_0,fM3_1,fM3_2,rfl,rfl⟩:=hx
  (try dsimp only at H)
  show K1 _ _
  refine hK1 _ _ (zI hr ?_)
  refine Rc.mk ?_
  refine qA [4] ?_
  obtain rfl:=oi H
  refine Kp [4] ?_
  exact V2 j0 (M3+2) o2
 replace H:=hj1
 obtain⟨r10,hr10,H⟩:=bE H
 refine qD [2,5,13] (c194 hr10) ?_
 refine Ci H ?_ ?_<;>intro H
 .obtain⟨v11,hv11,H⟩:=bE H
  obtain⟨l12,hl12,H⟩:=bE H
  refine Rt tok [] [2,5] (by intro K k;(repeat first|simp -dsimp -implicitDefEqProofs [ixo38 hv11,(zG hv11).2.2,(setx_iff.1 hl12).2.symm]|refine(c194 hr10).app ?_);exact k) fun a ha=>?_
  (try rw[<- zE hl12] at ha);(try rw[<- zE hl12])
  cases oj H
  refine hJ1 _ _ ?_;rw[ha]
  exact R1 (N0+14)
 refine Wsk ?_
 show K5 _ _
 refine kE [2,5] fun a' ha=>?_
 cases oj H
 refine hJ1 _ _ ?_;rw[ha]
 exact R1 (N0+9)

theorem c189_o_b {p0:gQuad}{p1:List Bool}{r:List Bool}(H:wU p0 p1=some r){J:AHeap}{args:List AV}(hy:args.map (thawA (fun _=>true) J 8)=[.agg [.int .i64 p0.Op,.int .i64 p0.Dst,.int .i64 p0.A,.int .i64 p0.B,.int .i64 p0.N],.fsl (eL rB p1)]):ACalls Tryz.prog G 189 args J (fun v J'=>∃M n0:Nat,J.next<=M/\J.next<=n0/\n0<M/\v=.sl n0 0 r.length/\J'=hp J.objs [(n0,some ⟨4,1,eL rB r⟩)] M):=by
 refine borrowQ 8 8 (c189_o (J:=⟨E0,J.next⟩) H) hy ?_
 rintro _ _ ⟨M,n0,h0,h1,h2,rfl,rfl⟩
 refine⟨_,M,rfl,by simp[AV.rnf,AV.simp1],fun p hp ob ho=>?_,by simp,M,n0,h0,h1,h2,rfl,rfl⟩
 simp only[List.mem_cons,List.not_mem_nil,or_false] at hp
 rcases hp with rfl<;>(cases ho;first|exact encL_nf (fun x=>nf_rB 7 x) _|simp[AV.nf,AV.simp1])

theorem c177 {p0:List gQuad}{p1:(List (List Bool))}{r:Bool×(List (List Bool))}(H:nI p0 p1=some r){J:AHeap}{w1:Nat}(q1:J.objs w1=some ⟨38,1,eL yU p1⟩):ACalls Tryz.prog G 177 [.fsl (eL rQuad p0),.sl w1 0 p1.length] J (fun v J'=>∃M:Nat,J.next<=M/\r.2.length=p1.length/\v=.bool r.1/\J'=hp J.objs [(w1,some ⟨38,1,eL yU r.2⟩)] M):=by
 refine uC (L:=[(w1,some ⟨38,1,eL yU p1⟩)]) (Q1:=fun v J'=>∃M:Nat,J.next<=M/\r.2.length=p1.length/\v=.bool r.1/\J'=hp E0 [(w1,some ⟨38,1,eL yU r.2⟩)] M) (by simp[q1]) (fun hlt=>?_) ?_ ⟨_,func177,rfl,rfl⟩
 rotate_left
 .rintro v J1 ⟨M,h0,h1,rfl,rfl⟩
  exact⟨_,M,rfl,by simp,by simp;try omega,M,h0,h1,rfl,rfl⟩
 generalize J.next=N0 at hlt ⊢
 have lw1:w1<N0:=hlt _ (.head _) rfl
 refine fnK tok func177 ntmps177 results177 ?_
 simp only[argsA,Nat.reduceAdd,hpN]
 unfold nI at H
 refine qA [0,1] ?_
 refine qA [0,1,5] ?_
 refine Wsq [5] fun K1 hK1=>?_
 refine qA [0,1,5,6] ?_
 refine Wb ?_
 obtain⟨e1,hse1,H⟩:=bE H
 refine zS [0,1,5,6] (fun s a J=>∃M1:Nat,N0<=M1/\s.2.2.length=p1.length/\a=[(0,.fsl (eL rQuad p0)),(1,.sl w1 0 s.2.2.length),(5,.bool s.1),(6,.int .i64 s.2.1)]/\J=hp E0 [(w1,some ⟨38,1,eL yU s.2.2⟩)] M1) (fun s x a J=>x=.exit 0/\Rc G 36 N0 (fun a J=>∃M2:Nat,N0<=M2/\s.2.length=p1.length/\a=[(5,.bool s.1)]/\J=hp E0 [(w1,some ⟨38,1,eL yU s.2⟩)] M2) (AAct.keep a [5]) J) hse1 ?_ ?_ ?_
 .refine kp [0,1,5,6] ?_
  exact Rf ⟨N0+6,(by omega),(by first|rfl|exact rfl|omega),rfl,rfl⟩
 .clear H hse1
  rintro⟨s1,s2,s3⟩ fl a J H ⟨M1,fM1_0,fM1_1,rfl,rfl⟩ K2 O2 hK2 hO2
  unfold oX at H;dsimp only at H
  refine Wsq [0,1,5,6] fun K3 hK3=>?_
  refine qA [0,1,5,6,12] ?_
  refine Ci H ?_ ?_<;>intro H
  .refine Js hK3 ?_
   refine Wsq [0,1,5,6] fun K4 hK4=>?_
   refine Wb ?_
   obtain⟨v6,hv6,H⟩:=bE H
   obtain⟨r7,hr7,H⟩:=bE H
   obtain⟨r8,hr8,H⟩:=bE H
   refine fH tok tokM [] [7,8] [0,1,2,3,4,5,6,7,8,9] [0,1,5,6,7] (fun a J=>∃M3 o1:Nat,∃M4 o2:Nat,M1+12<=M3/\M1+12<=o1/\o1<M3/\M3<=M4/\M3<=o2/\o2<M4/\a=[(0,.fsl (eL rQuad p0)),(1,.sl w1 0 s3.length),(5,.bool s1),(6,.int .i64 s2),(7,.sl o2 0 r8.length)]/\J=hp E0 [(w1,some ⟨38,1,eL yU s3⟩),(o1,some ⟨4,1,eL rB r7⟩),(o2,some ⟨4,1,eL rB r8⟩)] M4) (by decide) (fun K hK=>?_) ?_
   .simp only[pickL,zN,zO]
    refine m1 (ix34 hv6) ?_
    refine(c160_o_b (H:=hr7) (by simp[ix34 hv6])).mono ?_;rintro _ _ ⟨M3,o1,fM3_0,fM3_1,fM3_2,rfl,rfl⟩;simp only[hpN] at fM3_0 fM3_1 fM3_2
    have eM3_0:=nQ o1 w1
    refine m1 (j (ix34 hv6) (j eM3_0 (j @hoS @hoN))) ?_
    refine(c189_o_b (H:=hr8) (by simp[ix34 hv6,eM3_0,hoS,hoN])).mono ?_;rintro _ _ ⟨M4,o2,fM4_0,fM4_1,fM4_2,rfl,rfl⟩;simp only[hpN] at fM4_0 fM4_1 fM4_2
    have eM4_0:=nQ o2 w1
    have eM4_1:=nQ o2 o1
    refine m1 (j (ix34 hv6) (j eM3_0 (j @hoS (j @hoN (j eM4_0 eM4_1))))) ?_
    exact hK _ _ ⟨M3,o1,M4,o2,(by omega),(by omega),(by omega),(by omega),(by omega),(by omega),rfl,rfl⟩
   rintro a J ⟨M3,o1,M4,o2,fM3_0,fM3_1,fM3_2,fM4_0,fM4_1,fM4_2,rfl,rfl⟩
   obtain⟨v9,hv9,H⟩:=bE H
   refine gU Wre w1 s2.toNat 0 ?_ (hr:=by exact pC yU hv9)
   obtain⟨r10,hr10,H⟩:=bE H
   refine jJ tok [] [0,1,5,6,7,30] (fun a J=>a=[(0,.fsl (eL rQuad p0)),(1,.sl w1 0 s3.length),(5,.bool s1),(6,.int .i64 s2),(7,.sl o2 0 r8.length),(30,.bool (bnot r10))]/\J=hp E0 [(w1,some ⟨38,1,(eL yU s3).set s2.toNat [.sl M4 0 v9.length]⟩),(o1,some ⟨4,1,eL rB r7⟩),(o2,some ⟨4,1,eL rB r8⟩),(M4,some ⟨4,1,eL rB v9⟩)] (M4+8)) (fun K hK=>?_) ?_
   .skip
    have e0:=nQ w1 o1
    have e1:=nQ w1 o2
    have e2:=nQ w1 M4
    have e3:=nQ o1 o2
    have e4:=nQ o1 M4
    have e5:=nQ o2 M4
    refine m1 (j e0 (j e1 (j e2 (j e3 (j e4 (j e5 (j (gSt hv9) (j (ixo39 hv9) ((zG hv9).2.2))))))))) ?_
    refine(borrow 8 (c190 hr10) (by simp[e0,e1,e2,e3,e4,e5,(gset hv9 _),ixo39 hv9,(zG hv9).2.2]) rfl).mono ?_;rintro _ _ ⟨rfl,rfl⟩;try simp -dsimp -implicitDefEqProofs [e0,e1,e2,e3,e4,e5,(gset hv9 _),ixo39 hv9,(zG hv9).2.2]
    exact hK _ _ ⟨rfl,rfl⟩
   rintro a J ⟨rfl,rfl⟩
   refine Ci H ?_ ?_<;>intro H
   .have e0:=nQ w1 o1
    have e1:=nQ w1 o2
    have e2:=nQ w1 M4
    have e3:=nQ o1 o2
    have e4:=nQ o1 M4
    have e5:=nQ o2 M4
    refine qB [0,1,6] (j e0 (j e1 (j e2 (j e3 (j e4 (j e5 (j (gSt hv9) (j (ixo39 hv9) ((zG hv9).2.2))))))))) ?_
    have e0:=nQ w1 o1
    have e1:=nQ w1 o2
    have e2:=nQ w1 M4
    have e3:=nQ o1 o2
    have e4:=nQ o1 M4
    have e5:=nQ o2 M4
    refine qH (j e0 (j e1 (j e2 (j e3 (j e4 (j e5 (gSt hv9))))))) hK4 ?_
    have e0:=nQ w1 o1
    have e1:=nQ w1 o2
    have e2:=nQ w1 M4
    have e3:=nQ o1 o2
    have e4:=nQ o1 M4
    have e5:=nQ o2 M4
    refine Rt tok [] [0,1,5,6] (by intro K k;simp -dsimp -implicitDefEqProofs [e0,e1,e2,e3,e4,e5,(gset hv9 _)];exact k) fun a ha=>?_
    obtain⟨l11,hl11,H⟩:=bE H
    obtain rfl:=oi H
    refine hK2 _ _ _ rfl ?_;rw[ha]
    refine gP zI w1 s2.toNat 0 ?_ (hr:=by exact gset hv9 _)
    rw[show hp E0 [(w1,some ⟨38,1,(eL yU s3).set s2.toNat [.osl 4 1 (eL rB r8)]⟩),(o1,some ⟨4,1,eL rB r7⟩),(M4,some ⟨4,1,eL rB v9⟩)] (M4+17)=hp E0 [(w1,some ⟨38,1,eL yU l11⟩),(o1,some ⟨4,1,eL rB r7⟩),(M4,some ⟨4,1,eL rB v9⟩)] (M4+17) from by(try rw[zE hl11]);rw[(setx_iff.1 hl11).2,<- zZ];rfl];(try rw[<- zE hl11])
    exact Rc.fin (zK (AHeap.Sub.trans (AHeap.Sub.trans (AHeap.Sub.refl _) (zT rfl (by simp;try omega))) (zT rfl (by simp;try omega)))) ⟨M4+17,(by omega),(by first|rfl|exact((zE hl11).trans fM1_1)|omega),rfl,rfl⟩
   refine Js hK4 ?_
   have e0:=nQ w1 o1
   have e1:=nQ w1 o2
   have e2:=nQ w1 M4
   have e3:=nQ o1 o2
   have e4:=nQ o1 M4
   have e5:=nQ o2 M4
   refine Rt tok [] [0,1,5,6] (by intro K k;simp -dsimp -implicitDefEqProofs [e0,e1,e2,e3,e4,e5,(gset hv9 _)];exact k) fun a ha=>?_
   obtain⟨l12,hl12,H⟩:=bE H
   obtain rfl:=oi H
   refine hK2 _ _ _ rfl ?_;rw[ha]
   refine gP zI w1 s2.toNat 0 ?_ (hr:=by exact gset hv9 _)
   rw[show hp E0 [(w1,some ⟨38,1,(eL yU s3).set s2.toNat [.osl 4 1 (eL rB v9)]⟩),(o1,some ⟨4,1,eL rB r7⟩),(o2,some ⟨4,1,eL rB r8⟩)] (M4+11)=hp E0 [(w1,some ⟨38,1,eL yU l12⟩),(o1,some ⟨4,1,eL rB r7⟩),(o2,some ⟨4,1,eL rB r8⟩)] (M4+11) from by(try rw[zE hl12]);rw[(setx_iff.1 hl12).2,<- zZ];rfl];(try rw[<- zE hl12])
   exact Rc.fin (zK (AHeap.Sub.trans (AHeap.Sub.trans (AHeap.Sub.refl _) (zT rfl (by simp;try omega))) (zT rfl (by simp;try omega)))) ⟨M4+11,(by omega),(by first|rfl|exact((zE hl12).trans fM1_1)|omega),rfl,rfl⟩
  cases oj H
  refine zH (hO2 _ _ _ _ rfl ⟨rfl,?_⟩)
  refine kr ?_
  exact Rf ⟨M1+2,(by omega),(by first|rfl|exact fM1_1|omega),rfl,rfl⟩
 intro x a J hx
 obtain⟨y4,y5⟩:=e1
 obtain⟨rfl,b,U,hr,M2,fM2_0,fM2_1,rfl,rfl⟩:=hx
 (try dsimp only at H)
 show K1 _ _
 refine hK1 _ _ (zI hr ?_)
 refine Rc.mk ?_
 refine qA [4] ?_
 obtain rfl:=oi H
 refine Kp [4] ?_
 refine Wr ?_
 refine⟨[.bool y4],by simp,M2+2,by omega,by first|rfl|exact fM2_1|omega,?_,?_⟩
 .simp[eN]
 first|rfl|simp

theorem c158 {p0:List gQuad}{r:(List (List Bool))}(H:fQ p0=some r):APure Tryz.prog G 158 [.fsl (eL rQuad p0)] (.fsl (eL rL_B r)):=by
 refine qK func158 ntmps158 results158 fun N0=>?_
 unfold fQ at H
 refine qA [0] ?_
 have q0:∀J i,bsA T 39 true i 0 [] J=some (.esl,J):=fun _ _=>rfl
 refine Sy tok [0] [0,3] q0 ?_
 refine Wsq [0,3] fun K1 hK1=>?_
 obtain⟨r1,hr1,H⟩:=bE H
 refine qD [0,3,8] (c108 hr1) ?_
 refine Ci H ?_ ?_<;>intro H
 .refine qA [2] ?_
  cases oj H;exact W4
 refine Js hK1 ?_
 refine Wsq [0,3] fun K2 hK2=>?_
 refine qA [0,3,4] ?_
 refine Wb ?_
 obtain⟨e1,hse1,H⟩:=bE H
 refine zS [0,3,4] (fun s a J=>∃M1 o1:Nat,N0<=M1/\N0<=o1/\o1<M1/\a=[(0,.fsl (eL rQuad p0)),(3,.sl o1 0 s.2.length),(4,.int .i64 s.1)]/\J=hp E0 [(o1,some ⟨38,1,eL yU s.2⟩)] M1) (fun s x a J=>x=.exit 0/\Rc G 24 N0 (fun a J=>∃M2 o2:Nat,N0<=M2/\N0<=o2/\o2<M2/\a=[(0,.fsl (eL rQuad p0)),(3,.sl o2 0 s.length)]/\J=hp E0 [(o2,some ⟨38,1,eL yU s⟩)] M2) (AAct.keep a [0,3]) J) hse1 ?_ ?_ ?_
 .refine kp [0,3,4] ?_
  refine gNilS zI 3 38 1 [(N0+7,some ⟨38,1,eL yU ([]:List (List Bool))⟩)] [(0,.fsl (eL rQuad p0)),(3,.sl (N0+7) 0 ([]:List (List Bool)).length),(4,.int .i64 0)] (by simp(disch:=omega)) (by simp(disch:=omega) [eN]) [0,3,4] rfl ?_
  exact R2 (N0+8) (N0+7)
 .clear H hse1
  rintro⟨s2,s3⟩ fl a J H ⟨M1,o1,fM1_0,fM1_1,fM1_2,rfl,rfl⟩ K3 O3 hK3 hO3
  unfold qL at H;dsimp only at H
  refine Wsq [0,3,4] fun K4 hK4=>?_
  refine qA [0,3,4,13] ?_
  refine Ci H ?_ ?_<;>intro H
  .refine Js hK4 ?_
   refine Wsq [0,3,4] fun K5 hK5=>?_
   refine Wb ?_
   obtain⟨l5,hl5,H⟩:=bE H
   obtain⟨l6,hl6,H⟩:=bE H
   have q1:∀(a0:Nat) (a1:Nat) J i,bsA T 39 true i 1 [(0,.sl a0 0 a1)] J=some (.fsl [[.sl a0 0 a1]],J):=fun _ _ _ _=>rfl
   have e0:=nQ o1 (M1+5)
   have e1:=nQ o1 (M1+7)
   refine Rb tok [2] (j e0 (j e1 (j (mak38 hl5) (j q1 (apr39 yU hl6))))) hK5 ?_
   refine gP Wre (M1+7) s3.length 0 ?_ (hr:=by exact app_get _ _ _)
   rw[show hp E0 [(M1+7,some ⟨38,1,eL yU s3++[[.osl 4 1 (eL rB l5)]]⟩)] (M1+9)=hp E0 [(M1+7,some ⟨38,1,eL yU l6⟩)] (M1+9) from by rw[<- app_enc (f:=yU) (c:=[.osl 4 1 (eL rB l5)]) hl6 rfl]]
   obtain rfl:=oi H
   refine qI hK3 ?_
   exact R2 (M1+12) (M1+7)
  cases oj H
  refine zH (hO3 _ _ _ _ rfl ⟨rfl,?_⟩)
  refine kr ?_
  exact R2 (M1+4) o1
 intro x a J hx
 obtain⟨y4,rfl⟩:∃x,x=e1:=⟨_,rfl⟩
 obtain⟨rfl,b,U,hr,M2,o2,fM2_0,fM2_1,fM2_2,rfl,rfl⟩:=hx
 (try dsimp only at H)
 show K2 _ _
 refine hK2 _ _ (zI hr ?_)
 refine Rc.mk ?_
 refine Wsq [3] fun K6 hK6=>?_
 refine Wb ?_
 obtain⟨e2,hse2,H⟩:=bE H
 refine zS [0,3] (fun s a J=>∃M3 o3:Nat,N0<=M3/\N0<=o3/\o3<M3/\a=[(0,.fsl (eL rQuad p0)),(3,.sl o3 0 s.length)]/\J=hp E0 [(o3,some ⟨38,1,eL yU s⟩)] M3) (fun s x a J=>x=.exit 2/\Rc G 24 N0 (fun a J=>∃M4 o4:Nat,N0<=M4/\N0<=o4/\o4<M4/\a=[(3,.sl o4 0 s.length)]/\J=hp E0 [(o4,some ⟨38,1,eL yU s⟩)] M4) (AAct.keep a [3]) J) hse2 ?_ ?_ ?_
 .refine kp [0,3] ?_
  exact R2 M2 o2
 .clear H hse2
  rintro s7 fl a J H ⟨M3,o3,fM3_0,fM3_1,fM3_2,rfl,rfl⟩ K7 O7 hK7 hO7
  unfold dL at H;dsimp only at H
  refine Wsq [0,3] fun K8 hK8=>?_
  obtain⟨r9,hr9,H⟩:=bE H
  refine jJ tok [] [0,3,22] (fun a J=>∃M5:Nat,M3+3<=M5/\r9.2.length=s7.length/\a=[(0,.fsl (eL rQuad p0)),(3,.sl o3 0 s7.length),(22,.bool r9.1)]/\J=hp E0 [(o3,some ⟨38,1,eL yU r9.2⟩)] M5) (fun K hK=>?_) ?_
  .skip
   refine m0 ?_
   refine(c177 (H:=hr9) (by simp)).mono ?_;rintro _ _ ⟨M5,fM5_0,fM5_1,rfl,rfl⟩;simp only[hpN] at fM5_0
   refine m2 @hoS @hoN ?_
   exact hK _ _ ⟨M5,(by omega),fM5_1,rfl,rfl⟩
  rintro a J ⟨M5,fM5_0,fM5_1,rfl,rfl⟩
  try rw[<- fM5_1]
  refine Ci H ?_ ?_<;>intro H
  .refine Js hK8 ?_
   refine Wb ?_
   refine Wsk ?_
   show K7 _ _
   refine kE [0,3] fun a' ha=>?_
   cases oj H
   refine hK7 _ _ _ rfl ?_;rw[ha]
   exact R2 M5 o3
  obtain rfl:=oi H
  refine zH (hO7 _ _ _ _ rfl ⟨rfl,?_⟩)
  refine kr ?_
  exact R2 M5 o3
 intro x a J hx
 obtain⟨y8,rfl⟩:∃x,x=e2:=⟨_,rfl⟩
 obtain⟨rfl,b,U,hr,M4,o4,fM4_0,fM4_1,fM4_2,rfl,rfl⟩:=hx
 (try dsimp only at H)
 show K6 _ _
 refine hK6 _ _ (zI hr ?_)
 refine Rc.mk ?_
 refine qA [2] ?_
 cases oj H;exact W4

theorem c159 {p0:gQuad}{p1:List Bool}{r:Bool}(H:hG p0 p1=some r):APure Tryz.prog G 159 [.agg [.int .i64 p0.Op,.int .i64 p0.Dst,.int .i64 p0.A,.int .i64 p0.B,.int .i64 p0.N],.fsl (eL rB p1)] (.bool r):=by
 refine qK func159 ntmps159 results159 fun N0=>?_
 unfold hG at H
 refine S0 tok [0] [1,2] ?_
 refine Wsq [] fun K1 hK1=>?_
 refine qA [1,2,6] ?_
 refine Wb ?_
 obtain⟨j1,hj1,H⟩:=bE H
 refine kS (kM fun K2 hK2=>?_)
 have hJ1:∀a J,Rc G 17 N0 (fun a J=>∃M1:Nat,N0<=M1/\a=[(1,.fsl (eL rB p1)),(2,.fptr [.int .i64 p0.Op,.int .i64 p0.Dst,.int .i64 p0.A,.int .i64 p0.B,.int .i64 p0.N] 0),(7,.bool j1)]/\J=hp E0 [] M1) (a.keep [1,2,7]) J->K2 a J:=by
  rintro a J ⟨b,U,hr,M1,fM1_0,rfl,rfl⟩
  refine hK2 _ _ (kG [1,2,7] (Wre hr ?_))
  refine Ci H ?_ ?_<;>intro H
  .obtain⟨v2,hv2,H⟩:=bE H
   refine qB [4] (ix38 hv2) ?_
   cases oj H;exact W4
  refine Js hK1 ?_
  refine qA [4] ?_
  cases oj H;exact W4
 replace H:=hj1
 refine qA [1,2,6,7] ?_
 refine Ci H ?_ ?_<;>intro H
 .refine Wsk ?_
  show K2 _ _
  refine kE [1,2,7] fun a' ha=>?_
  cases oj H
  refine hJ1 _ _ ?_;rw[ha]
  exact R1 (N0+6)
 refine qA [1,2,6,7] ?_
 refine Ci H ?_ ?_<;>intro H
 .refine Wsk ?_
  show K2 _ _
  refine kE [1,2,7] fun a' ha=>?_
  cases oj H
  refine hJ1 _ _ ?_;rw[ha]
  exact R1 (N0+8)
 refine Rt0 tok [] [1,2,7] fun a ha=>?_
 cases oj H
 refine hJ1 _ _ ?_;rw[ha]
 exact R1 (N0+10)

theorem c139 {p0:List gQuad}{r:(List gQuad)×Bool}(H:nT p0=some r):APure Tryz.prog G 139 [.fsl (eL rQuad p0)] (.tup [.fsl (eL rQuad r.1),.bool r.2]):=by
 refine qK func139 ntmps139 results139 fun N0=>?_
 unfold nT at H
 refine qA [0] ?_
 have q0:∀J i,bsA T 34 true i 0 [] J=some (.esl,J):=fun _ _=>rfl
 refine Sy tok [0] [0,4] q0 ?_
 refine Wsq [0,4] fun K1 hK1=>?_
 obtain⟨r1,hr1,H⟩:=bE H
 refine qD [0,4,11] (c108 hr1) ?_
 refine Ci H ?_ ?_<;>intro H
 .refine qA [2,3] ?_
  cases oj H;exact W4
 refine Js hK1 ?_
 obtain⟨r2,hr2,H⟩:=bE H
 refine qD [0,4,5] (c158 hr2) ?_
 refine Wsq [4] fun K2 hK2=>?_
 refine qA [0,4,5,6] ?_
 refine Wb ?_
 obtain⟨e2,hse2,H⟩:=bE H
 refine zS [0,4,5,6] (fun s a J=>∃M1 o1:Nat,N0<=M1/\N0<=o1/\o1<M1/\a=[(0,.fsl (eL rQuad p0)),(4,.sl o1 0 s.2.length),(5,.fsl (eL rL_B r2)),(6,.int .i64 s.1)]/\J=hp E0 [(o1,some ⟨68,5,eL rQuad s.2⟩)] M1) (fun s x a J=>x=.exit 0/\Rc G 39 N0 (fun a J=>∃M2 o2:Nat,N0<=M2/\N0<=o2/\o2<M2/\a=[(4,.sl o2 0 s.length)]/\J=hp E0 [(o2,some ⟨68,5,eL rQuad s⟩)] M2) (AAct.keep a [4]) J) hse2 ?_ ?_ ?_
 .refine kp [0,4,5,6] ?_
  refine gNilS zI 4 68 5 [(N0+11,some ⟨68,5,eL rQuad ([]:List gQuad)⟩)] [(0,.fsl (eL rQuad p0)),(4,.sl (N0+11) 0 ([]:List gQuad).length),(5,.fsl (eL rL_B r2)),(6,.int .i64 0)] (by simp(disch:=omega)) (by simp(disch:=omega) [eN]) [0,4,5,6] rfl ?_
  exact R2 (N0+12) (N0+11)
 .clear H hse2
  rintro⟨s3,s4⟩ fl a J H ⟨M1,o1,fM1_0,fM1_1,fM1_2,rfl,rfl⟩ K3 O3 hK3 hO3
  unfold sB at H;dsimp only at H
  refine Wsq [0,4,5,6] fun K4 hK4=>?_
  refine qA [0,4,5,6,18] ?_
  refine Ci H ?_ ?_<;>intro H
  .refine Js hK4 ?_
   refine Wsq [0,4,5,6] fun K5 hK5=>?_
   refine Wb ?_
   obtain⟨v6,hv6,H⟩:=bE H
   have e0:=nQ o1 (M1+8)
   refine qC [0,4,5,6,7] e0 (ix34 hv6) ?_
   obtain⟨j1,hj1,H⟩:=bE H
   refine kS (kM fun K6 hK6=>?_)
   have hJ1:∀a J,Rc G 39 N0 (fun a J=>∃M3:Nat,N0<=M3/\o1<M3/\M1+8<M3/\a=[(0,.fsl (eL rQuad p0)),(4,.sl o1 0 s4.length),(5,.fsl (eL rL_B r2)),(6,.int .i64 s3),(7,.ptr (M1+8) 0 0)]/\J=hp E0 [(o1,some ⟨68,5,eL rQuad s4⟩),(M1+8,some ⟨68,5,[[.int .i64 j1.Op,.int .i64 j1.Dst,.int .i64 j1.A,.int .i64 j1.B,.int .i64 j1.N]]⟩)] M3) (a.keep [0,4,5,6,7]) J->K6 a J:=by
    rintro a J ⟨b,U,hr,M3,fM3_0,fM3_1,fM3_2,rfl,rfl⟩
    refine hK6 _ _ (kG [0,4,5,6,7] (Wre hr ?_))
    obtain⟨l8,hl8,H⟩:=bE H
    have q1:∀J i,bsA T 34 true i 1 [(0,.agg [.int .i64 j1.Op,.int .i64 j1.Dst,.int .i64 j1.A,.int .i64 j1.B,.int .i64 j1.N])] J=some (.fsl (eL rQuad ([j1]:List gQuad)),J):=fun _ _=>rfl
    have e0:=nQ o1 (M1+8)
    have e1:=nQ o1 (M3+3)
    have e2:=nQ (M1+8) (M3+3)
    have e3:=nQ (M1+5) M3
    refine Rb tok [2] (j e0 (j e1 (j e2 (j e3 (j q1 (app34 hl8)))))) hK5 ?_
    have e0:=nQ (M1+8) (M3+3)
    have e1:=nQ (M1+5) M3
    obtain rfl:=oi H
    refine qJ (j e0 e1) hK3 ?_
    exact Rc.fin (AHeap.Sub.trans (zK (AHeap.Sub.refl _)) (zT rfl (by simp;try omega))) ⟨M3+8,(M3+3),(by omega),(by omega),(by omega),rfl,rfl⟩
   replace H:=hj1
   obtain⟨r9,hr9,H⟩:=bE H
   obtain⟨r10,hr10,H⟩:=bE H
   refine Sd tok tokM [] [0] [1,2,3,4,0,5] [0,4,5,6,7,30] (by
    intro K k
    have e0:=nQ o1 (M1+8)
    simp only[pickL,zN,zO]
    repeat first|simp -dsimp -implicitDefEqProofs [e0]|refine Pc.mk (c160 hr9) ?_|refine Pc.mk (c159 hr10) ?_
    exact k) ?_
   refine Ci H ?_ ?_<;>intro H
   .have e0:=nQ o1 (M1+8)
    refine Rt tok [] [0,4,5,6,7] (by intro K k;simp -dsimp -implicitDefEqProofs [e0];exact k) fun a ha=>?_
    cases oj H
    refine hJ1 _ _ ?_;rw[ha]
    exact R1 (M1+20)
   refine Wsk ?_
   show K6 _ _
   refine kE [0,4,5,6,7] fun a' ha=>?_
   cases oj H
   refine hJ1 _ _ ?_;rw[ha]
   exact R1 (M1+16)
  cases oj H
  refine zH (hO3 _ _ _ _ rfl ⟨rfl,?_⟩)
  refine kr ?_
  exact R2 (M1+4) o1
 intro x a J hx
 obtain⟨y5,rfl⟩:∃x,x=e2:=⟨_,rfl⟩
 obtain⟨rfl,b,U,hr,M2,o2,fM2_0,fM2_1,fM2_2,rfl,rfl⟩:=hx
 (try dsimp only at H)
 show K2 _ _
 refine hK2 _ _ (zI hr ?_)
 refine Rc.mk ?_
 refine qA [2,3] ?_
 cases oj H;exact W4

theorem c179 {p0:List gQuad}{p1:List Bool}{r:Bool×(List Bool)}(H:uE p0 p1=some r){J:AHeap}{w1:Nat}(q1:J.objs w1=some ⟨4,1,eL rB p1⟩):ACalls Tryz.prog G 179 [.fsl (eL rQuad p0),.sl w1 0 p1.length] J (fun v J'=>∃M:Nat,J.next<=M/\r.2.length=p1.length/\v=.bool r.1/\J'=hp J.objs [(w1,some ⟨4,1,eL rB r.2⟩)] M):=by
 refine uC (L:=[(w1,some ⟨4,1,eL rB p1⟩)]) (Q1:=fun v J'=>∃M:Nat,J.next<=M/\r.2.length=p1.length/\v=.bool r.1/\J'=hp E0 [(w1,some ⟨4,1,eL rB r.2⟩)] M) (by simp[q1]) (fun hlt=>?_) ?_ ⟨_,func179,rfl,rfl⟩
 rotate_left
 .rintro v J1 ⟨M,h0,h1,rfl,rfl⟩
  exact⟨_,M,rfl,by simp,by simp;try omega,M,h0,h1,rfl,rfl⟩
 generalize J.next=N0 at hlt ⊢
 have lw1:w1<N0:=hlt _ (.head _) rfl
 refine fnK tok func179 ntmps179 results179 ?_
 simp only[argsA,Nat.reduceAdd,hpN]
 unfold uE at H
 refine qA [0,1] ?_
 refine qA [0,1,5] ?_
 refine Wsq [5] fun K1 hK1=>?_
 refine qA [0,1,5,6] ?_
 refine Wb ?_
 obtain⟨e2,hse2,H⟩:=bE H
 refine zS [0,1,5,6] (fun s a J=>∃M1:Nat,N0<=M1/\s.2.2.length=p1.length/\a=[(0,.fsl (eL rQuad p0)),(1,.sl w1 0 s.2.2.length),(5,.bool s.1),(6,.int .i64 s.2.1)]/\J=hp E0 [(w1,some ⟨4,1,eL rB s.2.2⟩)] M1) (fun s x a J=>x=.exit 0/\Rc G 44 N0 (fun a J=>∃M2:Nat,N0<=M2/\s.2.length=p1.length/\a=[(5,.bool s.1)]/\J=hp E0 [(w1,some ⟨4,1,eL rB s.2⟩)] M2) (AAct.keep a [5]) J) hse2 ?_ ?_ ?_
 .refine kp [0,1,5,6] ?_
  exact Rf ⟨N0+3,(by omega),(by first|rfl|exact rfl|omega),rfl,rfl⟩
 .clear H hse2
  rintro⟨s1,s2,s3⟩ fl a J H ⟨M1,fM1_0,fM1_1,rfl,rfl⟩ K2 O2 hK2 hO2
  unfold pT at H;dsimp only at H
  refine Wsq [0,1,5,6] fun K3 hK3=>?_
  refine qA [0,1,5,6,12] ?_
  refine Ci H ?_ ?_<;>intro H
  .refine Js hK3 ?_
   refine Wsq [0,1,5,6] fun K4 hK4=>?_
   refine Wb ?_
   refine Wsq [0,1,5,6] fun K5 hK5=>?_
   obtain⟨v6,hv6,H⟩:=bE H
   refine qC [0,1,5,6,19] (ixo38 hv6) ((zG hv6).2.2) ?_
   refine Ci H ?_ ?_<;>intro H
   .refine zH ?_
    show K4 _ _
    refine kE [0,1,5,6] fun a' ha=>?_
    refine hK4 _ _ ?_;rw[ha]
    refine Rc.mk ?_
    obtain rfl:=oi H
    refine qI hK2 ?_
    exact Rf ⟨M1+12,(by omega),(by first|rfl|exact fM1_1|omega),rfl,rfl⟩
   refine Js hK5 ?_
   obtain⟨r7,hr7,H⟩:=bE H
   refine qD [0,1,5,6,7] (c178 hr7) ?_
   refine qA [0,1,5,6,7,8] ?_
   refine Wb ?_
   obtain⟨e1,hse1,H⟩:=bE H
   refine zS [0,1,5,6,7,8] (fun s a J=>∃M3:Nat,N0<=M3/\s.2.2.length=p1.length/\a=[(0,.fsl (eL rQuad p0)),(1,.sl w1 0 s.2.2.length),(5,.bool s.1),(6,.int .i64 s2),(7,.fsl (eL rI r7)),(8,.int .i64 s.2.1)]/\J=hp E0 [(w1,some ⟨4,1,eL rB s.2.2⟩)] M3) (fun s x a J=>x=.exit 2/\Rc G 44 N0 (fun a J=>∃M4:Nat,N0<=M4/\s.2.length=p1.length/\a=[(0,.fsl (eL rQuad p0)),(1,.sl w1 0 s.2.length),(5,.bool s.1),(6,.int .i64 s2)]/\J=hp E0 [(w1,some ⟨4,1,eL rB s.2⟩)] M4) (AAct.keep a [0,1,5,6]) J) hse1 ?_ ?_ ?_
   .refine kp [0,1,5,6,7,8] ?_
    exact Rf ⟨M1+14,(by omega),(by first|rfl|exact fM1_1|omega),rfl,rfl⟩
   .clear H hse1
    rintro⟨s8,s9,s10⟩ fl a J H ⟨M3,fM3_0,fM3_1,rfl,rfl⟩ K6 O6 hK6 hO6
    unfold pS at H;dsimp only at H
    refine Wsq [0,1,5,6,7,8] fun K7 hK7=>?_
    refine qA [0,1,5,6,7,8,26] ?_
    refine Ci H ?_ ?_<;>intro H
    .refine Js hK7 ?_
     refine Wsq [0,1,5,6,7,8] fun K8 hK8=>?_
     refine Wb ?_
     obtain⟨v13,hv13,H⟩:=bE H
     obtain⟨v14,hv14,H⟩:=bE H
     refine qB [0,1,5,6,7,8,36] (j (ix23 hv13) (j (ixo38 hv14) ((zG hv14).2.2))) ?_
     refine Ci H ?_ ?_<;>intro H
     .obtain⟨l15,hl15,H⟩:=bE H
      refine qB [0,1,6,7,8] (j (ix23 hv13) (j (ixo38 hv14) (j ((zG hv14).2.2) ((setx_iff.1 hl15).2.symm)))) ?_
      try rw[<- zE hl15]
      refine qG hK8 ?_
      obtain rfl:=oi H
      refine qI hK6 ?_
      exact Rf ⟨M3+23,(by omega),(by first|rfl|exact((zE hl15).trans fM3_1)|omega),rfl,rfl⟩
     refine Js hK8 ?_
     obtain rfl:=oi H
     refine qI hK6 ?_
     exact Rf ⟨M3+15,(by omega),(by first|rfl|exact fM3_1|omega),rfl,rfl⟩
    cases oj H
    refine zH (hO6 _ _ _ _ rfl ⟨rfl,?_⟩)
    refine kr ?_
    exact Rf ⟨M3+4,(by omega),(by first|rfl|exact fM3_1|omega),rfl,rfl⟩
   intro x a J hx
   obtain⟨y11,y12⟩:=e1
   obtain⟨rfl,b,U,hr,M4,fM4_0,fM4_1,rfl,rfl⟩:=hx
   (try dsimp only at H)
   show K4 _ _
   refine hK4 _ _ (zI hr ?_)
   refine Rc.mk ?_
   obtain rfl:=oi H
   refine qI hK2 ?_
   exact Rf ⟨M4+3,(by omega),(by first|rfl|exact fM4_1|omega),rfl,rfl⟩
  cases oj H
  refine zH (hO2 _ _ _ _ rfl ⟨rfl,?_⟩)
  refine kr ?_
  exact Rf ⟨M1+4,(by omega),(by first|rfl|exact fM1_1|omega),rfl,rfl⟩
 intro x a J hx
 obtain⟨y4,y5⟩:=e2
 obtain⟨rfl,b,U,hr,M2,fM2_0,fM2_1,rfl,rfl⟩:=hx
 (try dsimp only at H)
 show K1 _ _
 refine hK1 _ _ (zI hr ?_)
 refine Rc.mk ?_
 refine qA [4] ?_
 obtain rfl:=oi H
 refine Kp [4] ?_
 refine Wr ?_
 refine⟨[.bool y4],by simp,M2+2,by omega,by first|rfl|exact fM2_1|omega,?_,?_⟩
 .simp[eN]
 first|rfl|simp

theorem c162 {p0:gQuad}{p1:Int}{r:Bool}(H:mZ p0 p1=some r):APure Tryz.prog G 162 [.agg [.int .i64 p0.Op,.int .i64 p0.Dst,.int .i64 p0.A,.int .i64 p0.B,.int .i64 p0.N],.int .i64 p1] (.bool r):=by
 refine qK func162 ntmps162 results162 fun N0=>?_
 unfold mZ at H
 refine S0 tok [0] [1,2] ?_
 refine Wsq [] fun K1 hK1=>?_
 refine qA [1,2,6] ?_
 refine Wb ?_
 obtain⟨j1,hj1,H⟩:=bE H
 refine kS (kM fun K2 hK2=>?_)
 have hJ1:∀a J,Rc G 22 N0 (fun a J=>∃M1:Nat,N0<=M1/\a=[(1,.int .i64 p1),(2,.fptr [.int .i64 p0.Op,.int .i64 p0.Dst,.int .i64 p0.A,.int .i64 p0.B,.int .i64 p0.N] 0),(6,.int .i64 p0.Op),(7,.bool j1)]/\J=hp E0 [] M1) (a.keep [1,2,6,7]) J->K2 a J:=by
  rintro a J ⟨b,U,hr,M1,fM1_0,rfl,rfl⟩
  refine hK2 _ _ (kG [1,2,6,7] (Wre hr ?_))
  refine Ci H ?_ ?_<;>intro H
  .refine qA [4] ?_
   cases oj H;exact W4
  refine qA [2,15] ?_
  refine Ci H ?_ ?_<;>intro H
  .refine qA [4] ?_
   cases oj H;exact W4
  refine Js hK1 ?_
  refine qA [4] ?_
  cases oj H;exact W4
 replace H:=hj1
 refine qA [1,2,6,7] ?_
 refine Ci H ?_ ?_<;>intro H
 .refine Wsk ?_
  show K2 _ _
  refine kE [1,2,6,7] fun a' ha=>?_
  cases oj H
  refine hJ1 _ _ ?_;rw[ha]
  exact R1 (N0+6)
 refine Rt0 tok [] [1,2,6,7] fun a ha=>?_
 cases oj H
 refine hJ1 _ _ ?_;rw[ha]
 exact R1 (N0+8)
end Go.Proofs.YtnaikeccpnadgaaGreat
