/- Words of the proof. -/
import Derived.Test.YtnaikeccpnadgaaGreatNBM
set_option linter.unusedSimpArgs false
set_option linter.unusedVariables false
set_option maxRecDepth 20000
set_option maxHeartbeats 4000000
namespace Go.Abs
open Go

noncomputable def xV (p0:List gQuad)(r1:List Int)(s:Int×(List Int)):Option (Flow (Int×(List Int)) ((List Int))):=
 match s with
 |(s2,s3)=>
 if ilt s2 (ilen p0)=true then
  (idx p0 s2).bind fun v5=>
  (fU v5).bind fun r6=>
  (if ige r6 0=true then some (ine v5.Op 7) else some false).bind fun g7=>
  (if g7=true then(wM p0 r1 s2).bind fun r8=>(jY r8 r6).bind fun r9=>some (bnot r9) else some false).bind fun g10=>
  if g10=true then
   (appx 8 s3 ([s2]:List Int)).bind fun l11=>
   some (.next (iadd .i64 s2 1,l11))
  else
   some (.next (iadd .i64 s2 1,s3))
 else
  some (.done s3)

noncomputable def qY (p0:List gQuad):Option ((List Int)):=
 (yP p0).bind fun r1=>
 (loopM (xV p0 r1) (0,([]:List Int))).bind fun e1=>
 match e1 with
 |y4=>
  some y4

noncomputable def kI (p0:List gQuad):Option ((List gQuad)):=
 if false=true then
  some ([]:List gQuad)
 else
  (appx 40 ([]:List gQuad) p0).bind fun l1=>
  some l1

noncomputable def sG (r3:List Int)(s:Int×(List gQuad)):Option (Flow (Int×(List gQuad)) ((List gQuad))):=
 match s with
 |(s4,s5)=>
 if ilt s4 (ilen r3)=true then
  (idx r3 s4).bind fun v7=>
  (idx s5 v7).bind fun v8=>
  (setx s5 v7 (⟨4,0,0,0,iadd .i64 v7 1⟩:gQuad)).bind fun l9=>
  some (.next (iadd .i64 s4 1,l9))
 else
  some (.done s5)

noncomputable def wN (p0:List gQuad):Option ((List gQuad)×Bool):=
 (jD p0).bind fun r1=>
 if bnot r1=true then
  some (([]:List gQuad),false)
 else
  (kI p0).bind fun r2=>
  (qY p0).bind fun r3=>
  (loopM (sG r3) (0,r2)).bind fun e1=>
  match e1 with
  |y6=>
   some (y6,true)

noncomputable def yT (p0:Int)(l1:List Bool)(s:Int×(List Bool)):Option (Flow (Int×(List Bool)) ((List Bool))):=
 match s with
 |(s2,s3)=>
 if ilt s2 (ilen l1)=true then
  (jY p0 s2).bind fun r5=>
  (idx s3 s2).bind fun v6=>
  (setx s3 s2 r5).bind fun l7=>
  some (.next (iadd .i64 s2 1,l7))
 else
  some (.done s3)

noncomputable def xU (p0:Int):Option ((List Bool)):=
 (makex 1 12 false).bind fun l1=>
 (loopM (yT p0 l1) (0,l1)).bind fun e1=>
 match e1 with
 |y4=>
  some y4

noncomputable def pA (r2:List Int)(s:Int×(List (List Bool))):Option (Flow (Int×(List (List Bool))) ((List (List Bool)))):=
 match s with
 |(s3,s4)=>
 if ilt s3 (ilen r2)=true then
  (idx r2 s3).bind fun v6=>
  (xU v6).bind fun r7=>
  (appx 24 s4 ([r7]:List (List Bool))).bind fun l8=>
  some (.next (iadd .i64 s3 1,l8))
 else
  some (.done s4)

noncomputable def cP (p0:List gQuad):Option ((List (List Bool))):=
 (jD p0).bind fun r1=>
 if bnot r1=true then
  some ([]:List (List Bool))
 else
  (yP p0).bind fun r2=>
  (loopM (pA r2) (0,([]:List (List Bool)))).bind fun e1=>
  match e1 with
  |y5=>
   some y5

noncomputable def gX (r2:(List Int)×(List (List gQuad)))(s:Int×(List (List gQuad))):Option (Flow (Int×(List (List gQuad))) (Sum ((List (List gQuad))) (Bool))):=
 match s with
 |(s10,s11)=>
 if ilt s10 (ilen r2.2)=true then
  (idx r2.2 s10).bind fun v13=>
  (wN v13).bind fun r14=>
  if bnot r14.2=true then
   some (.done (.inr false))
  else
   (appx 24 s11 ([r14.1]:List (List gQuad))).bind fun l15=>
   some (.next (iadd .i64 s10 1,l15))
 else
  some (.done (.inl s11))

noncomputable def jU (s21:Int)(v27:List Bool)(s:Int×gCrew×gCrew):Option (Flow (Int×gCrew×gCrew) (Sum (gCrew×gCrew) (Bool))):=
 match s with
 |(s28,s29,s30)=>
 if ilt s28 12=true then
  (idx v27 s28).bind fun v33=>
  (if v33=true then(idx s29.Threads s21).bind fun v34=>(idx v34.Regs s28).bind fun v35=>(idx s30.Threads s21).bind fun v36=>(idx v36.Regs s28).bind fun v37=>some (ine v35 v37) else some false).bind fun g38=>
  if g38=true then
   some (.done (.inr false))
  else
   some (.next (iadd .i64 s28 1,s29,s30))
 else
  some (.done (.inl (s29,s30)))

noncomputable def jV (r2:(List Int)×(List (List gQuad)))(y12:(List (List gQuad)))(s:Int×gCrew×gCrew):Option (Flow (Int×gCrew×gCrew) (Sum (Unit) (Bool))):=
 match s with
 |(s21,s22,s23)=>
 if ilt s21 (ilen r2.2)=true then
  (idx y12 s21).bind fun v24=>
  (cP v24).bind fun r25=>
  (idx s22.Threads s21).bind fun v26=>
  (idx r25 v26.Pc).bind fun v27=>
  (loopM (jU s21 v27) (0,s22,s23)).bind fun e2=>
  match e2 with
  |.inl (y31,y32)=>
   some (.next (iadd .i64 s21 1,y31,y32))
  |.inr r0=>
   some (.done (.inr r0))
 else
  some (.done (.inl ()))

noncomputable def pM (p0:List Int)(p1:List Int):Option (Bool):=
 (if igt (ilen p0) 1048576=true then some true else some (igt (ilen p1) 1048576)).bind fun g1=>
 if g1=true then
  some true
 else
  (yF p0).bind fun r2=>
  (xY r2.1 r2.2).bind fun r3=>
  (vG r2.1 r2.2).bind fun r4=>
  (if bneb r3.2 r4.2=true then some true else(kY r3.1 r4.1).bind fun r5=>some (bnot r5)).bind fun g6=>
  (if g6=true then some true else some (bnot r3.2)).bind fun g7=>
  if g7=true then
   (if beqb r3.2 r4.2=true then(kY r3.1 r4.1).bind fun r8=>some r8 else some false).bind fun g9=>
   some g9
  else
   (loopM (gX r2) (0,([]:List (List gQuad)))).bind fun e1=>
   match e1 with
   |.inl y12=>
    (remx (ilen p1) 151).bind fun v16=>
    (vO r2.1 r2.2 v16).bind fun r17=>
    (vO r2.1 y12 v16).bind fun r18=>
    (if ine (ilen r17.Threads) (ilen r2.2)=true then some true else(xH r17 r18).bind fun r19=>some (bnot r19)).bind fun g20=>
    if g20=true then
     some false
    else
     (loopM (jV r2 y12) (0,r17,r18)).bind fun e3=>
     match e3 with
     |.inl _=>
      some true
     |.inr r0=>
      some r0
   |.inr r0=>
    some r0


end Go.Abs
