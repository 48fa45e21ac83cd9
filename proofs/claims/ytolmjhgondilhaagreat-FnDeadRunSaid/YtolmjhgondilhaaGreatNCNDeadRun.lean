/- Words of the proof. -/
import Derived.Test.YtolmjhgondilhaaGreatNCM
set_option linter.unusedSimpArgs false
set_option linter.unusedVariables false
set_option maxRecDepth 20000
set_option maxHeartbeats 4000000
namespace Go.Abs
open Go

noncomputable def i_nextOf (p0:gQuad)(p1:Int):Option ((List Int)):=
 if ieq p0.Op 10=true then
  some ([]:List Int)
 else
  if ieq p0.Op 4=true then
   some ([p0.N]:List Int)
  else
   (if ieq p0.Op 5=true then some (ilt p0.N (iadd .i64 p1 1)) else some false).bind fun g1=>
   if g1=true then
    some ([p0.N,iadd .i64 p1 1]:List Int)
   else
    (if ieq p0.Op 5=true then some (igt p0.N (iadd .i64 p1 1)) else some false).bind fun g2=>
    if g2=true then
     some ([iadd .i64 p1 1,p0.N]:List Int)
    else
     some ([iadd .i64 p1 1]:List Int)

noncomputable def uM (p1:List Int)(r2:List Int)(s:Int×Int):Option (Flow (Int×Int) (Int)):=
 match s with
 |(s3,s4)=>
 if ilt s4 (ilen r2)=true then
  (idx r2 s4).bind fun v6=>
  (idx p1 v6).bind fun v7=>
  some (.next (ior .u16 s3 v7,iadd .i64 s4 1))
 else
  some (.done s3)

noncomputable def vD (p0:List gQuad)(p1:List Int)(p2:Int):Option (Int):=
 (idx p0 p2).bind fun v1=>
 (i_nextOf v1 p2).bind fun r2=>
 (loopM (uM p1 r2) (0,0)).bind fun e1=>
 match e1 with
 |y5=>
  some y5

noncomputable def dT (p0:gQuad):Option (Int):=
 (if ieq p0.Op 1=true then
  some (ieq p0.Op 1)
 else
  if ieq p0.Op 2=true then
   some (ieq p0.Op 2)
  else
   if ieq p0.Op 3=true then
    some (ieq p0.Op 3)
   else
    some (ieq p0.Op 7)).bind fun j1=>
 if j1=true then
  some p0.Dst
 else
  some (-1)

noncomputable def i_usesOf (p0:gQuad):Option (Int):=
 (if ieq p0.Op 2=true then
  some (ieq p0.Op 2)
 else
  if ieq p0.Op 5=true then
   some (ieq p0.Op 5)
  else
   if ieq p0.Op 6=true then
    some (ieq p0.Op 6)
   else
    some (ieq p0.Op 9)).bind fun j1=>
 if j1=true then
  (shlx .u16 1 p0.A).bind fun v2=>
  some v2
 else
  if ieq p0.Op 3=true then
   (shlx .u16 1 p0.A).bind fun v3=>
   (shlx .u16 1 p0.B).bind fun v4=>
   some (ior .u16 v3 v4)
  else
   some 0

noncomputable def uN (p0:List gQuad)(s:Bool×Int×(List Int)):Option (Flow (Bool×Int×(List Int)) (Bool×(List Int))):=
 match s with
 |(s5,s6,s7)=>
 if ige s6 0=true then
  (vD p0 s7 s6).bind fun r10=>
  ((idx p0 s6).bind fun v16=>
  (dT v16).bind fun r17=>
  if ige r17 0=true then
   (shlx .u16 1 r17).bind fun v18=>
   some (iandNot .u16 r10 v18)
  else
   some r10).bind fun j1=>
  (idx p0 s6).bind fun v12=>
  (i_usesOf v12).bind fun r13=>
  (idx s7 s6).bind fun v14=>
  if ine (ior .u16 j1 r13) v14=true then
   (setx s7 s6 (ior .u16 j1 r13)).bind fun l15=>
   some (.next (true,isub .i64 s6 1,l15))
  else
   some (.next (s5,isub .i64 s6 1,s7))
 else
  some (.done (s5,s7))

noncomputable def pV (p0:List gQuad)(s:Bool×(List Int)):Option (Flow (Bool×(List Int)) ((List Int))):=
 match s with
 |(s2,s3)=>
 if s2=true then
  (loopM (uN p0) (false,isub .i64 (ilen p0) 1,s3)).bind fun e2=>
  match e2 with
  |(y8,y9)=>
   some (.next (y8,y9))
 else
  some (.done s3)

noncomputable def jG (p0:List gQuad):Option ((List Int)):=
 (makex 2 (ilen p0) 0).bind fun l1=>
 (loopM (pV p0) (true,l1)).bind fun e3=>
 match e3 with
 |y4=>
  some y4

noncomputable def vC (p0:Int)(p1:Int):Option (Bool):=
 (shrx .u16 p0 p1).bind fun v1=>
 some (ieq (iand .u16 v1 1) 1)

noncomputable def wN (p0:List gQuad)(r1:List Int)(s:Int×(List Int)):Option (Flow (Int×(List Int)) ((List Int))):=
 match s with
 |(s2,s3)=>
 if ilt s2 (ilen p0)=true then
  (idx p0 s2).bind fun v5=>
  (dT v5).bind fun r6=>
  (if ige r6 0=true then some (ine v5.Op 7) else some false).bind fun g7=>
  (if g7=true then(vD p0 r1 s2).bind fun r8=>(vC r8 r6).bind fun r9=>some (bnot r9) else some false).bind fun g10=>
  if g10=true then
   (appx 8 s3 ([s2]:List Int)).bind fun l11=>
   some (.next (iadd .i64 s2 1,l11))
  else
   some (.next (iadd .i64 s2 1,s3))
 else
  some (.done s3)

noncomputable def pX (p0:List gQuad):Option ((List Int)):=
 (jG p0).bind fun r1=>
 (loopM (wN p0 r1) (0,([]:List Int))).bind fun e1=>
 match e1 with
 |y4=>
  some y4

noncomputable def zS (p0:List gQuad):Option ((List gQuad)):=
 if false=true then
  some ([]:List gQuad)
 else
  (appx 40 ([]:List gQuad) p0).bind fun l1=>
  some l1

noncomputable def qQ (r3:List Int)(s:Int×(List gQuad)):Option (Flow (Int×(List gQuad)) ((List gQuad))):=
 match s with
 |(s4,s5)=>
 if ilt s4 (ilen r3)=true then
  (idx r3 s4).bind fun v7=>
  (idx s5 v7).bind fun v8=>
  (setx s5 v7 (⟨4,0,0,0,iadd .i64 v7 1⟩:gQuad)).bind fun l9=>
  some (.next (iadd .i64 s4 1,l9))
 else
  some (.done s5)

noncomputable def vF (p0:List gQuad):Option ((List gQuad)×Bool):=
 (wY p0).bind fun r1=>
 if bnot r1=true then
  some (([]:List gQuad),false)
 else
  (zS p0).bind fun r2=>
  (pX p0).bind fun r3=>
  (loopM (qQ r3) (0,r2)).bind fun e1=>
  match e1 with
  |y6=>
   some (y6,true)

noncomputable def pR (p0:List Int)(p1:(List (List gQuad)))(p2:(List (List gQuad)))(p3:Int):Option (Bool):=
 (uJ p0 p1 p3).bind fun r1=>
 (if ieq (ilen r1.Threads) (ilen p1)=true then(uJ p0 p2 p3).bind fun r2=>(jU r1 r2).bind fun r3=>some r3 else some false).bind fun g4=>
 some g4

noncomputable def cF (r2:(List Int)×(List (List gQuad)))(s:Int×(List (List gQuad))):Option (Flow (Int×(List (List gQuad))) (Sum ((List (List gQuad))) (Bool))):=
 match s with
 |(s10,s11)=>
 if ilt s10 (ilen r2.2)=true then
  (idx r2.2 s10).bind fun v13=>
  (vF v13).bind fun r14=>
  if bnot r14.2=true then
   some (.done (.inr false))
  else
   (appx 24 s11 ([r14.1]:List (List gQuad))).bind fun l15=>
   some (.next (iadd .i64 s10 1,l15))
 else
  some (.done (.inl s11))

noncomputable def hU (p0:List Int)(p1:List Int):Option (Bool):=
 (if igt (ilen p0) 1048576=true then some true else some (igt (ilen p1) 1048576)).bind fun g1=>
 if g1=true then
  some true
 else
  (yE p0).bind fun r2=>
  (xO r2.1 r2.2).bind fun r3=>
  (uB r2.1 r2.2).bind fun r4=>
  (if bneb r3.2 r4.2=true then some true else(kJ r3.1 r4.1).bind fun r5=>some (bnot r5)).bind fun g6=>
  (if g6=true then some true else some (bnot r3.2)).bind fun g7=>
  if g7=true then
   (if beqb r3.2 r4.2=true then(kJ r3.1 r4.1).bind fun r8=>some r8 else some false).bind fun g9=>
   some g9
  else
   (loopM (cF r2) (0,([]:List (List gQuad)))).bind fun e1=>
   match e1 with
   |.inl y12=>
    (remx (ilen p1) 151).bind fun v16=>
    (pR r2.1 r2.2 y12 v16).bind fun r17=>
    some r17
   |.inr r0=>
    some r0


end Go.Abs
