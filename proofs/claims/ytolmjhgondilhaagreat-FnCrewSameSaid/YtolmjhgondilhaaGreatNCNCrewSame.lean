/- Words of the proof. -/
import Derived.Test.YtolmjhgondilhaaGreatNCM
set_option linter.unusedSimpArgs false
set_option linter.unusedVariables false
set_option maxRecDepth 20000
set_option maxHeartbeats 4000000
namespace Go.Abs
open Go

noncomputable def yS (r2:(List Int)×(List (List gQuad)))(s:Int×(List (List gQuad))):Option (Flow (Int×(List (List gQuad))) ((List (List gQuad)))):=
 match s with
 |(s10,s11)=>
 if ilt s10 (ilen r2.2)=true then
  (idx r2.2 s10).bind fun v13=>
  (appx 40 ([]:List gQuad) v13).bind fun l14=>
  (if ilt (ilen l14) 600=true then
   (appx 40 l14 ([(⟨10,0,0,0,0⟩:gQuad)]:List gQuad)).bind fun l17=>
   some l17
  else
   some l14).bind fun j1=>
  (appx 24 s11 [j1]).bind fun l16=>
  some (.next (iadd .i64 s10 1,l16))
 else
  some (.done s11)

noncomputable def qR (p0:List Int)(p1:List Int):Option (Bool):=
 (if igt (ilen p0) 1048576=true then some true else some (igt (ilen p1) 1048576)).bind fun g1=>
 if g1=true then
  some true
 else
  (jB p0).bind fun r2=>
  (vD r2.1 r2.2).bind fun r3=>
  (sK r2.1 r2.2).bind fun r4=>
  (if bneb r3.2 r4.2=true then some true else(jH r3.1 r4.1).bind fun r5=>some (bnot r5)).bind fun g6=>
  (if g6=true then some true else some (bnot r3.2)).bind fun g7=>
  if g7=true then
   (if beqb r3.2 r4.2=true then(jH r3.1 r4.1).bind fun r8=>some r8 else some false).bind fun g9=>
   some g9
  else
   (loopM (yS r2) (0,([]:List (List gQuad)))).bind fun e2=>
   match e2 with
   |y12=>
    (remx (ilen p1) 201).bind fun v18=>
    (qQ r2.1 y12 v18).bind fun r19=>
    (qQ r2.1 r2.2 v18).bind fun r20=>
    (jC r19 r20).bind fun r21=>
    (if r21=true then some (ieq (ilen r20.Threads) (ilen r2.2)) else some false).bind fun g22=>
    some g22


end Go.Abs
