/- Words of the proof. -/
import Derived.Test.YtnaikeccpnadgaaGreatNBM
set_option linter.unusedSimpArgs false
set_option linter.unusedVariables false
set_option maxRecDepth 20000
set_option maxHeartbeats 4000000
namespace Go.Abs
open Go

noncomputable def qU (p0:List Int)(p1:List Int):Option (Bool):=
 (if ile (ilen p1) (ilen p0)=true then(cutx p0 0 (ilen p1)).bind fun l1=>(jK l1 p1).bind fun r2=>some r2 else some false).bind fun g3=>
 some g3

noncomputable def qV (r2:(List Int)×(List (List gQuad)))(s:Int×(List (List gQuad))):Option (Flow (Int×(List (List gQuad))) (Sum ((List (List gQuad))) (Bool))):=
 match s with
 |(s10,s11)=>
 if ilt s10 (ilen r2.2)=true then
  (idx r2.2 s10).bind fun v13=>
  (kP v13).bind fun r14=>
  if bnot r14.2=true then
   some (.done (.inr false))
  else
   (appx 24 s11 ([r14.1]:List (List gQuad))).bind fun l15=>
   some (.next (iadd .i64 s10 1,l15))
 else
  some (.done (.inl s11))

noncomputable def wE (p0:List Int)(p1:List Int):Option (Bool):=
 (if igt (ilen p0) 1048576=true then some true else some (igt (ilen p1) 1048576)).bind fun g1=>
 if g1=true then
  some true
 else
  (yF p0).bind fun r2=>
  (xY r2.1 r2.2).bind fun r3=>
  (vG r2.1 r2.2).bind fun r4=>
  (if bneb r3.2 r4.2=true then some true else(kY r3.1 r4.1).bind fun r5=>some (bnot r5)).bind fun g6=>
  (if g6=true then some true else some (bnot r3.2)).bind fun g7=>
  if g7=true then
   (if beqb r3.2 r4.2=true then(kY r3.1 r4.1).bind fun r8=>some r8 else some false).bind fun g9=>
   some g9
  else
   (loopM (qV r2) (0,([]:List (List gQuad)))).bind fun e1=>
   match e1 with
   |.inl y12=>
    (remx (ilen p1) 151).bind fun v16=>
    (vO r2.1 r2.2 v16).bind fun r17=>
    (if ieq (ilen r17.Threads) (ilen r2.2)=true then(vO r2.1 y12 v16).bind fun r18=>(qU r18.Out r17.Out).bind fun r19=>some r19 else some false).bind fun g20=>
    some g20
   |.inr r0=>
    some r0


end Go.Abs
