/- Words of the proof: UNThreadStep. No conditions. -/
import Derived.Test.YtdnkfkfjaaedpaaGreatNUM
set_option linter.unusedSimpArgs false
set_option linter.unusedVariables false
set_option maxRecDepth 20000
set_option maxHeartbeats 4000000
namespace Go.Abs
open Go

noncomputable def l_FnThreadStep_L1 (r1:(List gQuad)×gThread×(List gBox)) (r2:gThread×(List gBox)×(List Int)×Int) (s:Int×gThread):Option (Flow (Int×gThread) (Sum (gThread) (Bool))):=
 match s with
 |(s10,s11)=>
 if ilt s10 (ilen r2.2.1)=true then
  (idx r2.2.1 s10).bind fun v13=>
  (i_BoxValid v13).bind fun r14=>
  (if bnot r14=true then some true else(idx r1.2.2 s10).bind fun v15=>some (ine v13.Room v15.Room)).bind fun g16=>
  if g16=true then
   some (.done (.inr false))
  else
   some (.next (iadd .i64 s10 1,s11))
 else
  some (.done (.inl s11))

noncomputable def l_FnThreadStep (p0:(List Int)):Option (Bool):=
 if igt (ilen p0) 1048576=true then
  some true
 else
  (s_DrawThreadStep p0).bind fun r1=>
  (i_ThreadStep r1.1 r1.2.1 r1.2.2).bind fun r2=>
  (s_ThreadStep r1.1 r1.2.1 r1.2.2).bind fun r3=>
  (if ine r2.2.2.2 r3.2.2.2=true then some true else(l_sameThread r2.1 r3.1).bind fun r4=>some (bnot r4)).bind fun g5=>
  (if g5=true then some true else(l_sameBoxes r2.2.1 r3.2.1).bind fun r6=>some (bnot r6)).bind fun g7=>
  (if g7=true then some true else(l_sameInts r2.2.2.1 r3.2.2.1).bind fun r8=>some (bnot r8)).bind fun g9=>
  if g9=true then
   some false
  else
   if ieq r2.2.2.2 0=true then
    some true
   else
    (loopM (l_FnThreadStep_L1 r1 r2) (0,r2.1)).bind fun e1=>
    match e1 with
    |.inl y12=>
     (i_ThreadValid y12 r1.1).bind fun r17=>
     (if r17=true then some (ieq (ilen r2.2.1) (ilen r1.2.2)) else some false).bind fun g18=>
     some g18
    |.inr r0=>
     some r0


end Go.Abs
