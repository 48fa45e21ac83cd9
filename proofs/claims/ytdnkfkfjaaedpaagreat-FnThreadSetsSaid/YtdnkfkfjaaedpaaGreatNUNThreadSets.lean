/- Words of the proof: UNThreadSets. No conditions. -/
import Derived.Test.YtdnkfkfjaaedpaaGreatNUM
set_option linter.unusedSimpArgs false
set_option linter.unusedVariables false
set_option maxRecDepth 20000
set_option maxHeartbeats 4000000
namespace Go.Abs
open Go

noncomputable def l_FnThreadSets_L1 (g11:Bool) (s:Int×gThread×gThread×gQuad):Option (Flow (Int×gThread×gThread×gQuad) (Sum (Unit) (Bool))):=
 match s with
 |(s12,s13,s14,s15)=>
 if ilt s12 12=true then
  (idx s14.Regs s12).bind fun v16=>
  (idx s13.Regs s12).bind fun v17=>
  (if ine v16 v17=true then(if bnot g11=true then some true else some (ine s12 s15.Dst)).bind fun g18=>some g18 else some false).bind fun g19=>
  if g19=true then
   some (.done (.inr false))
  else
   some (.next (iadd .i64 s12 1,s13,s14,s15))
 else
  some (.done (.inl ()))

noncomputable def l_FnThreadSets (p0:(List Int)):Option (Bool):=
 if igt (ilen p0) 1048576=true then
  some true
 else
  (s_DrawThreadStep p0).bind fun r1=>
  (i_ThreadStep r1.1 r1.2.1 r1.2.2).bind fun r2=>
  (s_ThreadStep r1.1 r1.2.1 r1.2.2).bind fun r3=>
  (if ine r2.2.2.2 r3.2.2.2=true then some true else(l_sameThread r2.1 r3.1).bind fun r4=>some (bnot r4)).bind fun g5=>
  (if g5=true then some true else(l_sameBoxes r2.2.1 r3.2.1).bind fun r6=>some (bnot r6)).bind fun g7=>
  (if g7=true then some true else(l_sameInts r2.2.2.1 r3.2.2.1).bind fun r8=>some (bnot r8)).bind fun g9=>
  if g9=true then
   some false
  else
   if ieq r2.2.2.2 0=true then
    some true
   else
    (idx r1.1 r1.2.1.Pc).bind fun v10=>
    (if ile v10.Op 3=true then some true else some (ieq v10.Op 7)).bind fun g11=>
    (loopM (l_FnThreadSets_L1 g11) (0,r1.2.1,r2.1,v10)).bind fun e1=>
    match e1 with
    |.inl _=>
     some true
    |.inr r0=>
     some r0


end Go.Abs
