/- Words of the proof. -/
import Derived.Test.YtolmjhgondilhaaGreatNCM
set_option linter.unusedSimpArgs false
set_option linter.unusedVariables false
set_option maxRecDepth 20000
set_option maxHeartbeats 4000000
namespace Go.Abs
open Go

noncomputable def hY (p0:List Int)(p1:List Int):Option (Bool):=
 (if igt (ilen p0) 1048576=true then some true else some (igt (ilen p1) 1048576)).bind fun g1=>
 if g1=true then
  some true
 else
  (yV p0).bind fun r2=>
  (yQ r2.1 r2.2).bind fun r3=>
  (jA r2.1 r2.2).bind fun r4=>
  (if bneb r3.2 r4.2=true then some true else(kJ r3.1 r4.1).bind fun r5=>some (bnot r5)).bind fun g6=>
  (if g6=true then some true else some (bnot r3.2)).bind fun g7=>
  if g7=true then
   (if beqb r3.2 r4.2=true then(kJ r3.1 r4.1).bind fun r8=>some r8 else some false).bind fun g9=>
   some g9
  else
   (remx (ilen p1) (iadd .i64 r2.2 1)).bind fun v10=>
   (yQ r2.1 v10).bind fun r11=>
   (yQ r11.1 (isub .i64 r2.2 v10)).bind fun r12=>
   (if r11.2=true then some r12.2 else some false).bind fun g13=>
   (if g13=true then(kJ r12.1 r3.1).bind fun r14=>some r14 else some false).bind fun g15=>
   some g15


end Go.Abs
