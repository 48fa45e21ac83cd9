/- Words of the proof. -/
import Derived.Test.YtolmjhgondilhaaGreatNCM
set_option linter.unusedSimpArgs false
set_option linter.unusedVariables false
set_option maxRecDepth 20000
set_option maxHeartbeats 4000000
namespace Go.Abs
open Go

noncomputable def jX (p0:gCrew):Option (gCrew×Bool):=
 (yQ p0 1).bind fun r1=>
 some (r1.1,r1.2)

noncomputable def tJ (p0:List Int):Option (Bool):=
 if igt (ilen p0) 1048576=true then
  some true
 else
  (yV p0).bind fun r1=>
  (yQ r1.1 r1.2).bind fun r2=>
  (jA r1.1 r1.2).bind fun r3=>
  (if bneb r2.2 r3.2=true then some true else(kJ r2.1 r3.1).bind fun r4=>some (bnot r4)).bind fun g5=>
  (if g5=true then some true else some (bnot r2.2)).bind fun g6=>
  if g6=true then
   (if beqb r2.2 r3.2=true then(kJ r2.1 r3.1).bind fun r7=>some r7 else some false).bind fun g8=>
   some g8
  else
   (jX r2.1).bind fun r9=>
   (yQ r1.1 (iadd .i64 r1.2 1)).bind fun r10=>
   (if r9.2=true then some r10.2 else some false).bind fun g11=>
   (if g11=true then(kJ r9.1 r10.1).bind fun r12=>some r12 else some false).bind fun g13=>
   some g13


end Go.Abs
