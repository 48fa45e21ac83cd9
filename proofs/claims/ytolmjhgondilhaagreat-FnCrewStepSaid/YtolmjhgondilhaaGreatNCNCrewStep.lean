/- Words of the proof. -/
import Derived.Test.YtolmjhgondilhaaGreatNCM
set_option linter.unusedSimpArgs false
set_option linter.unusedVariables false
set_option maxRecDepth 20000
set_option maxHeartbeats 4000000
namespace Go.Abs
open Go

noncomputable def jX (p0:gCrew):Option (gCrew×Bool):=
 (yQ p0 1).bind fun r1=>
 some (r1.1,r1.2)

noncomputable def oW (p0:gCrew):Option (gCrew×Bool):=
 (jA p0 1).bind fun r1=>
 some (r1.1,r1.2)

noncomputable def pS (p0:List Int)(p1:List Int):Option (Bool):=
 (if ile (ilen p1) (ilen p0)=true then(cutx p0 0 (ilen p1)).bind fun l1=>(jV l1 p1).bind fun r2=>some r2 else some false).bind fun g3=>
 some g3

noncomputable def nL (p0:List Int):Option (Bool):=
 if igt (ilen p0) 1048576=true then
  some true
 else
  (wG p0).bind fun r1=>
  (jX r1).bind fun r2=>
  (oW r1).bind fun r3=>
  (if bneb r2.2 r3.2=true then some true else(kJ r2.1 r3.1).bind fun r4=>some (bnot r4)).bind fun g5=>
  (if g5=true then some true else some (bnot r2.2)).bind fun g6=>
  if g6=true then
   (if beqb r2.2 r3.2=true then(kJ r2.1 r3.1).bind fun r7=>some r7 else some false).bind fun g8=>
   some g8
  else
   (xM r2.1).bind fun r9=>
   (if r9=true then(tB r2.1.Codes r1.Codes).bind fun r10=>some r10 else some false).bind fun g11=>
   (if g11=true then(pS r2.1.Out r1.Out).bind fun r12=>some r12 else some false).bind fun g13=>
   (if g13=true then some (ile (ilen r2.1.Out) (iadd .i64 (ilen r1.Out) 1)) else some false).bind fun g14=>
   some g14


end Go.Abs
