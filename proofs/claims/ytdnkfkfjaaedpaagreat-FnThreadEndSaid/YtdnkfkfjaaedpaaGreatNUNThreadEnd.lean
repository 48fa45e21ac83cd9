/- Words of the proof: UNThreadEnd. No conditions. -/
import Derived.Test.YtdnkfkfjaaedpaaGreatNUM
set_option linter.unusedSimpArgs false
set_option linter.unusedVariables false
set_option maxRecDepth 20000
set_option maxHeartbeats 4000000
namespace Go.Abs
open Go

noncomputable def l_FnThreadEnd (p0:(List Int)):Option (Bool):=
 if igt (ilen p0) 1048576=true then
  some true
 else
  (s_DrawThreadStep p0).bind fun r1=>
  (i_ThreadStep r1.1 r1.2.1 r1.2.2).bind fun r2=>
  (s_ThreadStep r1.1 r1.2.1 r1.2.2).bind fun r3=>
  (if ine r2.2.2.2 r3.2.2.2=true then some true else(l_sameThread r2.1 r3.1).bind fun r4=>some (bnot r4)).bind fun g5=>
  (if g5=true then some true else(l_sameBoxes r2.2.1 r3.2.1).bind fun r6=>some (bnot r6)).bind fun g7=>
  (if g7=true then some true else(l_sameInts r2.2.2.1 r3.2.2.1).bind fun r8=>some (bnot r8)).bind fun g9=>
  if g9=true then
   some false
  else
   if ieq r2.2.2.2 0=true then
    some true
   else
    (idx r1.1 r1.2.1.Pc).bind fun v10=>
    (if beqb (ieq r2.2.2.2 4) (ieq v10.Op 10)=true then some (beqb (ieq r2.2.2.2 2) (ieq v10.Op 8)) else some false).bind fun g11=>
    (if g11=true then some (beqb (igt (ilen r2.2.2.1) 0) (ieq v10.Op 9)) else some false).bind fun g12=>
    some g12


end Go.Abs
