/- Words of the proof: UNThreadJump. No conditions. -/
import Derived.Test.YtdnkfkfjaaedpaaGreatNUM
set_option linter.unusedSimpArgs false
set_option linter.unusedVariables false
set_option maxRecDepth 20000
set_option maxHeartbeats 4000000
namespace Go.Abs
open Go

noncomputable def l_FnThreadJump (p0:(List Int)):Option (Bool):=
 if igt (ilen p0) 1048576=true then
  some true
 else
  (s_DrawThreadStep p0).bind fun r1=>
  (i_ThreadStep r1.1 r1.2.1 r1.2.2).bind fun r2=>
  (s_ThreadStep r1.1 r1.2.1 r1.2.2).bind fun r3=>
  (if ine r2.2.2.2 r3.2.2.2=true then some true else(l_sameThread r2.1 r3.1).bind fun r4=>some (bnot r4)).bind fun g5=>
  (if g5=true then some true else(l_sameBoxes r2.2.1 r3.2.1).bind fun r6=>some (bnot r6)).bind fun g7=>
  (if g7=true then some true else(l_sameInts r2.2.2.1 r3.2.2.1).bind fun r8=>some (bnot r8)).bind fun g9=>
  if g9=true then
   some false
  else
   (if ieq r2.2.2.2 0=true then some true else(idx r1.1 r1.2.1.Pc).bind fun v10=>(if ine v10.Op 4=true then some (ine v10.Op 5) else some false).bind fun g11=>some g11).bind fun g12=>
   if g12=true then
    some true
   else
    (idx r1.1 r1.2.1.Pc).bind fun v13=>
    (if ieq v13.Op 4=true then some true else(idx r1.2.1.Regs v13.A).bind fun v14=>some (ieq v14 0)).bind fun g15=>
    (if ieq r2.2.2.2 1=true then(if g15=true then some (ieq r2.1.Pc v13.N) else some false).bind fun g16=>(if g16=true then some true else(if bnot g15=true then some (ieq r2.1.Pc (iadd .i64 r1.2.1.Pc 1)) else some false).bind fun g17=>some g17).bind fun g18=>some g18 else some false).bind fun g19=>
    (if g19=true then(l_sameInts r2.1.Regs r1.2.1.Regs).bind fun r20=>some r20 else some false).bind fun g21=>
    (if g21=true then(l_sameBoxes r2.2.1 r1.2.2).bind fun r22=>some r22 else some false).bind fun g23=>
    some g23


end Go.Abs
