/- Words of the proof: UNThreadBin. No conditions. -/
import Derived.Test.YtdnkfkfjaaedpaaGreatNUM
set_option linter.unusedSimpArgs false
set_option linter.unusedVariables false
set_option maxRecDepth 20000
set_option maxHeartbeats 4000000
namespace Go.Abs
open Go

noncomputable def i_Apply (p0:Int) (p1:Int) (p2:Int):Option (Int×Bool):=
 (i_OpValid p0).bind fun r1=>
 (if bnot r1=true then some true else(i_WordValid p1).bind fun r2=>some (bnot r2)).bind fun g3=>
 (if g3=true then some true else(i_WordValid p2).bind fun r4=>some (bnot r4)).bind fun g5=>
 if g5=true then
  some (0,false)
 else
  (i_apply p0 p1 p2).bind fun r6=>
  some (r6,true)

noncomputable def l_FnThreadBin (p0:(List Int)):Option (Bool):=
 if igt (ilen p0) 1048576=true then
  some true
 else
  (s_DrawThreadStep p0).bind fun r1=>
  (i_ThreadStep r1.1 r1.2.1 r1.2.2).bind fun r2=>
  (s_ThreadStep r1.1 r1.2.1 r1.2.2).bind fun r3=>
  (if ine r2.2.2.2 r3.2.2.2=true then some true else(l_sameThread r2.1 r3.1).bind fun r4=>some (bnot r4)).bind fun g5=>
  (if g5=true then some true else(l_sameBoxes r2.2.1 r3.2.1).bind fun r6=>some (bnot r6)).bind fun g7=>
  (if g7=true then some true else(l_sameInts r2.2.2.1 r3.2.2.1).bind fun r8=>some (bnot r8)).bind fun g9=>
  if g9=true then
   some false
  else
   (if ieq r2.2.2.2 0=true then some true else(idx r1.1 r1.2.1.Pc).bind fun v10=>some (ine v10.Op 3)).bind fun g11=>
   if g11=true then
    some true
   else
    (idx r1.1 r1.2.1.Pc).bind fun v12=>
    (idx r1.2.1.Regs v12.A).bind fun v13=>
    (idx r1.2.1.Regs v12.B).bind fun v14=>
    (i_Apply v12.N v13 v14).bind fun r15=>
    (if r15.2=true then some (ieq r2.2.2.2 1) else some false).bind fun g16=>
    (if g16=true then(idx r2.1.Regs v12.Dst).bind fun v17=>some (ieq v17 r15.1) else some false).bind fun g18=>
    (if g18=true then some (ieq r2.1.Pc (iadd .i64 r1.2.1.Pc 1)) else some false).bind fun g19=>
    some g19


end Go.Abs
