/- Words of the proof: UNNextStep. No conditions. -/
import Derived.Test.YtdnkfkfjaaedpaaGreatNUM
set_option linter.unusedSimpArgs false
set_option linter.unusedVariables false
set_option maxRecDepth 20000
set_option maxHeartbeats 4000000
namespace Go.Abs
open Go

noncomputable def i_nextOf (p0:gQuad) (p1:Int):Option ((List Int)):=
 if ieq p0.Op 10=true then
  some ([]:List Int)
 else
  if ieq p0.Op 4=true then
   some ([p0.N]:List Int)
  else
   (if ieq p0.Op 5=true then some (ilt p0.N (iadd .i64 p1 1)) else some false).bind fun g1=>
   if g1=true then
    some ([p0.N,iadd .i64 p1 1]:List Int)
   else
    (if ieq p0.Op 5=true then some (igt p0.N (iadd .i64 p1 1)) else some false).bind fun g2=>
    if g2=true then
     some ([iadd .i64 p1 1,p0.N]:List Int)
    else
     some ([iadd .i64 p1 1]:List Int)

noncomputable def i_CodeNext (p0:(List gQuad)) (p1:Int):Option ((List Int)):=
 (i_CodeValid p0).bind fun r1=>
 (if bnot r1=true then some true else some (ilt p1 0)).bind fun g2=>
 (if g2=true then some true else some (ige p1 (ilen p0))).bind fun g3=>
 if g3=true then
  some ([]:List Int)
 else
  (idx p0 p1).bind fun v4=>
  (i_nextOf v4 p1).bind fun r5=>
  some r5

noncomputable def l_hasInt_L1 (p0:(List Int)) (p1:Int) (s:Int):Option (Flow (Int) (Sum (Unit) (Bool))):=
 let s1:=s
 if ilt s1 (ilen p0)=true then
  (idx p0 s1).bind fun v2=>
  if ieq v2 p1=true then
   some (.done (.inr true))
  else
   some (.next (iadd .i64 s1 1))
 else
  some (.done (.inl ()))

noncomputable def l_hasInt (p0:(List Int)) (p1:Int):Option (Bool):=
 (loopM (l_hasInt_L1 p0 p1) 0).bind fun e1=>
 match e1 with
 |.inl _=>
  some false
 |.inr r0=>
  some r0

noncomputable def l_FnNextStep (p0:(List Int)):Option (Bool):=
 if igt (ilen p0) 1048576=true then
  some true
 else
  (s_DrawThreadStep p0).bind fun r1=>
  (i_ThreadStep r1.1 r1.2.1 r1.2.2).bind fun r2=>
  (s_ThreadStep r1.1 r1.2.1 r1.2.2).bind fun r3=>
  (if ine r2.2.2.2 r3.2.2.2=true then some true else(l_sameThread r2.1 r3.1).bind fun r4=>some (bnot r4)).bind fun g5=>
  (if g5=true then some true else(l_sameBoxes r2.2.1 r3.2.1).bind fun r6=>some (bnot r6)).bind fun g7=>
  (if g7=true then some true else(l_sameInts r2.2.2.1 r3.2.2.1).bind fun r8=>some (bnot r8)).bind fun g9=>
  if g9=true then
   some false
  else
   (if ine r2.2.2.2 1=true then some (ine r2.2.2.2 2) else some false).bind fun g10=>
   if g10=true then
    some true
   else
    (i_CodeNext r1.1 r1.2.1.Pc).bind fun r11=>
    (l_hasInt r11 r2.1.Pc).bind fun r12=>
    some r12


end Go.Abs
