/- Words of the proof: UNThreadTalk. No conditions. -/
import Derived.Test.YtdnkfkfjaaedpaaGreatNUM
set_option linter.unusedSimpArgs false
set_option linter.unusedVariables false
set_option maxRecDepth 20000
set_option maxHeartbeats 4000000
namespace Go.Abs
open Go

noncomputable def i_BoxPut (p0:gBox)(p1:Int):Option (gBox×Bool):=
 (wO p0).bind fun r1=>
 (if bnot r1=true then some true else(jB p1).bind fun r2=>some (bnot r2)).bind fun g3=>
 (if g3=true then some true else some (ieq (ilen p0.Items) p0.Room)).bind fun g4=>
 if g4=true then
  some ((⟨0,([]:List Int)⟩:gBox),false)
 else
  (kC p0.Items).bind fun r5=>
  (appx 8 r5 ([p1]:List Int)).bind fun l6=>
  some ((⟨p0.Room,l6⟩:gBox),true)

noncomputable def xZ (p0:(List gBox))(p1:(List gBox))(p2:Int)(s:Int):Option (Flow (Int) (Sum (Unit) (Bool))):=
 let s1:=s
 if ilt s1 (ilen p0)=true then
  (if ine s1 p2=true then(idx p0 s1).bind fun v2=>(idx p1 s1).bind fun v3=>(l_sameBox v2 v3).bind fun r4=>some (bnot r4) else some false).bind fun g5=>
  if g5=true then
   some (.done (.inr false))
  else
   some (.next (iadd .i64 s1 1))
 else
  some (.done (.inl ()))

noncomputable def l_sameElse (p0:(List gBox))(p1:(List gBox))(p2:Int):Option (Bool):=
 if ine (ilen p0) (ilen p1)=true then
  some false
 else
  (loopM (xZ p0 p1 p2) 0).bind fun e1=>
  match e1 with
  |.inl _=>
   some true
  |.inr r0=>
   some r0

noncomputable def i_BoxTake (p0:gBox):Option (gBox×Int×Bool):=
 (wO p0).bind fun r1=>
 (if bnot r1=true then some true else some (ieq (ilen p0.Items) 0)).bind fun g2=>
 if g2=true then
  some ((⟨0,([]:List Int)⟩:gBox),0,false)
 else
  (cutx p0.Items 1 (ilen p0.Items)).bind fun l3=>
  (kG l3).bind fun r4=>
  (idx p0.Items 0).bind fun v5=>
  some ((⟨p0.Room,r4⟩:gBox),v5,true)

noncomputable def wS (p0:(List Int)):Option (Bool):=
 if igt (ilen p0) 1048576=true then
  some true
 else
  (kQ p0).bind fun r1=>
  (yJ r1.1 r1.2.1 r1.2.2).bind fun r2=>
  (kS r1.1 r1.2.1 r1.2.2).bind fun r3=>
  (if ine r2.2.2.2 r3.2.2.2=true then some true else(yH r2.1 r3.1).bind fun r4=>some (bnot r4)).bind fun g5=>
  (if g5=true then some true else(yP r2.2.1 r3.2.1).bind fun r6=>some (bnot r6)).bind fun g7=>
  (if g7=true then some true else(yC r2.2.2.1 r3.2.2.1).bind fun r8=>some (bnot r8)).bind fun g9=>
  if g9=true then
   some false
  else
   (if ine r2.2.2.2 1=true then some true else(idx r1.1 r1.2.1.Pc).bind fun v10=>(if ine v10.Op 6=true then some (ine v10.Op 7) else some false).bind fun g11=>some g11).bind fun g12=>
   if g12=true then
    some true
   else
    (idx r1.1 r1.2.1.Pc).bind fun v13=>
    if ieq v13.Op 6=true then
     (idx r1.2.2 v13.N).bind fun v14=>
     (idx r1.2.1.Regs v13.A).bind fun v15=>
     (i_BoxPut v14 v15).bind fun r16=>
     (if r16.2=true then(idx r2.2.1 v13.N).bind fun v17=>(l_sameBox v17 r16.1).bind fun r18=>some r18 else some false).bind fun g19=>
     (if g19=true then(l_sameElse r2.2.1 r1.2.2 v13.N).bind fun r20=>some r20 else some false).bind fun g21=>
     some g21
    else
     (idx r1.2.2 v13.N).bind fun v22=>
     (i_BoxTake v22).bind fun r23=>
     (if r23.2.2=true then(idx r2.2.1 v13.N).bind fun v24=>(l_sameBox v24 r23.1).bind fun r25=>some r25 else some false).bind fun g26=>
     (if g26=true then(l_sameElse r2.2.1 r1.2.2 v13.N).bind fun r27=>some r27 else some false).bind fun g28=>
     (if g28=true then(idx r2.1.Regs v13.Dst).bind fun v29=>some (ieq v29 r23.2.1) else some false).bind fun g30=>
     some g30


end Go.Abs
