/- Words of the proof: UNUsesStep. No conditions. -/
import Derived.Test.YtdnkfkfjaaedpaaGreatNUM
set_option linter.unusedSimpArgs false
set_option linter.unusedVariables false
set_option maxRecDepth 20000
set_option maxHeartbeats 4000000
namespace Go.Abs
open Go

noncomputable def l_hasInt_L1 (p0:(List Int))(p1:Int)(s:Int):Option (Flow (Int) (Sum (Unit) (Bool))):=
 let s1:=s
 if ilt s1 (ilen p0)=true then
  (idx p0 s1).bind fun v2=>
  if ieq v2 p1=true then
   some (.done (.inr true))
  else
   some (.next (iadd .i64 s1 1))
 else
  some (.done (.inl ()))

noncomputable def l_hasInt (p0:(List Int))(p1:Int):Option (Bool):=
 (loopM (l_hasInt_L1 p0 p1) 0).bind fun e1=>
 match e1 with
 |.inl _=>
  some false
 |.inr r0=>
  some r0

noncomputable def i_usesOf (p0:gQuad):Option (Int):=
 (if ieq p0.Op 2=true then
  some (ieq p0.Op 2)
 else
  if ieq p0.Op 5=true then
   some (ieq p0.Op 5)
  else
   if ieq p0.Op 6=true then
    some (ieq p0.Op 6)
   else
    some (ieq p0.Op 9)).bind fun j1=>
 if j1=true then
  (shlx .u16 1 p0.A).bind fun v2=>
  some v2
 else
  if ieq p0.Op 3=true then
   (shlx .u16 1 p0.A).bind fun v3=>
   (shlx .u16 1 p0.B).bind fun v4=>
   some (ior .u16 v3 v4)
  else
   some 0

noncomputable def yI (p0:Int)(p1:Int):Option (Bool):=
 (shrx .u16 p0 p1).bind fun v1=>
 some (ieq (iand .u16 v1 1) 1)

noncomputable def jU (p0:Int)(s:Int×(List Int)):Option (Flow (Int×(List Int)) ((List Int))):=
 match s with
 |(s1,s2)=>
 if ilt s1 12=true then
  (yI p0 s1).bind fun r4=>
  if r4=true then
   (appx 8 s2 ([s1]:List Int)).bind fun l5=>
   some (.next (iadd .i64 s1 1,l5))
  else
   some (.next (iadd .i64 s1 1,s2))
 else
  some (.done s2)

noncomputable def yR (p0:Int):Option ((List Int)):=
 (loopM (jU p0) (0,([]:List Int))).bind fun e1=>
 match e1 with
 |y3=>
  some y3

noncomputable def i_QuadUses (p0:gQuad):Option ((List Int)):=
 (jY p0 600).bind fun r1=>
 if bnot r1=true then
  some ([]:List Int)
 else
  (i_usesOf p0).bind fun r2=>
  (yR r2).bind fun r3=>
  some r3

noncomputable def jC (p0:(List gQuad))(p1:gThread)(p2:(List gBox)):Option (gThread×(List gBox)×(List Int)×Int):=
 (wF p1 p0).bind fun r1=>
 (if bnot r1=true then some true else(xE p2).bind fun r2=>some (bnot r2)).bind fun g3=>
 (if g3=true then some true else(idx p0 p1.Pc).bind fun v4=>(i_boxThere v4 (ilen p2)).bind fun r5=>some (bnot r5)).bind fun g6=>
 if g6=true then
  some ((⟨([]:List Int),0⟩:gThread),([]:List gBox),([]:List Int),0)
 else
  (kC p1.Regs).bind fun r7=>
  (jQ p2).bind fun r8=>
  (jK (⟨r7,p1.Pc⟩:gThread) p0 r8 ([]:List Int)).bind fun r9=>
  some (r9.2.1,r9.2.2.1,r9.2.2.2,r9.1)

noncomputable def i_setsOf (p0:gQuad):Option (Int):=
 (if ieq p0.Op 1=true then
  some (ieq p0.Op 1)
 else
  if ieq p0.Op 2=true then
   some (ieq p0.Op 2)
  else
   if ieq p0.Op 3=true then
    some (ieq p0.Op 3)
   else
    some (ieq p0.Op 7)).bind fun j1=>
 if j1=true then
  some p0.Dst
 else
  some (-1)

noncomputable def i_QuadSets (p0:gQuad):Option (Int):=
 (jY p0 600).bind fun r1=>
 if bnot r1=true then
  some (-1)
 else
  (i_setsOf p0).bind fun r2=>
  some r2

noncomputable def wA (s:Int×gThread×gQuad×gThread):Option (Flow (Int×gThread×gQuad×gThread) (gThread×gQuad×gThread)):=
 match s with
 |(s12,s13,s14,s15)=>
 if ilt s12 12=true then
  (i_QuadUses s14).bind fun r19=>
  (l_hasInt r19 s12).bind fun r20=>
  if bnot r20=true then
   (idx s15.Regs s12).bind fun v21=>
   (setx s15.Regs s12 99).bind fun l22=>
   some (.next (iadd .i64 s12 1,s13,s14,(⟨l22,s15.Pc⟩:gThread)))
  else
   some (.next (iadd .i64 s12 1,s13,s14,s15))
 else
  some (.done (s13,s14,s15))

noncomputable def l_FnUsesStep (p0:(List Int)):Option (Bool):=
 if igt (ilen p0) 1048576=true then
  some true
 else
  (kQ p0).bind fun r1=>
  (yJ r1.1 r1.2.1 r1.2.2).bind fun r2=>
  (kS r1.1 r1.2.1 r1.2.2).bind fun r3=>
  (if ine r2.2.2.2 r3.2.2.2=true then some true else(yH r2.1 r3.1).bind fun r4=>some (bnot r4)).bind fun g5=>
  (if g5=true then some true else(yP r2.2.1 r3.2.1).bind fun r6=>some (bnot r6)).bind fun g7=>
  (if g7=true then some true else(yC r2.2.2.1 r3.2.2.1).bind fun r8=>some (bnot r8)).bind fun g9=>
  if g9=true then
   some false
  else
   if ieq r2.2.2.2 0=true then
    some true
   else
    (idx r1.1 r1.2.1.Pc).bind fun v10=>
    (appx 8 ([]:List Int) r1.2.1.Regs).bind fun l11=>
    (loopM (wA) (0,r2.1,v10,(⟨l11,r1.2.1.Pc⟩:gThread))).bind fun e1=>
    match e1 with
    |(y16,y17,y18)=>
     (jC r1.1 y18 r1.2.2).bind fun r23=>
     (i_QuadSets y17).bind fun r24=>
     (if ieq r23.2.2.2 r2.2.2.2=true then(yP r23.2.1 r2.2.1).bind fun r31=>some r31 else some false).bind fun g32=>
     (if g32=true then(yC r23.2.2.1 r2.2.2.1).bind fun r33=>some r33 else some false).bind fun g34=>
     (if g34=true then some (ieq r23.1.Pc y16.Pc) else some false).bind fun g35=>
     (if g35=true then(if ilt r24 0=true then some true else some (ine r2.2.2.2 1)).bind fun g36=>(if g36=true then some true else(idx r23.1.Regs r24).bind fun v37=>(idx y16.Regs r24).bind fun v38=>some (ieq v37 v38)).bind fun g39=>some g39 else some false).bind fun g40=>
     some g40


end Go.Abs
