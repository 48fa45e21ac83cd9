/- Words of the proof. -/
import Derived.Test.YtnaikeccpnadgaaGreatNBM
set_option linter.unusedSimpArgs false
set_option linter.unusedVariables false
set_option maxRecDepth 20000
set_option maxHeartbeats 4000000
namespace Go.Abs
open Go

noncomputable def jG (p1:List gBox)(s:Int×gOutcome×gOutcome):Option (Flow (Int×gOutcome×gOutcome) (gOutcome×gOutcome)):=
 match s with
 |(s2,s3,s4)=>
 if ilt s2 (ilen p1)=true then
  (idx p1 s2).bind fun v7=>
  (kJ v7.Items).bind fun r8=>
  (appx 24 s4.Items ([r8]:List (List Int))).bind fun l9=>
  some (.next (iadd .i64 s2 1,s3,(⟨s4.Out,l9,s4.Ended,s4.Rest⟩:gOutcome)))
 else
  some (.done (s3,s4))

noncomputable def sF (p0:List Int)(p1:List gBox)(p2:Bool):Option (gOutcome):=
 (kJ p0).bind fun r1=>
 (loopM (jG p1) (0,(⟨([]:List Int),([]:List (List Int)),([]:List Bool),false⟩:gOutcome),(⟨r1,([]:List (List Int)),([]:List Bool),p2⟩:gOutcome))).bind fun e1=>
 match e1 with
 |(y5,y6)=>
  some y6

noncomputable def jI (p0:gCrew)(s:Int×gOutcome×gOutcome):Option (Flow (Int×gOutcome×gOutcome) (gOutcome×gOutcome)):=
 match s with
 |(s3,s4,s5)=>
 if ilt s3 (ilen p0.Threads)=true then
  (idx p0.Threads s3).bind fun v8=>
  (idx p0.Codes s3).bind fun v9=>
  (idx v9 v8.Pc).bind fun v10=>
  (appx 1 s5.Ended ([ieq v10.Op 10]:List Bool)).bind fun l11=>
  some (.next (iadd .i64 s3 1,s4,(⟨s5.Out,s5.Items,l11,s5.Rest⟩:gOutcome)))
 else
  some (.done (s4,s5))

noncomputable def xJ (p0:gCrew):Option (gOutcome):=
 (wI p0).bind fun r1=>
 if bnot r1=true then
  some (⟨([]:List Int),([]:List (List Int)),([]:List Bool),false⟩:gOutcome)
 else
  (sF p0.Out p0.Boxes (ieq p0.Idle (ilen p0.Threads))).bind fun r2=>
  (loopM (jI p0) (0,(⟨([]:List Int),([]:List (List Int)),([]:List Bool),false⟩:gOutcome),r2)).bind fun e1=>
  match e1 with
  |(y6,y7)=>
   some y7

noncomputable def xQ (p0:(List (List Int)))(p1:(List (List Int)))(s:Int):Option (Flow (Int) (Sum (Unit) (Bool))):=
 let s1:=s
 if ilt s1 (ilen p0)=true then
  (idx p0 s1).bind fun v2=>
  (idx p1 s1).bind fun v3=>
  (jK v2 v3).bind fun r4=>
  if bnot r4=true then
   some (.done (.inr false))
  else
   some (.next (iadd .i64 s1 1))
 else
  some (.done (.inl ()))

noncomputable def qQ (p0:(List (List Int)))(p1:(List (List Int))):Option (Bool):=
 if ine (ilen p0) (ilen p1)=true then
  some false
 else
  (loopM (xQ p0 p1) 0).bind fun e1=>
  match e1 with
  |.inl _=>
   some true
  |.inr r0=>
   some r0

noncomputable def xR (p0:List Bool)(p1:List Bool)(s:Int):Option (Flow (Int) (Sum (Unit) (Bool))):=
 let s1:=s
 if ilt s1 (ilen p0)=true then
  (idx p0 s1).bind fun v2=>
  (idx p1 s1).bind fun v3=>
  if bneb v2 v3=true then
   some (.done (.inr false))
  else
   some (.next (iadd .i64 s1 1))
 else
  some (.done (.inl ()))

noncomputable def qR (p0:List Bool)(p1:List Bool):Option (Bool):=
 if ine (ilen p0) (ilen p1)=true then
  some false
 else
  (loopM (xR p0 p1) 0).bind fun e1=>
  match e1 with
  |.inl _=>
   some true
  |.inr r0=>
   some r0

noncomputable def vL (p0:gOutcome)(p1:gOutcome):Option (Bool):=
 (jK p0.Out p1.Out).bind fun r1=>
 (if r1=true then(qQ p0.Items p1.Items).bind fun r2=>some r2 else some false).bind fun g3=>
 (if g3=true then(qR p0.Ended p1.Ended).bind fun r4=>some r4 else some false).bind fun g5=>
 (if g5=true then some (beqb p0.Rest p1.Rest) else some false).bind fun g6=>
 some g6

noncomputable def gV (p0:List Int)(p1:(List (List gQuad)))(p2:(List (List gQuad)))(p3:Int):Option (Bool):=
 (vO p0 p1 p3).bind fun r1=>
 (xJ r1).bind fun r2=>
 if bnot r2.Rest=true then
  some (ieq (ilen r2.Ended) (ilen p1))
 else
  (vO p0 p2 p3).bind fun r3=>
  (xJ r3).bind fun r4=>
  (vL r4 r2).bind fun r5=>
  some r5

noncomputable def oB (r1:(List Int)×(List (List gQuad)))(s:Int×(List (List gQuad))):Option (Flow (Int×(List (List gQuad))) (Sum ((List (List gQuad))) (Bool))):=
 match s with
 |(s9,s10)=>
 if ilt s9 (ilen r1.2)=true then
  (idx r1.2 s9).bind fun v12=>
  (kP v12).bind fun r13=>
  if bnot r13.2=true then
   some (.done (.inr false))
  else
   (appx 24 s10 ([r13.1]:List (List gQuad))).bind fun l14=>
   some (.next (iadd .i64 s9 1,l14))
 else
  some (.done (.inl s10))

noncomputable def uP (p0:List Int):Option (Bool):=
 if igt (ilen p0) 1048576=true then
  some true
 else
  (yF p0).bind fun r1=>
  (xY r1.1 r1.2).bind fun r2=>
  (vG r1.1 r1.2).bind fun r3=>
  (if bneb r2.2 r3.2=true then some true else(kY r2.1 r3.1).bind fun r4=>some (bnot r4)).bind fun g5=>
  (if g5=true then some true else some (bnot r2.2)).bind fun g6=>
  if g6=true then
   (if beqb r2.2 r3.2=true then(kY r2.1 r3.1).bind fun r7=>some r7 else some false).bind fun g8=>
   some g8
  else
   (loopM (oB r1) (0,([]:List (List gQuad)))).bind fun e1=>
   match e1 with
   |.inl y11=>
    (gV r1.1 r1.2 y11 200).bind fun r15=>
    some r15
   |.inr r0=>
    some r0


end Go.Abs
