/- Words of the proof. -/
import Derived.Test.YtnaikeccpnadgaaGreatNBR0
set_option linter.unusedSimpArgs false
set_option linter.unusedVariables false
set_option maxRecDepth 20000
set_option maxHeartbeats 4000000
namespace Go.Abs
open Go

noncomputable section
def nC (p0:List Int):Option (gL6Rd):=
 if igt (ilen p0) 2000=true then
  (cutx p0 0 2000).bind fun l1=>
  some (⟨l1,0⟩:gL6Rd)
 else
  some (⟨p0,0⟩:gL6Rd)

def zJ (p0:gL6Rd)(p1:Int):Option (Int×gL6Rd):=
 (if ilt p1 1=true then some true else some (ieq (ilen p0.b) 0)).bind fun g1=>
 if g1=true then
  some (0,(⟨p0.b,iadd .i64 p0.p 1⟩:gL6Rd))
 else
  if ilt (isub .i64 (iadd .i64 p0.p 1) 1) (ilen p0.b)=true then
   (idx p0.b (isub .i64 (iadd .i64 p0.p 1) 1)).bind fun v2=>
   (remx (iconv .i64 v2) p1).bind fun v3=>
   some (v3,(⟨p0.b,iadd .i64 p0.p 1⟩:gL6Rd))
  else
   (remx (isub .i64 (iadd .i64 p0.p 1) 1) (ilen p0.b)).bind fun v4=>
   (idx p0.b v4).bind fun v5=>
   (remx (iadd .i64 (imul .i64 (isub .i64 (iadd .i64 p0.p 1) 1) 7) 3) (ilen p0.b)).bind fun v6=>
   (idx p0.b v6).bind fun v7=>
   (quox .i64 (isub .i64 (iadd .i64 p0.p 1) 1) (ilen p0.b)).bind fun v8=>
   (quox .i64 (iadd .i64 (iadd .i64 (iadd .i64 (imul .i64 (iconv .i64 v5) 131) (imul .i64 (iconv .i64 v7) 1117)) (imul .i64 (isub .i64 (iadd .i64 p0.p 1) 1) 29)) (imul .i64 v8 53)) 64).bind fun v9=>
   (remx (ixor .i64 (iadd .i64 (iadd .i64 (iadd .i64 (imul .i64 (iconv .i64 v5) 131) (imul .i64 (iconv .i64 v7) 1117)) (imul .i64 (isub .i64 (iadd .i64 p0.p 1) 1) 29)) (imul .i64 v8 53)) v9) p1).bind fun v10=>
   some (v10,(⟨p0.b,iadd .i64 p0.p 1⟩:gL6Rd))

def jO (p0:gL6Rd):Option (Int×gL6Rd):=
 (zJ p0 6).bind fun r1=>
 some (r1.1,r1.2)

def pJ (p0:Int):Option (Int):=
 (remx p0 4294967296).bind fun v1=>
 if igt v1 2147483647=true then
  some (isub .i64 v1 4294967296)
 else
  if ilt v1 (-2147483648)=true then
   some (iadd .i64 v1 4294967296)
  else
   some v1

def mW (p0:gL6Rd):Option (Int×gL6Rd):=
 (zJ p0 6).bind fun r1=>
 if ieq r1.1 0=true then
  (zJ r1.2 8).bind fun r2=>
  (idx ([-2147483648,2147483647,-1,0,1,-2147483647,65536,-65536]:List Int) r2.1).bind fun v3=>
  some (v3,r2.2)
 else
  if ieq r1.1 1=true then
   (zJ r1.2 256).bind fun r4=>
   (zJ r4.2 256).bind fun r5=>
   (zJ r5.2 256).bind fun r6=>
   (zJ r6.2 200).bind fun r7=>
   (pJ (imul .i64 (iadd .i64 (iadd .i64 (imul .i64 r4.1 65536) (imul .i64 r5.1 256)) r6.1) (iadd .i64 1 r7.1))).bind fun r8=>
   some (r8,r7.2)
  else
   if ieq r1.1 2=true then
    (zJ r1.2 200).bind fun r9=>
    some (isub .i64 0 r9.1,r9.2)
   else
    (zJ r1.2 20).bind fun r10=>
    some (r10.1,r10.2)

def s_l91Op (p0:gL6Rd):Option (Int×gL6Rd):=
 (zJ p0 12).bind fun r1=>
 some (iadd .i64 1 r1.1,r1.2)

def mR (p0:gL6Rd)(p1:Int):Option (gQuad×gL6Rd):=
 (zJ p0 12).bind fun r1=>
 (if ieq r1.1 0=true then
  some (ieq r1.1 0)
 else
  some (ieq r1.1 1)).bind fun j1=>
 if j1=true then
  (jO r1.2).bind fun r3=>
  (mW r3.2).bind fun r4=>
  (zJ r4.2 4).bind fun r5=>
  (idx ([0,1,2,r4.1]:List Int) r5.1).bind fun v6=>
  some ((⟨1,r3.1,0,0,v6⟩:gQuad),r5.2)
 else
  (if ieq r1.1 2=true then
   some (ieq r1.1 2)
  else
   some (ieq r1.1 3)).bind fun j2=>
  if j2=true then
   (jO r1.2).bind fun r8=>
   (jO r8.2).bind fun r9=>
   some ((⟨2,r8.1,r9.1,0,0⟩:gQuad),r9.2)
  else
   (if ieq r1.1 4=true then
    some (ieq r1.1 4)
   else
    if ieq r1.1 5=true then
     some (ieq r1.1 5)
    else
     some (ieq r1.1 6)).bind fun j3=>
   if j3=true then
    (jO r1.2).bind fun r11=>
    (jO r11.2).bind fun r12=>
    (jO r12.2).bind fun r13=>
    (s_l91Op r13.2).bind fun r14=>
    some ((⟨3,r11.1,r12.1,r13.1,r14.1⟩:gQuad),r14.2)
   else
    if ieq r1.1 7=true then
     (zJ r1.2 p1).bind fun r15=>
     some ((⟨4,0,0,0,r15.1⟩:gQuad),r15.2)
    else
     if ieq r1.1 8=true then
      (jO r1.2).bind fun r16=>
      (zJ r16.2 p1).bind fun r17=>
      some ((⟨5,0,r16.1,0,r17.1⟩:gQuad),r17.2)
     else
      if ieq r1.1 9=true then
       (jO r1.2).bind fun r18=>
       (zJ r18.2 2).bind fun r19=>
       some ((⟨6,0,r18.1,0,r19.1⟩:gQuad),r19.2)
      else
       if ieq r1.1 10=true then
        (jO r1.2).bind fun r20=>
        (zJ r20.2 2).bind fun r21=>
        some ((⟨7,r20.1,0,0,r21.1⟩:gQuad),r21.2)
       else
        (zJ r1.2 4).bind fun r22=>
        if ieq r22.1 0=true then
         some ((⟨8,0,0,0,0⟩:gQuad),r22.2)
        else
         (jO r22.2).bind fun r23=>
         some ((⟨9,0,r23.1,0,0⟩:gQuad),r23.2)

def pQ (r1:Int×gL6Rd)(s:Int×gL6Rd×(List gQuad)):Option (Flow (Int×gL6Rd×(List gQuad)) (gL6Rd×(List gQuad))):=
 match s with
 |(s2,s3,s4)=>
 if ilt (iadd .i64 s2 1) (iadd .i64 1 r1.1)=true then
  (mR s3 (iadd .i64 1 r1.1)).bind fun r7=>
  (appx 40 s4 ([r7.1]:List gQuad)).bind fun l8=>
  some (.next (iadd .i64 s2 1,r7.2,l8))
 else
  some (.done (s3,s4))

def uD (p0:gL6Rd):Option ((List gQuad)×gL6Rd):=
 (zJ p0 14).bind fun r1=>
 (loopM (pQ r1) (0,r1.2,([]:List gQuad))).bind fun e1=>
 match e1 with
 |(y5,y6)=>
  (zJ y5 3).bind fun r9=>
  if ieq r9.1 0=true then
   (zJ r9.2 (iadd .i64 1 r1.1)).bind fun r10=>
   (appx 40 y6 ([(⟨4,0,0,0,r10.1⟩:gQuad)]:List gQuad)).bind fun l11=>
   some (l11,r10.2)
  else
   (appx 40 y6 ([(⟨10,0,0,0,0⟩:gQuad)]:List gQuad)).bind fun l12=>
   some (l12,r9.2)

def wS (p0:Int)(p1:Int):Option (gExpr):=
 some (⟨p0,p1,([]:List gExpr)⟩:gExpr)

def mX (p0:gL6Rd):Option (gExpr×gL6Rd):=
 (zJ p0 4).bind fun r1=>
 if ieq r1.1 0=true then
  (zJ r1.2 4).bind fun r2=>
  (wS 0 r2.1).bind fun r3=>
  some (r3,r2.2)
 else
  if ieq r1.1 1=true then
   (zJ r1.2 8).bind fun r4=>
   (idx ([5,31,32,100,2047,2048,65536,99999]:List Int) r4.1).bind fun v5=>
   (wS 0 v5).bind fun r6=>
   some (r6,r4.2)
  else
   (zJ r1.2 4).bind fun r7=>
   (wS 13 r7.1).bind fun r8=>
   some (r8,r7.2)

def oO (p0:Int)(p1:gExpr)(p2:gExpr):Option (gExpr):=
 some (⟨p0,0,([p1,p2]:List gExpr)⟩:gExpr)

def sT (Fr1:gL6Rd->Int->Option (gExpr×gL6Rd))(p0:gL6Rd)(p1:Int):Option (gExpr×gL6Rd):=
 (if ilt p1 2=true then some (true,p0) else(zJ p0 3).bind fun r1=>some (ieq r1.1 0,r1.2)).bind fun g2=>
 if g2.1=true then
  (mX g2.2).bind fun r3=>
  some (r3.1,r3.2)
 else
  (s_l91Op g2.2).bind fun r4=>
  (Fr1 r4.2 (isub .i64 p1 1)).bind fun r5=>
  (Fr1 r5.2 (isub .i64 p1 1)).bind fun r6=>
  (oO r4.1 r5.1 r6.1).bind fun r7=>
  some (r7,r6.2)

def sS:Nat->gL6Rd->Int->Option (gExpr×gL6Rd)
 |0=>fun _ _=>none
 |n+1=>sT (sS n)

def uW (p0:gL6Rd)(p1:Int):Option (gExpr×gL6Rd):=recF fun n=>(sS n) p0 p1

def fM (p0:gL6Rd):Option (gStmt×gL6Rd):=
 (zJ p0 3).bind fun r1=>
 (zJ r1.2 3).bind fun r2=>
 (uW r2.2 (iadd .i64 1 r2.1)).bind fun r3=>
 some ((⟨1,r1.1,0,r3.1,([]:List gStmt),([]:List gStmt)⟩:gStmt),r3.2)

def mT (p0:gL6Rd)(p1:Int):Option (gStmt×gL6Rd):=
 if ilt p1 1=true then
  (fM p0).bind fun r1=>
  some (r1.1,r1.2)
 else
  (zJ p0 p1).bind fun r2=>
  (zJ r2.2 2).bind fun r3=>
  if ieq r3.1 0=true then
   (zJ r3.2 3).bind fun r4=>
   (uW r4.2 (iadd .i64 1 r4.1)).bind fun r5=>
   some ((⟨4,0,r2.1,r5.1,([]:List gStmt),([]:List gStmt)⟩:gStmt),r5.2)
  else
   (zJ r3.2 3).bind fun r6=>
   some ((⟨5,r6.1,r2.1,(⟨0,0,([]:List gExpr)⟩:gExpr),([]:List gStmt),([]:List gStmt)⟩:gStmt),r6.2)

def tX (p1:Int)(p2:Int)(p3:Int)(p4:Bool)(Fr4:gL6Rd->Int->Int->Bool->Option ((List gStmt)×gL6Rd))(s:Int×gL6Rd×(List gStmt)):Option (Flow (Int×gL6Rd×(List gStmt)) (gL6Rd×(List gStmt))):=
 match s with
 |(s1,s2,s3)=>
 if ilt s1 p3=true then
  (Fr4 s2 p1 p2 p4).bind fun r6=>
  (appx 112 s3 r6.1).bind fun l7=>
  some (.next (iadd .i64 s1 1,r6.2,l7))
 else
  some (.done (s2,s3))

def uV (Fr2:gL6Rd->Int->Int->Int->Bool->Option ((List gStmt)×gL6Rd))(Fr3:gL6Rd->Int->Int->Bool->Option (gStmt×gL6Rd))(Fr5:gL6Rd->Int->Int->Int->Bool->Option ((List gStmt)×gL6Rd))(Fr6:gL6Rd->Int->Int->Option ((List gStmt)×gL6Rd))(Fr4:gL6Rd->Int->Int->Bool->Option ((List gStmt)×gL6Rd))(p0:gL6Rd)(p1:Int)(p2:Int)(p3:Int)(p4:Bool):Option ((List gStmt)×gL6Rd):=
 (loopM (tX p1 p2 p3 p4 Fr4) (0,p0,([]:List gStmt))).bind fun e1=>
 match e1 with
 |(y4,y5)=>
  some (y5,y4)

def mU (Fr2:gL6Rd->Int->Int->Int->Bool->Option ((List gStmt)×gL6Rd))(Fr3:gL6Rd->Int->Int->Bool->Option (gStmt×gL6Rd))(Fr5:gL6Rd->Int->Int->Int->Bool->Option ((List gStmt)×gL6Rd))(Fr6:gL6Rd->Int->Int->Option ((List gStmt)×gL6Rd))(Fr4:gL6Rd->Int->Int->Bool->Option ((List gStmt)×gL6Rd))(p0:gL6Rd)(p1:Int)(p2:Int)(p3:Bool):Option (gStmt×gL6Rd):=
 (zJ p0 2).bind fun r1=>
 (uW r1.2 (iadd .i64 1 r1.1)).bind fun r2=>
 (zJ r2.2 3).bind fun r3=>
 (Fr2 r3.2 p1 (isub .i64 p2 1) r3.1 p3).bind fun r4=>
 (zJ r4.2 3).bind fun r5=>
 (Fr2 r5.2 p1 (isub .i64 p2 1) r5.1 p3).bind fun r6=>
 some ((⟨2,0,0,r2.1,r4.1,r6.1⟩:gStmt),r6.2)

def mV (p1:Int)(p2:Int)(p3:Int)(p4:Bool)(Fr4:gL6Rd->Int->Int->Bool->Option ((List gStmt)×gL6Rd))(s:Int×gL6Rd×(List gStmt)):Option (Flow (Int×gL6Rd×(List gStmt)) (gL6Rd×(List gStmt))):=
 match s with
 |(s1,s2,s3)=>
 if ilt s1 p3=true then
  (Fr4 s2 p1 p2 p4).bind fun r6=>
  (appx 112 s3 r6.1).bind fun l7=>
  some (.next (iadd .i64 s1 1,r6.2,l7))
 else
  some (.done (s2,s3))

def xL (Fr2:gL6Rd->Int->Int->Int->Bool->Option ((List gStmt)×gL6Rd))(Fr3:gL6Rd->Int->Int->Bool->Option (gStmt×gL6Rd))(Fr5:gL6Rd->Int->Int->Int->Bool->Option ((List gStmt)×gL6Rd))(Fr6:gL6Rd->Int->Int->Option ((List gStmt)×gL6Rd))(Fr4:gL6Rd->Int->Int->Bool->Option ((List gStmt)×gL6Rd))(p0:gL6Rd)(p1:Int)(p2:Int)(p3:Int)(p4:Bool):Option ((List gStmt)×gL6Rd):=
 (loopM (mV p1 p2 p3 p4 Fr4) (0,p0,([]:List gStmt))).bind fun e1=>
 match e1 with
 |(y4,y5)=>
  some (y5,y4)

def sR (Fr2:gL6Rd->Int->Int->Int->Bool->Option ((List gStmt)×gL6Rd))(Fr3:gL6Rd->Int->Int->Bool->Option (gStmt×gL6Rd))(Fr5:gL6Rd->Int->Int->Int->Bool->Option ((List gStmt)×gL6Rd))(Fr6:gL6Rd->Int->Int->Option ((List gStmt)×gL6Rd))(Fr4:gL6Rd->Int->Int->Bool->Option ((List gStmt)×gL6Rd))(p0:gL6Rd)(p1:Int)(p2:Int):Option ((List gStmt)×gL6Rd):=
 (zJ p0 3).bind fun r1=>
 (Fr5 r1.2 p1 (isub .i64 p2 1) r1.1 false).bind fun r2=>
 (wS 13 3).bind fun r3=>
 (wS 0 1).bind fun r4=>
 (oO 8 r3 r4).bind fun r5=>
 (zJ r2.2 3).bind fun r6=>
 (wS 0 (iadd .i64 1 r6.1)).bind fun r7=>
 (oO 5 r3 r7).bind fun r8=>
 (appx 112 r2.1 ([(⟨1,3,0,r5,([]:List gStmt),([]:List gStmt)⟩:gStmt)]:List gStmt)).bind fun l9=>
 (wS 0 0).bind fun r12=>
 some (([(⟨1,3,0,r12,([]:List gStmt),([]:List gStmt)⟩:gStmt),(⟨3,0,0,r8,l9,([]:List gStmt)⟩:gStmt)]:List gStmt),r6.2)

def sQ (Fr2:gL6Rd->Int->Int->Int->Bool->Option ((List gStmt)×gL6Rd))(Fr3:gL6Rd->Int->Int->Bool->Option (gStmt×gL6Rd))(Fr5:gL6Rd->Int->Int->Int->Bool->Option ((List gStmt)×gL6Rd))(Fr6:gL6Rd->Int->Int->Option ((List gStmt)×gL6Rd))(Fr4:gL6Rd->Int->Int->Bool->Option ((List gStmt)×gL6Rd))(p0:gL6Rd)(p1:Int)(p2:Int)(p3:Bool):Option ((List gStmt)×gL6Rd):=
 ((zJ p0 10).bind fun r4=>
 (if ieq r4.1 0=true then
  some (ieq r4.1 0)
 else
  some (ieq r4.1 1)).bind fun j2=>
 if j2=true then
  (fM r4.2).bind fun r6=>
  (some (([r6.1]:List gStmt),r6.2)).bind fun z=>some (Flow.done z)
 else
  if ieq r4.1 2=true then
   if igt p2 0=true then
    (Fr3 r4.2 p1 p2 p3).bind fun r7=>
    (some (([r7.1]:List gStmt),r7.2)).bind fun z=>some (Flow.done z)
   else
    some (Flow.next r4.2)
  else
   if ieq r4.1 3=true then
    (if igt p2 0=true then some p3 else some false).bind fun g8=>
    if g8=true then
     (Fr6 r4.2 p1 p2).bind fun r9=>
     (some (r9.1,r9.2)).bind fun z=>some (Flow.done z)
    else
     some (Flow.next r4.2)
   else
    (if ieq r4.1 4=true then
     some (ieq r4.1 4)
    else
     if ieq r4.1 5=true then
      some (ieq r4.1 5)
     else
      some (ieq r4.1 6)).bind fun j3=>
    if j3=true then
     (mT r4.2 p1).bind fun r11=>
     (some (([r11.1]:List gStmt),r11.2)).bind fun z=>some (Flow.done z)
    else
     if ieq r4.1 7=true then
      (some (([(⟨6,0,0,(⟨0,0,([]:List gExpr)⟩:gExpr),([]:List gStmt),([]:List gStmt)⟩:gStmt)]:List gStmt),r4.2)).bind fun z=>some (Flow.done z)
     else
      some (Flow.next r4.2)).bind fun flj1=>
 match flj1 with
 |.next j1=>
  (zJ j1 3).bind fun r2=>
  (uW r2.2 (iadd .i64 1 r2.1)).bind fun r3=>
  some (([(⟨7,0,0,r3.1,([]:List gStmt),([]:List gStmt)⟩:gStmt)]:List gStmt),r3.2)
 |.done z=>some z

def zD:Nat->(gL6Rd->Int->Int->Int->Bool->Option ((List gStmt)×gL6Rd))×(gL6Rd->Int->Int->Bool->Option (gStmt×gL6Rd))×(gL6Rd->Int->Int->Int->Bool->Option ((List gStmt)×gL6Rd))×(gL6Rd->Int->Int->Option ((List gStmt)×gL6Rd))×(gL6Rd->Int->Int->Bool->Option ((List gStmt)×gL6Rd))
 |0=>(fun _ _ _ _ _=>none,fun _ _ _ _=>none,fun _ _ _ _ _=>none,fun _ _ _=>none,fun _ _ _ _=>none)
 |n+1=>(uV ((zD n).1) ((zD n).2.1) ((zD n).2.2.1) ((zD n).2.2.2.1) ((zD n).2.2.2.2),mU ((zD n).1) ((zD n).2.1) ((zD n).2.2.1) ((zD n).2.2.2.1) ((zD n).2.2.2.2),xL ((zD n).1) ((zD n).2.1) ((zD n).2.2.1) ((zD n).2.2.2.1) ((zD n).2.2.2.2),sR ((zD n).1) ((zD n).2.1) ((zD n).2.2.1) ((zD n).2.2.2.1) ((zD n).2.2.2.2),sQ ((zD n).1) ((zD n).2.1) ((zD n).2.2.1) ((zD n).2.2.2.1) ((zD n).2.2.2.2))

def s_l92Block (p0:gL6Rd)(p1:Int)(p2:Int)(p3:Int)(p4:Bool):Option ((List gStmt)×gL6Rd):=recF fun n=>(zD n).1 p0 p1 p2 p3 p4

def tY (p0:List gStmt)(Fr7:(List gStmt)->Option (Int))(s:Int×Int):Option (Flow (Int×Int) (Int)):=
 match s with
 |(s1,s2)=>
 if ilt s2 (ilen p0)=true then
  (idx p0 s2).bind fun v4=>
  (Fr7 v4.Body).bind fun r5=>
  (Fr7 v4.Else).bind fun r6=>
  some (.next (iadd .i64 (iadd .i64 (iadd .i64 s1 1) r5) r6,iadd .i64 s2 1))
 else
  some (.done s1)

def jS (Fr7:(List gStmt)->Option (Int))(p0:List gStmt):Option (Int):=
 (loopM (tY p0 Fr7) (0,0)).bind fun e1=>
 match e1 with
 |y3=>
  some y3

def yH:Nat->(List gStmt)->Option (Int)
 |0=>fun _=>none
 |n+1=>jS (yH n)

def xG (p0:List gStmt):Option (Int):=recF fun n=>(yH n) p0

def oM (s:(List gStmt)×gL6Rd):Option (Flow ((List gStmt)×gL6Rd) ((List gStmt)×gL6Rd)):=
 match s with
 |(s3,s4)=>
 (xG s3).bind fun r7=>
 if igt r7 16=true then
  (cutx s3 0 (isub .i64 (ilen s3) 1)).bind fun l8=>
  some (.next (l8,s4))
 else
  some (.done (s3,s4))

def nB (p0:gL6Rd)(p1:Int):Option ((List gStmt)×gL6Rd):=
 (zJ p0 6).bind fun r1=>
 (s_l92Block r1.2 p1 3 (iadd .i64 1 r1.1) true).bind fun r2=>
 (loopM (oM) (r2.1,r2.2)).bind fun e1=>
 match e1 with
 |(y5,y6)=>
  some (y5,y6)

def yK (p0:Int)(p1:Int)(p2:Int):Option (Bool):=
 (if ige p0 p1=true then some (ile p0 p2) else some false).bind fun g1=>
 some g1

def yX (p0:gStmt)(p1:Bool):Option (Bool):=
 if p1=true then
  (yK p0.Var 0 3).bind fun r1=>
  some r1
 else
  some (ieq p0.Var 0)

def yY (p0:gStmt)(p1:Bool):Option (Bool):=
 if p1=true then
  (yK p0.Box 0 2).bind fun r1=>
  some r1
 else
  some (ieq p0.Box 0)

def vF (p0:Int):Option (Bool):=
 (yK p0 1 12).bind fun r1=>
 some r1

def cC (Fr8:gExpr->Int->Option (Bool))(p0:gExpr)(p1:Int):Option (Bool):=
 if ilt p1 1=true then
  some false
 else
  if ieq p0.Op 0=true then
   (yK p0.N 0 99999).bind fun r1=>
   (if r1=true then some (ieq (ilen p0.Args) 0) else some false).bind fun g2=>
   some g2
  else
   if ieq p0.Op 13=true then
    (yK p0.N 0 3).bind fun r3=>
    (if r3=true then some (ieq (ilen p0.Args) 0) else some false).bind fun g4=>
    some g4
   else
    (vF p0.Op).bind fun r5=>
    (if r5=true then some (ieq p0.N 0) else some false).bind fun g6=>
    (if g6=true then some (ieq (ilen p0.Args) 2) else some false).bind fun g7=>
    (if g7=true then(idx p0.Args 0).bind fun v8=>(Fr8 v8 (isub .i64 p1 1)).bind fun r9=>some r9 else some false).bind fun g10=>
    (if g10=true then(idx p0.Args 1).bind fun v11=>(Fr8 v11 (isub .i64 p1 1)).bind fun r12=>some r12 else some false).bind fun g13=>
    some g13

def fN:Nat->gExpr->Int->Option (Bool)
 |0=>fun _ _=>none
 |n+1=>cC (fN n)

def s_l4Ok (p0:gExpr)(p1:Int):Option (Bool):=recF fun n=>(fN n) p0 p1

def jT (p0:gExpr):Option (Bool):=
 (s_l4Ok p0 5).bind fun r1=>
 some r1

def xF (p0:gExpr):Option (Bool):=
 (if ieq p0.Op 0=true then some (ieq p0.N 0) else some false).bind fun g1=>
 (if g1=true then some (ieq (ilen p0.Args) 0) else some false).bind fun g2=>
 some g2

def jR (p0:gStmt):Option (Bool):=
 (if igt (ilen p0.Body) 0=true then some true else some (igt (ilen p0.Else) 0)).bind fun g1=>
 if g1=true then
  some false
 else
  if ieq p0.Kind 1=true then
   (yX p0 true).bind fun r2=>
   (if r2=true then(yY p0 false).bind fun r3=>some r3 else some false).bind fun g4=>
   (if g4=true then(jT p0.Expr).bind fun r5=>some r5 else some false).bind fun g6=>
   some g6
  else
   if ieq p0.Kind 4=true then
    (yX p0 false).bind fun r7=>
    (if r7=true then(yY p0 true).bind fun r8=>some r8 else some false).bind fun g9=>
    (if g9=true then(jT p0.Expr).bind fun r10=>some r10 else some false).bind fun g11=>
    some g11
   else
    if ieq p0.Kind 5=true then
     (yX p0 true).bind fun r12=>
     (if r12=true then(yY p0 true).bind fun r13=>some r13 else some false).bind fun g14=>
     (if g14=true then(xF p0.Expr).bind fun r15=>some r15 else some false).bind fun g16=>
     some g16
    else
     if ieq p0.Kind 6=true then
      (yX p0 false).bind fun r17=>
      (if r17=true then(yY p0 false).bind fun r18=>some r18 else some false).bind fun g19=>
      (if g19=true then(xF p0.Expr).bind fun r20=>some r20 else some false).bind fun g21=>
      some g21
     else
      if ieq p0.Kind 7=true then
       (yX p0 false).bind fun r22=>
       (if r22=true then(yY p0 false).bind fun r23=>some r23 else some false).bind fun g24=>
       (if g24=true then(jT p0.Expr).bind fun r25=>some r25 else some false).bind fun g26=>
       some g26
      else
       some false

def pV (p0:List gStmt)(p1:Int)(Fr10:gStmt->Int->Option (Bool))(s:Int):Option (Flow (Int) (Sum (Unit) (Bool))):=
 let s1:=s
 if ilt s1 (ilen p0)=true then
  (idx p0 s1).bind fun v2=>
  (Fr10 v2 p1).bind fun r3=>
  if bnot r3=true then
   some (.done (.inr false))
  else
   some (.next (iadd .i64 s1 1))
 else
  some (.done (.inl ()))

def vD (Fr9:(List gStmt)->Int->Option (Bool))(Fr10:gStmt->Int->Option (Bool))(p0:List gStmt)(p1:Int):Option (Bool):=
 (loopM (pV p0 p1 Fr10) 0).bind fun e1=>
 match e1 with
 |.inl _=>
  some true
 |.inr r0=>
  some r0

def gG (Fr9:(List gStmt)->Int->Option (Bool))(Fr10:gStmt->Int->Option (Bool))(p0:gStmt)(p1:Int):Option (Bool):=
 (if ine p0.Kind 2=true then some (ine p0.Kind 3) else some false).bind fun g1=>
 if g1=true then
  (jR p0).bind fun r2=>
  some r2
 else
  (if ilt p1 1=true then some true else(if ieq p0.Kind 3=true then some (igt (ilen p0.Else) 0) else some false).bind fun g3=>some g3).bind fun g4=>
  if g4=true then
   some false
  else
   (yX p0 false).bind fun r5=>
   (if r5=true then(yY p0 false).bind fun r6=>some r6 else some false).bind fun g7=>
   (if g7=true then(jT p0.Expr).bind fun r8=>some r8 else some false).bind fun g9=>
   (if g9=true then(Fr9 p0.Body (isub .i64 p1 1)).bind fun r10=>some r10 else some false).bind fun g11=>
   (if g11=true then(Fr9 p0.Else (isub .i64 p1 1)).bind fun r12=>some r12 else some false).bind fun g13=>
   some g13

def kH:Nat->((List gStmt)->Int->Option (Bool))×(gStmt->Int->Option (Bool))
 |0=>(fun _ _=>none,fun _ _=>none)
 |n+1=>(vD ((kH n).1) ((kH n).2),gG ((kH n).1) ((kH n).2))

def oZ (p0:List gStmt)(p1:Int):Option (Bool):=recF fun n=>(kH n).1 p0 p1

def tF (p0:List gStmt):Option (Bool):=
 (oZ p0 3).bind fun r1=>
 (if r1=true then(xG p0).bind fun r2=>some (ile r2 16) else some false).bind fun g3=>
 some g3

def sZ (Fr11:gExpr->Int->Option ((List gQuad)))(Fr12:gExpr->Int->Option ((List gQuad)))(p0:gExpr)(p1:Int):Option ((List gQuad)):=
 if ieq p0.Op 0=true then
  some ([(⟨1,p1,0,0,p0.N⟩:gQuad)]:List gQuad)
 else
  if ieq p0.Op 13=true then
   some ([(⟨2,p1,p0.N,0,0⟩:gQuad)]:List gQuad)
  else
   (idx p0.Args 0).bind fun v1=>
   (idx p0.Args 1).bind fun v2=>
   (Fr12 v1 p1).bind fun r3=>
   (Fr11 v2 (iadd .i64 p1 1)).bind fun r4=>
   (appx 40 r3 r4).bind fun l5=>
   (appx 40 l5 ([(⟨3,p1,p1,iadd .i64 p1 1,p0.Op⟩:gQuad)]:List gQuad)).bind fun l6=>
   some l6

def wZ (Fr11:gExpr->Int->Option ((List gQuad)))(Fr12:gExpr->Int->Option ((List gQuad)))(p0:gExpr)(p1:Int):Option ((List gQuad)):=
 if ieq p0.Op 0=true then
  (some ([(⟨1,p1,0,0,p0.N⟩:gQuad)]:List gQuad)).bind fun l1=>
  some l1
 else
  if ieq p0.Op 13=true then
   (some ([(⟨2,p1,p0.N,0,0⟩:gQuad)]:List gQuad)).bind fun l2=>
   some l2
  else
   (idx p0.Args 0).bind fun v3=>
   (idx p0.Args 1).bind fun v4=>
   (Fr12 v3 p1).bind fun r5=>
   (Fr11 v4 (iadd .i64 p1 1)).bind fun r6=>
   (appx 40 r5 r6).bind fun l7=>
   (appx 40 l7 ([(⟨3,p1,p1,iadd .i64 p1 1,p0.Op⟩:gQuad)]:List gQuad)).bind fun l8=>
   some l8

def kR:Nat->(gExpr->Int->Option ((List gQuad)))×(gExpr->Int->Option ((List gQuad)))
 |0=>(fun _ _=>none,fun _ _=>none)
 |n+1=>(sZ ((kR n).1) ((kR n).2),wZ ((kR n).1) ((kR n).2))

def uF (p0:gExpr)(p1:Int):Option ((List gQuad)):=recF fun n=>(kR n).2 p0 p1

def tE (p0:List gStmt)(p1:Int)(Fr16:gStmt->Int->Option ((List gQuad)))(s:Int×(List gQuad)):Option (Flow (Int×(List gQuad)) ((List gQuad))):=
 match s with
 |(s1,s2)=>
 if ilt s1 (ilen p0)=true then
  (idx p0 s1).bind fun v4=>
  (Fr16 v4 (iadd .i64 p1 (ilen s2))).bind fun r5=>
  (appx 40 s2 r5).bind fun l6=>
  some (.next (iadd .i64 s1 1,l6))
 else
  some (.done s2)

def sY (Fr13:(List gStmt)->Int->Option ((List gQuad)))(Fr14:gStmt->Int->Option ((List gQuad)))(Fr15:gStmt->Int->Option ((List gQuad)))(Fr16:gStmt->Int->Option ((List gQuad)))(p0:List gStmt)(p1:Int):Option ((List gQuad)):=
 (loopM (tE p0 p1 Fr16) (0,([]:List gQuad))).bind fun e1=>
 match e1 with
 |y3=>
  some y3

def gF (Fr13:(List gStmt)->Int->Option ((List gQuad)))(Fr14:gStmt->Int->Option ((List gQuad)))(Fr15:gStmt->Int->Option ((List gQuad)))(Fr16:gStmt->Int->Option ((List gQuad)))(p0:gStmt)(p1:Int):Option ((List gQuad)):=
 (uF p0.Expr 4).bind fun r1=>
 (Fr13 p0.Body (iadd .i64 (iadd .i64 p1 (ilen r1)) 1)).bind fun r2=>
 if ieq (ilen p0.Else) 0=true then
  (appx 40 r1 ([(⟨5,0,4,0,iadd .i64 (iadd .i64 (iadd .i64 p1 (ilen r1)) 1) (ilen r2)⟩:gQuad)]:List gQuad)).bind fun l3=>
  (appx 40 l3 r2).bind fun l4=>
  some l4
 else
  (Fr13 p0.Else (iadd .i64 (iadd .i64 (iadd .i64 (iadd .i64 p1 (ilen r1)) 1) (ilen r2)) 1)).bind fun r5=>
  (appx 40 r1 ([(⟨5,0,4,0,iadd .i64 (iadd .i64 (iadd .i64 (iadd .i64 p1 (ilen r1)) 1) (ilen r2)) 1⟩:gQuad)]:List gQuad)).bind fun l6=>
  (appx 40 l6 r2).bind fun l7=>
  (appx 40 l7 ([(⟨4,0,0,0,iadd .i64 (iadd .i64 (iadd .i64 (iadd .i64 (iadd .i64 p1 (ilen r1)) 1) (ilen r2)) 1) (ilen r5)⟩:gQuad)]:List gQuad)).bind fun l8=>
  (appx 40 l8 r5).bind fun l9=>
  some l9

def tD (Fr13:(List gStmt)->Int->Option ((List gQuad)))(Fr14:gStmt->Int->Option ((List gQuad)))(Fr15:gStmt->Int->Option ((List gQuad)))(Fr16:gStmt->Int->Option ((List gQuad)))(p0:gStmt)(p1:Int):Option ((List gQuad)):=
 (uF p0.Expr 4).bind fun r1=>
 (Fr13 p0.Body (iadd .i64 (iadd .i64 p1 (ilen r1)) 1)).bind fun r2=>
 (appx 40 r1 ([(⟨5,0,4,0,iadd .i64 (iadd .i64 (iadd .i64 (iadd .i64 p1 (ilen r1)) 1) (ilen r2)) 1⟩:gQuad)]:List gQuad)).bind fun l3=>
 (appx 40 l3 r2).bind fun l4=>
 (appx 40 l4 ([(⟨4,0,0,0,p1⟩:gQuad)]:List gQuad)).bind fun l5=>
 some l5

def sX (Fr13:(List gStmt)->Int->Option ((List gQuad)))(Fr14:gStmt->Int->Option ((List gQuad)))(Fr15:gStmt->Int->Option ((List gQuad)))(Fr16:gStmt->Int->Option ((List gQuad)))(p0:gStmt)(p1:Int):Option ((List gQuad)):=
 (uF p0.Expr 4).bind fun r1=>
 if ieq p0.Kind 2=true then
  (Fr14 p0 p1).bind fun r2=>
  some r2
 else
  if ieq p0.Kind 3=true then
   (Fr15 p0 p1).bind fun r3=>
   some r3
  else
   if ieq p0.Kind 1=true then
    (appx 40 r1 ([(⟨2,p0.Var,4,0,0⟩:gQuad)]:List gQuad)).bind fun l4=>
    some l4
   else
    if ieq p0.Kind 4=true then
     (appx 40 r1 ([(⟨6,0,4,0,p0.Box⟩:gQuad)]:List gQuad)).bind fun l5=>
     some l5
    else
     if ieq p0.Kind 7=true then
      (appx 40 r1 ([(⟨9,0,4,0,0⟩:gQuad)]:List gQuad)).bind fun l6=>
      some l6
     else
      if ieq p0.Kind 5=true then
       some ([(⟨7,p0.Var,0,0,p0.Box⟩:gQuad)]:List gQuad)
      else
       some ([(⟨8,0,0,0,0⟩:gQuad)]:List gQuad)

def zL:Nat->((List gStmt)->Int->Option ((List gQuad)))×(gStmt->Int->Option ((List gQuad)))×(gStmt->Int->Option ((List gQuad)))×(gStmt->Int->Option ((List gQuad)))
 |0=>(fun _ _=>none,fun _ _=>none,fun _ _=>none,fun _ _=>none)
 |n+1=>(sY ((zL n).1) ((zL n).2.1) ((zL n).2.2.1) ((zL n).2.2.2),gF ((zL n).1) ((zL n).2.1) ((zL n).2.2.1) ((zL n).2.2.2),tD ((zL n).1) ((zL n).2.1) ((zL n).2.2.1) ((zL n).2.2.2),sX ((zL n).1) ((zL n).2.1) ((zL n).2.2.1) ((zL n).2.2.2))

def cG (p0:gStmt)(p1:Int):Option ((List gQuad)):=recF fun n=>(zL n).2.2.2 p0 p1

def pU (p0:List gStmt)(p1:Int)(s:Int×(List gQuad)):Option (Flow (Int×(List gQuad)) ((List gQuad))):=
 match s with
 |(s1,s2)=>
 if ilt s1 (ilen p0)=true then
  (idx p0 s1).bind fun v4=>
  (cG v4 (iadd .i64 p1 (ilen s2))).bind fun r5=>
  (appx 40 s2 r5).bind fun l6=>
  some (.next (iadd .i64 s1 1,l6))
 else
  some (.done s2)

def oY (p0:List gStmt)(p1:Int):Option ((List gQuad)):=
 (loopM (pU p0 p1) (0,([]:List gQuad))).bind fun e1=>
 match e1 with
 |y3=>
  some y3

def vI (p0:List gStmt):Option ((List gQuad)×Bool):=
 (tF p0).bind fun r1=>
 if bnot r1=true then
  some (([]:List gQuad),false)
 else
  (oY p0 0).bind fun r2=>
  (appx 40 r2 ([(⟨10,0,0,0,0⟩:gQuad)]:List gQuad)).bind fun l3=>
  some (l3,true)

def pI (p0:Int)(p1:Bool):Option (Bool):=
 if p1=true then
  (yK p0 0 11).bind fun r1=>
  some r1
 else
  some (ieq p0 0)

def yM (p0:gQuad)(p1:Bool)(p2:Bool)(p3:Bool):Option (Bool):=
 (pI p0.Dst p1).bind fun r1=>
 (if r1=true then(pI p0.A p2).bind fun r2=>some r2 else some false).bind fun g3=>
 (if g3=true then(pI p0.B p3).bind fun r4=>some r4 else some false).bind fun g5=>
 some g5

def yC (p0:Int):Option (Bool):=
 (yK p0 (-2147483648) 2147483647).bind fun r1=>
 some r1

def jA (p0:gQuad)(p1:Int):Option (Bool):=
 if ieq p0.Op 1=true then
  (yM p0 true false false).bind fun r1=>
  (if r1=true then(yC p0.N).bind fun r2=>some r2 else some false).bind fun g3=>
  some g3
 else
  if ieq p0.Op 2=true then
   (yM p0 true true false).bind fun r4=>
   (if r4=true then some (ieq p0.N 0) else some false).bind fun g5=>
   some g5
  else
   if ieq p0.Op 3=true then
    (yM p0 true true true).bind fun r6=>
    (if r6=true then(vF p0.N).bind fun r7=>some r7 else some false).bind fun g8=>
    some g8
   else
    if ieq p0.Op 4=true then
     (yM p0 false false false).bind fun r9=>
     (if r9=true then some (ige p0.N 0) else some false).bind fun g10=>
     (if g10=true then some (ilt p0.N p1) else some false).bind fun g11=>
     some g11
    else
     if ieq p0.Op 5=true then
      (yM p0 false true false).bind fun r12=>
      (if r12=true then some (ige p0.N 0) else some false).bind fun g13=>
      (if g13=true then some (ilt p0.N p1) else some false).bind fun g14=>
      some g14
     else
      if ieq p0.Op 6=true then
       (yM p0 false true false).bind fun r15=>
       (if r15=true then(yK p0.N 0 2).bind fun r16=>some r16 else some false).bind fun g17=>
       some g17
      else
       if ieq p0.Op 7=true then
        (yM p0 true false false).bind fun r18=>
        (if r18=true then(yK p0.N 0 2).bind fun r19=>some r19 else some false).bind fun g20=>
        some g20
       else
        if ieq p0.Op 9=true then
         (yM p0 false true false).bind fun r21=>
         (if r21=true then some (ieq p0.N 0) else some false).bind fun g22=>
         some g22
        else
         (if ieq p0.Op 8=true then
          some (ieq p0.Op 8)
         else
          some (ieq p0.Op 10)).bind fun j1=>
         if j1=true then
          (yM p0 false false false).bind fun r24=>
          (if r24=true then some (ieq p0.N 0) else some false).bind fun g25=>
          some g25
         else
          some false

def kX (p0:List gQuad)(s:Int):Option (Flow (Int) (Sum (Unit) (Bool))):=
 let s2:=s
 if ilt s2 (ilen p0)=true then
  (idx p0 s2).bind fun v3=>
  (jA v3 (ilen p0)).bind fun r4=>
  if bnot r4=true then
   some (.done (.inr false))
  else
   some (.next (iadd .i64 s2 1))
 else
  some (.done (.inl ()))

def kD (p0:List gQuad):Option (Bool):=
 (yK (ilen p0) 1 600).bind fun r1=>
 if bnot r1=true then
  some false
 else
  (loopM (kX p0) 0).bind fun e1=>
  match e1 with
  |.inl _=>
   (idx p0 (isub .i64 (ilen p0) 1)).bind fun v5=>
   (if ieq v5.Op 10=true then some true else some (ieq v5.Op 4)).bind fun g6=>
   some g6
  |.inr r0=>
   some r0

def wX (p0:List gQuad)(p1:Int):Option ((List Int)):=
 (idx p0 p1).bind fun v1=>
 if ieq v1.Op 10=true then
  some ([]:List Int)
 else
  if ieq v1.Op 4=true then
   some ([v1.N]:List Int)
  else
   (if ieq v1.Op 5=true then some (ilt v1.N (iadd .i64 p1 1)) else some false).bind fun g2=>
   if g2=true then
    some ([v1.N,iadd .i64 p1 1]:List Int)
   else
    (if ieq v1.Op 5=true then some (igt v1.N (iadd .i64 p1 1)) else some false).bind fun g3=>
    if g3=true then
     some ([iadd .i64 p1 1,v1.N]:List Int)
    else
     some ([iadd .i64 p1 1]:List Int)

def s_l33Edges (p0:List gQuad)(p1:List gFact)(p2:Int):Option ((List Int)):=
 (idx p0 p2).bind fun v1=>
 (if ine v1.Op 5=true then some true else(idx p1 v1.A).bind fun v2=>some (ine v2.Kind 1)).bind fun g3=>
 if g3=true then
  (wX p0 p2).bind fun r4=>
  some r4
 else
  (idx p1 v1.A).bind fun v5=>
  if ieq v5.N 0=true then
   some ([v1.N]:List Int)
  else
   some ([iadd .i64 p2 1]:List Int)

def fP (p0:Bool):Option (Int):=
 if p0=true then
  some 1
 else
  some 0

def nJ (p0:Int)(p1:Int)(p2:Bool):Option (Int):=
 if p2=true then
  (shrx .i64 p0 (iand .i64 p1 31)).bind fun v1=>
  some v1
 else
  (shlx .i64 p0 (iand .i64 p1 31)).bind fun v2=>
  (pJ v2).bind fun r3=>
  some r3

def nL (p0:Int)(p1:Int):Option (Int):=
 if ieq p1 0=true then
  some (-1)
 else
  (quox .i64 p0 p1).bind fun v1=>
  (pJ v1).bind fun r2=>
  some r2

def nK (p0:Int)(p1:Int):Option (Int):=
 if ieq p1 0=true then
  some p0
 else
  (remx p0 p1).bind fun v1=>
  some v1

def mD (p0:Int)(p1:Int)(p2:Int):Option (Int×Bool):=
 (vF p0).bind fun r1=>
 (if bnot r1=true then some true else(yC p1).bind fun r2=>some (bnot r2)).bind fun g3=>
 (if g3=true then some true else(yC p2).bind fun r4=>some (bnot r4)).bind fun g5=>
 if g5=true then
  some (0,false)
 else
  if ieq p0 1=true then
   some (ior .i64 p1 p2,true)
  else
   if ieq p0 2=true then
    some (ixor .i64 p1 p2,true)
   else
    if ieq p0 3=true then
     some (iand .i64 p1 p2,true)
    else
     if ieq p0 4=true then
      (fP (ieq p1 p2)).bind fun r6=>
      some (r6,true)
     else
      if ieq p0 5=true then
       (fP (ilt p1 p2)).bind fun r7=>
       some (r7,true)
      else
       if ieq p0 6=true then
        (nJ p1 p2 false).bind fun r8=>
        some (r8,true)
       else
        if ieq p0 7=true then
         (nJ p1 p2 true).bind fun r9=>
         some (r9,true)
        else
         if ieq p0 8=true then
          (pJ (iadd .i64 p1 p2)).bind fun r10=>
          some (r10,true)
         else
          if ieq p0 9=true then
           (pJ (isub .i64 p1 p2)).bind fun r11=>
           some (r11,true)
          else
           if ieq p0 10=true then
            (pJ (imul .i64 p1 p2)).bind fun r12=>
            some (r12,true)
           else
            if ieq p0 11=true then
             (nL p1 p2).bind fun r13=>
             some (r13,true)
            else
             (nK p1 p2).bind fun r14=>
             some (r14,true)

def wG (p0:gQuad)(p1:gFact)(p2:gFact):Option (gFact):=
 (if ine p1.Kind 1=true then some true else some (ine p2.Kind 1)).bind fun g1=>
 if g1=true then
  some (⟨2,0⟩:gFact)
 else
  (mD p0.N p1.N p2.N).bind fun r2=>
  some (⟨1,r2.1⟩:gFact)

def s_l33After (p0:gQuad)(p1:List gFact):Option ((List gFact)):=
 (appx 16 ([]:List gFact) p1).bind fun l1=>
 if ieq p0.Op 1=true then
  (idx l1 p0.Dst).bind fun v2=>
  (setx l1 p0.Dst (⟨1,p0.N⟩:gFact)).bind fun l3=>
  some l3
 else
  if ieq p0.Op 2=true then
   (idx p1 p0.A).bind fun v4=>
   (idx l1 p0.Dst).bind fun v5=>
   (setx l1 p0.Dst v4).bind fun l6=>
   some l6
  else
   if ieq p0.Op 7=true then
    (idx l1 p0.Dst).bind fun v7=>
    (setx l1 p0.Dst (⟨2,0⟩:gFact)).bind fun l8=>
    some l8
   else
    if ieq p0.Op 3=true then
     (idx p1 p0.A).bind fun v9=>
     (idx p1 p0.B).bind fun v10=>
     (wG p0 v9 v10).bind fun r11=>
     (idx l1 p0.Dst).bind fun v12=>
     (setx l1 p0.Dst r11).bind fun l13=>
     some l13
    else
     some l1

def hU (p0:gFact)(p1:gFact):Option (gFact):=
 if ieq p0.Kind 0=true then
  some p1
 else
  (if ieq p1.Kind 0=true then some true else some (eqD p0 p1)).bind fun g1=>
  if g1=true then
   some p0
  else
   some (⟨2,0⟩:gFact)

def oV (p1:Int)(p2:List gFact)(s:Bool×Int×(List (List gFact))):Option (Flow (Bool×Int×(List (List gFact))) (Bool×(List (List gFact)))):=
 match s with
 |(s1,s2,s3)=>
 if ilt s2 12=true then
  (idx s3 p1).bind fun v6=>
  (idx p2 s2).bind fun v7=>
  (idx v6 s2).bind fun v8=>
  (hU v8 v7).bind fun r9=>
  if bnot (eqD r9 v8)=true then
   (setx v6 s2 r9).bind fun l10=>
   (setx s3 p1 l10).bind fun l11=>
   some (.next (true,iadd .i64 s2 1,l11))
  else
   (setx s3 p1 v6).bind fun l12=>
   some (.next (s1,iadd .i64 s2 1,l12))
 else
  some (.done (s1,s3))

def nH (p0:(List (List gFact)))(p1:Int)(p2:List gFact):Option (Bool×(List (List gFact))):=
 (loopM (oV p1 p2) (false,0,p0)).bind fun e1=>
 match e1 with
 |(y4,y5)=>
  some (y4,y5)

def dJ (p0:List gQuad)(p1:Int):Option ((List Int)):=
 (idx p0 p1).bind fun v1=>
 if ieq v1.Op 10=true then
  some ([]:List Int)
 else
  if ieq v1.Op 4=true then
   (some ([v1.N]:List Int)).bind fun l2=>
   some l2
  else
   (if ieq v1.Op 5=true then some (ilt v1.N (iadd .i64 p1 1)) else some false).bind fun g3=>
   if g3=true then
    (some ([v1.N,iadd .i64 p1 1]:List Int)).bind fun l4=>
    some l4
   else
    (if ieq v1.Op 5=true then some (igt v1.N (iadd .i64 p1 1)) else some false).bind fun g5=>
    if g5=true then
     (some ([iadd .i64 p1 1,v1.N]:List Int)).bind fun l6=>
     some l6
    else
     (some ([iadd .i64 p1 1]:List Int)).bind fun l7=>
     some l7

def uZ (p0:List gQuad)(p1:List gFact)(p2:Int):Option ((List Int)):=
 (idx p0 p2).bind fun v1=>
 (if ine v1.Op 5=true then some true else(idx p1 v1.A).bind fun v2=>some (ine v2.Kind 1)).bind fun g3=>
 if g3=true then
  (dJ p0 p2).bind fun r4=>
  some r4
 else
  (idx p1 v1.A).bind fun v5=>
  if ieq v5.N 0=true then
   (some ([v1.N]:List Int)).bind fun l6=>
   some l6
  else
   (some ([iadd .i64 p2 1]:List Int)).bind fun l7=>
   some l7

def tA (p0:gQuad)(p1:List gFact):Option ((List gFact)):=
 (appx 16 ([]:List gFact) p1).bind fun l1=>
 if ieq p0.Op 1=true then
  (idx l1 p0.Dst).bind fun v2=>
  (setx l1 p0.Dst (⟨1,p0.N⟩:gFact)).bind fun l3=>
  some l3
 else
  if ieq p0.Op 2=true then
   (idx p1 p0.A).bind fun v4=>
   (idx l1 p0.Dst).bind fun v5=>
   (setx l1 p0.Dst v4).bind fun l6=>
   some l6
  else
   if ieq p0.Op 7=true then
    (idx l1 p0.Dst).bind fun v7=>
    (setx l1 p0.Dst (⟨2,0⟩:gFact)).bind fun l8=>
    some l8
   else
    if ieq p0.Op 3=true then
     (idx p1 p0.A).bind fun v9=>
     (idx p1 p0.B).bind fun v10=>
     (wG p0 v9 v10).bind fun r11=>
     (idx l1 p0.Dst).bind fun v12=>
     (setx l1 p0.Dst r11).bind fun l13=>
     some l13
    else
     some l1

def oS (r16:List gFact)(s:Bool×Int×(List (List gFact))×(List Int)):Option (Flow (Bool×Int×(List (List gFact))×(List Int)) (Bool×(List (List gFact)))):=
 match s with
 |(s18,s19,s20,s21)=>
 if ilt s19 (ilen s21)=true then
  (idx s21 s19).bind fun v24=>
  (nH s20 v24 r16).bind fun r25=>
  if r25.1=true then
   some (.next (true,iadd .i64 s19 1,r25.2,s21))
  else
   some (.next (s18,iadd .i64 s19 1,r25.2,s21))
 else
  some (.done (s18,s20))

def oT (p0:List gQuad)(s:Bool×Int×(List (List gFact))):Option (Flow (Bool×Int×(List (List gFact))) (Bool×(List (List gFact)))):=
 match s with
 |(s1,s2,s3)=>
 if ilt s2 (ilen p0)=true then
  (idx s3 s2).bind fun v6=>
  (idx v6 0).bind fun v7=>
  if ieq v7.Kind 0=true then
   (setx s3 s2 v6).bind fun l8=>
   some (.next (s1,iadd .i64 s2 1,l8))
  else
   (setx s3 s2 v6).bind fun l9=>
   (idx l9 s2).bind fun v10=>
   (uZ p0 v10 s2).bind fun r11=>
   (setx l9 s2 v10).bind fun l12=>
   (idx l12 s2).bind fun v14=>
   (idx p0 s2).bind fun v15=>
   (tA v15 v14).bind fun r16=>
   (setx l12 s2 v14).bind fun l17=>
   (loopM (oS r16) (s1,0,l17,r11)).bind fun e1=>
   match e1 with
   |(y22,y23)=>
    some (.next (y22,iadd .i64 s2 1,y23))
 else
  some (.done (s1,s3))

def nG (p0:List gQuad)(p1:(List (List gFact))):Option (Bool×(List (List gFact))):=
 (loopM (oT p0) (false,0,p1)).bind fun e2=>
 match e2 with
 |(y4,y5)=>
  some (y4,y5)

def tG (p0:List gQuad)(s:Int×(List (List gFact))):Option (Flow (Int×(List (List gFact))) ((List (List gFact)))):=
 match s with
 |(s2,s3)=>
 if ilt s2 (ilen p0)=true then
  (makex 16 12 (⟨0,0⟩:gFact)).bind fun l5=>
  (appx 24 s3 [l5]).bind fun l6=>
  some (.next (iadd .i64 s2 1,l6))
 else
  some (.done s3)

def gJ (s:Int×(List (List gFact))):Option (Flow (Int×(List (List gFact))) ((List (List gFact)))):=
 match s with
 |(s7,s8)=>
 if ilt s7 12=true then
  (idx s8 0).bind fun v10=>
  (idx v10 s7).bind fun v11=>
  (setx v10 s7 (⟨1,0⟩:gFact)).bind fun l12=>
  (setx s8 0 l12).bind fun l13=>
  some (.next (iadd .i64 s7 1,l13))
 else
  some (.done s8)

def gI (p0:List gQuad)(s:(List (List gFact))):Option (Flow ((List (List gFact))) ((List (List gFact)))):=
 let s14:=s
 (nG p0 s14).bind fun r16=>
 if r16.1=true then
  some (.next r16.2)
 else
  some (.done r16.2)

def gK (p0:List gQuad):Option ((List (List gFact))):=
 (kD p0).bind fun r1=>
 if bnot r1=true then
  some ([]:List (List gFact))
 else
  (loopM (tG p0) (0,([]:List (List gFact)))).bind fun e1=>
  match e1 with
  |y4=>
   (loopM (gJ) (0,y4)).bind fun e2=>
   match e2 with
   |y9=>
    (loopM (gI p0) y9).bind fun e3=>
    match e3 with
    |y15=>
     some y15

def oU (p0:gFact)(p1:Int):Option (Bool):=
 (if ieq p0.Kind 1=true then some (ieq p0.N p1) else some false).bind fun g1=>
 some g1

def dK (p0:List Int)(p1:Int)(s:Int):Option (Flow (Int) (Sum (Unit) (Bool))):=
 let s1:=s
 if ilt s1 (ilen p0)=true then
  (idx p0 s1).bind fun v2=>
  if ieq v2 p1=true then
   some (.done (.inr true))
  else
   some (.next (iadd .i64 s1 1))
 else
  some (.done (.inl ()))

def fO (p0:List Int)(p1:Int):Option (Bool):=
 (loopM (dK p0 p1) 0).bind fun e1=>
 match e1 with
 |.inl _=>
  some false
 |.inr r0=>
  some r0

def oW (p0:Int)(p1:List Int):Option (Bool):=
 (fO p1 p0).bind fun r1=>
 some r1

def cF (p0:gQuad)(p1:gFact)(p2:gFact):Option (gQuad):=
 (wG p0 p1 p2).bind fun r1=>
 if ieq r1.Kind 1=true then
  some (⟨1,p0.Dst,0,0,r1.N⟩:gQuad)
 else
  (oU p2 0).bind fun r2=>
  (if r2=true then(oW p0.N ([1,2,6,7,8,9]:List Int)).bind fun r3=>some r3 else some false).bind fun g4=>
  if g4=true then
   some (⟨2,p0.Dst,p0.A,0,0⟩:gQuad)
  else
   (oU p2 1).bind fun r5=>
   (if r5=true then(oW p0.N ([10,11]:List Int)).bind fun r6=>some r6 else some false).bind fun g7=>
   if g7=true then
    some (⟨2,p0.Dst,p0.A,0,0⟩:gQuad)
   else
    (oU p1 0).bind fun r8=>
    (if r8=true then(oW p0.N ([1,2,8]:List Int)).bind fun r9=>some r9 else some false).bind fun g10=>
    if g10=true then
     some (⟨2,p0.Dst,p0.B,0,0⟩:gQuad)
    else
     (oU p1 1).bind fun r11=>
     (if r11=true then some (ieq p0.N 10) else some false).bind fun g12=>
     if g12=true then
      some (⟨2,p0.Dst,p0.B,0,0⟩:gQuad)
     else
      (if r8=true then some true else some r2).bind fun g13=>
      (if g13=true then(oW p0.N ([3,10]:List Int)).bind fun r14=>some r14 else some false).bind fun g15=>
      if g15=true then
       some (⟨1,p0.Dst,0,0,0⟩:gQuad)
      else
       some p0

def hY (p0:gQuad)(p1:List gFact)(p2:Int):Option (gQuad):=
 (idx p1 0).bind fun v1=>
 if ieq v1.Kind 0=true then
  some p0
 else
  if ieq p0.Op 2=true then
   (idx p1 p0.A).bind fun v2=>
   if ieq v2.Kind 1=true then
    some (⟨1,p0.Dst,0,0,v2.N⟩:gQuad)
   else
    some p0
  else
   if ieq p0.Op 3=true then
    (idx p1 p0.A).bind fun v3=>
    (idx p1 p0.B).bind fun v4=>
    (cF p0 v3 v4).bind fun r5=>
    some r5
   else
    if ieq p0.Op 5=true then
     (idx p1 p0.A).bind fun v6=>
     (oU v6 0).bind fun r7=>
     if r7=true then
      some (⟨4,0,0,0,p0.N⟩:gQuad)
     else
      if ieq v6.Kind 1=true then
       some (⟨4,0,0,0,iadd .i64 p2 1⟩:gQuad)
      else
       some p0
    else
     some p0

def sA (p0:List gQuad)(r2:(List (List gFact)))(s:Int×(List gQuad)):Option (Flow (Int×(List gQuad)) ((List gQuad))):=
 match s with
 |(s3,s4)=>
 if ilt s3 (ilen p0)=true then
  (idx p0 s3).bind fun v6=>
  (idx r2 s3).bind fun v7=>
  (hY v6 v7 s3).bind fun r8=>
  (appx 40 s4 ([r8]:List gQuad)).bind fun l9=>
  some (.next (iadd .i64 s3 1,l9))
 else
  some (.done s4)

def nS (p0:List gQuad):Option ((List gQuad)×Bool):=
 (kD p0).bind fun r1=>
 if bnot r1=true then
  some (([]:List gQuad),false)
 else
  (gK p0).bind fun r2=>
  (loopM (sA p0 r2) (0,([]:List gQuad))).bind fun e1=>
  match e1 with
  |y5=>
   some (y5,true)

def hH (s:Int×(List Int)):Option (Flow (Int×(List Int)) ((List Int))):=
 match s with
 |(s1,s2)=>
 if ilt s1 12=true then
  (appx 8 s2 ([s1]:List Int)).bind fun l4=>
  some (.next (iadd .i64 s1 1,l4))
 else
  some (.done s2)

def s_l34Self:Option ((List Int)):=
 (loopM (hH) (0,([]:List Int))).bind fun e1=>
 match e1 with
 |y3=>
  some y3

def wL (p0:gQuad):Option (Int):=
 (jA p0 600).bind fun r1=>
 if bnot r1=true then
  some (-1)
 else
  (if ieq p0.Op 1=true then
   some (ieq p0.Op 1)
  else
   if ieq p0.Op 2=true then
    some (ieq p0.Op 2)
   else
    if ieq p0.Op 3=true then
     some (ieq p0.Op 3)
    else
     some (ieq p0.Op 7)).bind fun j1=>
  if j1=true then
   some p0.Dst
  else
   some (-1)

def cE (r2:Int)(s:Int×(List Int)):Option (Flow (Int×(List Int)) ((List Int))):=
 match s with
 |(s3,s4)=>
 if ilt s3 12=true then
  (idx s4 s3).bind fun v6=>
  if ieq v6 r2=true then
   (setx s4 s3 s3).bind fun l7=>
   some (.next (iadd .i64 s3 1,l7))
  else
   some (.next (iadd .i64 s3 1,s4))
 else
  some (.done s4)

def s_l34After (p0:gQuad)(p1:List Int):Option ((List Int)):=
 (appx 8 ([]:List Int) p1).bind fun l1=>
 (wL p0).bind fun r2=>
 if ilt r2 0=true then
  some l1
 else
  (loopM (cE r2) (0,l1)).bind fun e1=>
  match e1 with
  |y5=>
   (idx y5 r2).bind fun v8=>
   (setx y5 r2 r2).bind fun l9=>
   if ieq p0.Op 2=true then
    (idx l9 r2).bind fun v10=>
    (setx l9 r2 p0.A).bind fun l11=>
    some l11
   else
    some l9

def oR (p1:Int)(p2:List Int)(s:Bool×Int×(List (List Int))):Option (Flow (Bool×Int×(List (List Int))) (Bool×(List (List Int)))):=
 match s with
 |(s5,s6,s7)=>
 if ilt s6 12=true then
  (idx s7 p1).bind fun v10=>
  (idx v10 s6).bind fun v11=>
  (if ine v11 s6=true then(idx p2 s6).bind fun v12=>some (ine v11 v12) else some false).bind fun g13=>
  if g13=true then
   (setx v10 s6 s6).bind fun l14=>
   (setx s7 p1 l14).bind fun l15=>
   some (.next (true,iadd .i64 s6 1,l15))
  else
   (setx s7 p1 v10).bind fun l16=>
   some (.next (s5,iadd .i64 s6 1,l16))
 else
  some (.done (s5,s7))

def nF (p0:(List (List Int)))(p1:Int)(p2:List Int):Option (Bool×(List (List Int))):=
 (idx p0 p1).bind fun v1=>
 if ieq (ilen v1) 0=true then
  (appx 8 ([]:List Int) p2).bind fun l2=>
  (setx p0 p1 l2).bind fun l3=>
  some (true,l3)
 else
  (setx p0 p1 v1).bind fun l4=>
  (loopM (oR p1 p2) (false,0,l4)).bind fun e1=>
  match e1 with
  |(y8,y9)=>
   some (y8,y9)

def hJ (r2:Int)(s:Int×(List Int)):Option (Flow (Int×(List Int)) ((List Int))):=
 match s with
 |(s3,s4)=>
 if ilt s3 12=true then
  (idx s4 s3).bind fun v6=>
  if ieq v6 r2=true then
   (setx s4 s3 s3).bind fun l7=>
   some (.next (iadd .i64 s3 1,l7))
  else
   some (.next (iadd .i64 s3 1,s4))
 else
  some (.done s4)

def uY (p0:gQuad)(p1:List Int):Option ((List Int)):=
 (appx 8 ([]:List Int) p1).bind fun l1=>
 (wL p0).bind fun r2=>
 if ilt r2 0=true then
  some l1
 else
  (loopM (hJ r2) (0,l1)).bind fun e1=>
  match e1 with
  |y5=>
   (idx y5 r2).bind fun v8=>
   (setx y5 r2 r2).bind fun l9=>
   if ieq p0.Op 2=true then
    (idx l9 r2).bind fun v10=>
    (setx l9 r2 p0.A).bind fun l11=>
    some l11
   else
    some l9

def oP (r9:List Int)(r13:List Int)(s:Bool×Int×(List (List Int))):Option (Flow (Bool×Int×(List (List Int))) (Bool×(List (List Int)))):=
 match s with
 |(s15,s16,s17)=>
 if ilt s16 (ilen r9)=true then
  (idx r9 s16).bind fun v20=>
  (nF s17 v20 r13).bind fun r21=>
  if r21.1=true then
   some (.next (true,iadd .i64 s16 1,r21.2))
  else
   some (.next (s15,iadd .i64 s16 1,r21.2))
 else
  some (.done (s15,s17))

def oQ (p0:List gQuad)(s:Bool×Int×(List (List Int))):Option (Flow (Bool×Int×(List (List Int))) (Bool×(List (List Int)))):=
 match s with
 |(s1,s2,s3)=>
 if ilt s2 (ilen p0)=true then
  (idx s3 s2).bind fun v6=>
  if ieq (ilen v6) 0=true then
   (setx s3 s2 v6).bind fun l7=>
   some (.next (s1,iadd .i64 s2 1,l7))
  else
   (setx s3 s2 v6).bind fun l8=>
   (wX p0 s2).bind fun r9=>
   (idx l8 s2).bind fun v11=>
   (idx p0 s2).bind fun v12=>
   (uY v12 v11).bind fun r13=>
   (setx l8 s2 v11).bind fun l14=>
   (loopM (oP r9 r13) (s1,0,l14)).bind fun e1=>
   match e1 with
   |(y18,y19)=>
    some (.next (y18,iadd .i64 s2 1,y19))
 else
  some (.done (s1,s3))

def nE (p0:List gQuad)(p1:(List (List Int))):Option (Bool×(List (List Int))):=
 (loopM (oQ p0) (false,0,p1)).bind fun e2=>
 match e2 with
 |(y4,y5)=>
  some (y4,y5)

def dA (s:Int×(List Int)):Option (Flow (Int×(List Int)) ((List Int))):=
 match s with
 |(s1,s2)=>
 if ilt s1 12=true then
  (appx 8 s2 ([s1]:List Int)).bind fun l4=>
  some (.next (iadd .i64 s1 1,l4))
 else
  some (.done s2)

def sW:Option ((List Int)):=
 (loopM (dA) (0,([]:List Int))).bind fun e1=>
 match e1 with
 |y3=>
  some y3

def vH (p0:List gQuad)(s:Int×(List (List Int))):Option (Flow (Int×(List (List Int))) ((List (List Int)))):=
 match s with
 |(s2,s3)=>
 if ilt s2 (ilen p0)=true then
  (appx 24 s3 [([]:List Int)]).bind fun l5=>
  some (.next (iadd .i64 s2 1,l5))
 else
  some (.done s3)

def mB (p0:List gQuad)(s:(List (List Int))):Option (Flow ((List (List Int))) ((List (List Int)))):=
 let s9:=s
 (nE p0 s9).bind fun r11=>
 if r11.1=true then
  some (.next r11.2)
 else
  some (.done r11.2)

def mA (p0:List gQuad)(s:Int×(List (List Int))):Option (Flow (Int×(List (List Int))) ((List (List Int)))):=
 match s with
 |(s12,s13)=>
 if ilt s12 (ilen p0)=true then
  (idx s13 s12).bind fun v15=>
  if ieq (ilen v15) 0=true then
   (setx s13 s12 v15).bind fun l16=>
   (sW).bind fun r17=>
   (idx l16 s12).bind fun v18=>
   (setx l16 s12 r17).bind fun l19=>
   some (.next (iadd .i64 s12 1,l19))
  else
   (setx s13 s12 v15).bind fun l20=>
   some (.next (iadd .i64 s12 1,l20))
 else
  some (.done s13)

def nV (p0:List gQuad):Option ((List (List Int))):=
 (kD p0).bind fun r1=>
 if bnot r1=true then
  some ([]:List (List Int))
 else
  (loopM (vH p0) (0,([]:List (List Int)))).bind fun e1=>
  match e1 with
  |y4=>
   (sW).bind fun r6=>
   (idx y4 0).bind fun v7=>
   (setx y4 0 r6).bind fun l8=>
   (loopM (mB p0) l8).bind fun e2=>
   match e2 with
   |y10=>
    (loopM (mA p0) (0,y10)).bind fun e3=>
    match e3 with
    |y14=>
     some y14

def cD (p0:gQuad)(p1:List Int):Option (gQuad):=
 (if ieq p0.Op 2=true then
  some (ieq p0.Op 2)
 else
  if ieq p0.Op 5=true then
   some (ieq p0.Op 5)
  else
   if ieq p0.Op 6=true then
    some (ieq p0.Op 6)
   else
    some (ieq p0.Op 9)).bind fun j1=>
 if j1=true then
  (idx p1 p0.A).bind fun v2=>
  some (⟨p0.Op,p0.Dst,v2,p0.B,p0.N⟩:gQuad)
 else
  if ieq p0.Op 3=true then
   (idx p1 p0.A).bind fun v3=>
   (idx p1 p0.B).bind fun v4=>
   some (⟨p0.Op,p0.Dst,v3,v4,p0.N⟩:gQuad)
  else
   some p0

def sC (p0:List gQuad)(r2:(List (List Int)))(s:Int×(List gQuad)):Option (Flow (Int×(List gQuad)) ((List gQuad))):=
 match s with
 |(s3,s4)=>
 if ilt s3 (ilen p0)=true then
  (idx p0 s3).bind fun v6=>
  (idx r2 s3).bind fun v7=>
  (cD v6 v7).bind fun r8=>
  (appx 40 s4 ([r8]:List gQuad)).bind fun l9=>
  some (.next (iadd .i64 s3 1,l9))
 else
  some (.done s4)

def nU (p0:List gQuad):Option ((List gQuad)×Bool):=
 (kD p0).bind fun r1=>
 if bnot r1=true then
  some (([]:List gQuad),false)
 else
  (nV p0).bind fun r2=>
  (loopM (sC p0 r2) (0,([]:List gQuad))).bind fun e1=>
  match e1 with
  |y5=>
   some (y5,true)

def pR (p0:List gQuad)(s:Int×Int):Option (Flow (Int×Int) (Sum (Unit) (Int))):=
 match s with
 |(s1,s2)=>
 if ilt s2 (ilen p0)=true then
  (idx p0 s1).bind fun v3=>
  if ine v3.Op 4=true then
   some (.done (.inr s1))
  else
   some (.next (v3.N,iadd .i64 s2 1))
 else
  some (.done (.inl ()))

def sV (p0:List gQuad)(p1:Int):Option (Int):=
 (loopM (pR p0) (p1,0)).bind fun e1=>
 match e1 with
 |.inl _=>
  some p1
 |.inr r0=>
  some r0

def tZ (p0:List gQuad)(s:Int×(List gQuad)):Option (Flow (Int×(List gQuad)) ((List gQuad))):=
 match s with
 |(s2,s3)=>
 if ilt s2 (ilen p0)=true then
  (idx p0 s2).bind fun v5=>
  ((if ieq v5.Op 4=true then some true else some (ieq v5.Op 5)).bind fun g8=>
  if g8=true then
   (sV p0 v5.N).bind fun r9=>
   some (⟨v5.Op,v5.Dst,v5.A,v5.B,r9⟩:gQuad)
  else
   some v5).bind fun j1=>
  (appx 40 s3 ([j1]:List gQuad)).bind fun l7=>
  some (.next (iadd .i64 s2 1,l7))
 else
  some (.done s3)

def nR (p0:List gQuad):Option ((List gQuad)×Bool):=
 (kD p0).bind fun r1=>
 if bnot r1=true then
  some (([]:List gQuad),false)
 else
  (loopM (tZ p0) (0,([]:List gQuad))).bind fun e2=>
  match e2 with
  |y4=>
   some (y4,true)

def wV (p1:(List (List Bool)))(r2:List Int)(s3:Int)(s:Int×(List Bool)):Option (Flow (Int×(List Bool)) ((List Bool))):=
 match s with
 |(s6,s7)=>
 if ilt s6 12=true then
  (idx s7 s6).bind fun v9=>
  (if v9=true then some true else(idx r2 s3).bind fun v10=>(idx p1 v10).bind fun v11=>(idx v11 s6).bind fun v12=>some v12).bind fun g13=>
  (setx s7 s6 g13).bind fun l14=>
  some (.next (iadd .i64 s6 1,l14))
 else
  some (.done s7)

def wW (p1:(List (List Bool)))(r2:List Int)(s:Int×(List Bool)):Option (Flow (Int×(List Bool)) ((List Bool))):=
 match s with
 |(s3,s4)=>
 if ilt s3 (ilen r2)=true then
  (loopM (wV p1 r2 s3) (0,s4)).bind fun e1=>
  match e1 with
  |y8=>
   some (.next (iadd .i64 s3 1,y8))
 else
  some (.done s4)

def sJ (p0:List gQuad)(p1:(List (List Bool)))(p2:Int):Option ((List Bool)):=
 (makex 1 12 false).bind fun l1=>
 (wX p0 p2).bind fun r2=>
 (loopM (wW p1 r2) (0,l1)).bind fun e2=>
 match e2 with
 |y5=>
  some y5

def sK (p0:gQuad):Option ((List Int)):=
 (jA p0 600).bind fun r1=>
 if bnot r1=true then
  some ([]:List Int)
 else
  (if ieq p0.Op 2=true then
   some (ieq p0.Op 2)
  else
   if ieq p0.Op 5=true then
    some (ieq p0.Op 5)
   else
    if ieq p0.Op 6=true then
     some (ieq p0.Op 6)
    else
     some (ieq p0.Op 9)).bind fun j1=>
  if j1=true then
   some ([p0.A]:List Int)
  else
   if ieq p0.Op 3=true then
    if ieq p0.A p0.B=true then
     some ([p0.A]:List Int)
    else
     some ([imin p0.A p0.B,imax p0.A p0.B]:List Int)
   else
    some ([]:List Int)

def uO (r3:List Int)(s:Int×(List Bool)):Option (Flow (Int×(List Bool)) ((List Bool))):=
 match s with
 |(s4,s5)=>
 if ilt s4 (ilen r3)=true then
  (idx r3 s4).bind fun v7=>
  (idx s5 v7).bind fun v8=>
  (setx s5 v7 true).bind fun l9=>
  some (.next (iadd .i64 s4 1,l9))
 else
  some (.done s5)

def dI (p0:gQuad)(p1:List Bool):Option ((List Bool)):=
 (appx 1 ([]:List Bool) p1).bind fun l1=>
 ((wL p0).bind fun r10=>
 if ige r10 0=true then
  (idx l1 r10).bind fun v11=>
  (setx l1 r10 false).bind fun l12=>
  some l12
 else
  some l1).bind fun j1=>
 (sK p0).bind fun r3=>
 (loopM (uO r3) (0,j1)).bind fun e2=>
 match e2 with
 |y6=>
  some y6

def pH (p0:List Bool)(p1:List Bool)(s:Int):Option (Flow (Int) (Sum (Unit) (Bool))):=
 let s1:=s
 if ilt s1 (ilen p0)=true then
  (idx p0 s1).bind fun v2=>
  (idx p1 s1).bind fun v3=>
  if bneb v2 v3=true then
   some (.done (.inr false))
  else
   some (.next (iadd .i64 s1 1))
 else
  some (.done (.inl ()))

def hZ (p0:List Bool)(p1:List Bool):Option (Bool):=
 (loopM (pH p0 p1) 0).bind fun e1=>
 match e1 with
 |.inl _=>
  some (ieq (ilen p0) (ilen p1))
 |.inr r0=>
  some r0

def gA (p1:(List (List Bool)))(r2:List Int)(s3:Int)(s:Int×(List Bool)):Option (Flow (Int×(List Bool)) ((List Bool))):=
 match s with
 |(s6,s7)=>
 if ilt s6 12=true then
  (idx s7 s6).bind fun v9=>
  (if v9=true then some true else(idx r2 s3).bind fun v10=>(idx p1 v10).bind fun v11=>(idx v11 s6).bind fun v12=>some v12).bind fun g13=>
  (setx s7 s6 g13).bind fun l14=>
  some (.next (iadd .i64 s6 1,l14))
 else
  some (.done s7)

def gB (p1:(List (List Bool)))(r2:List Int)(s:Int×(List Bool)):Option (Flow (Int×(List Bool)) ((List Bool))):=
 match s with
 |(s3,s4)=>
 if ilt s3 (ilen r2)=true then
  (loopM (gA p1 r2 s3) (0,s4)).bind fun e1=>
  match e1 with
  |y8=>
   some (.next (iadd .i64 s3 1,y8))
 else
  some (.done s4)

def tB (p0:List gQuad)(p1:(List (List Bool)))(p2:Int):Option ((List Bool)):=
 (makex 1 12 false).bind fun l1=>
 (wX p0 p2).bind fun r2=>
 (loopM (gB p1 r2) (0,l1)).bind fun e2=>
 match e2 with
 |y5=>
  some y5

def mM (r3:List Int)(s:Int×(List Bool)):Option (Flow (Int×(List Bool)) ((List Bool))):=
 match s with
 |(s4,s5)=>
 if ilt s4 (ilen r3)=true then
  (idx r3 s4).bind fun v7=>
  (idx s5 v7).bind fun v8=>
  (setx s5 v7 true).bind fun l9=>
  some (.next (iadd .i64 s4 1,l9))
 else
  some (.done s5)

def wU (p0:gQuad)(p1:List Bool):Option ((List Bool)):=
 (appx 1 ([]:List Bool) p1).bind fun l1=>
 ((wL p0).bind fun r10=>
 if ige r10 0=true then
  (idx l1 r10).bind fun v11=>
  (setx l1 r10 false).bind fun l12=>
  some l12
 else
  some l1).bind fun j1=>
 (sK p0).bind fun r3=>
 (loopM (mM r3) (0,j1)).bind fun e2=>
 match e2 with
 |y6=>
  some y6

def oX (p0:List gQuad)(s:Bool×Int×(List (List Bool))):Option (Flow (Bool×Int×(List (List Bool))) (Bool×(List (List Bool)))):=
 match s with
 |(s1,s2,s3)=>
 if ige s2 0=true then
  (idx p0 s2).bind fun v6=>
  (tB p0 s3 s2).bind fun r7=>
  (wU v6 r7).bind fun r8=>
  (idx s3 s2).bind fun v9=>
  (hZ r8 v9).bind fun r10=>
  if bnot r10=true then
   (setx s3 s2 r8).bind fun l11=>
   some (.next (true,isub .i64 s2 1,l11))
  else
   (setx s3 s2 v9).bind fun l12=>
   some (.next (s1,isub .i64 s2 1,l12))
 else
  some (.done (s1,s3))

def nI (p0:List gQuad)(p1:(List (List Bool))):Option (Bool×(List (List Bool))):=
 (loopM (oX p0) (false,isub .i64 (ilen p0) 1,p1)).bind fun e1=>
 match e1 with
 |(y4,y5)=>
  some (y4,y5)

def qL (p0:List gQuad)(s:Int×(List (List Bool))):Option (Flow (Int×(List (List Bool))) ((List (List Bool)))):=
 match s with
 |(s2,s3)=>
 if ilt s2 (ilen p0)=true then
  (makex 1 12 false).bind fun l5=>
  (appx 24 s3 [l5]).bind fun l6=>
  some (.next (iadd .i64 s2 1,l6))
 else
  some (.done s3)

def dL (p0:List gQuad)(s:(List (List Bool))):Option (Flow ((List (List Bool))) ((List (List Bool)))):=
 let s7:=s
 (nI p0 s7).bind fun r9=>
 if r9.1=true then
  some (.next r9.2)
 else
  some (.done r9.2)

def fQ (p0:List gQuad):Option ((List (List Bool))):=
 (kD p0).bind fun r1=>
 if bnot r1=true then
  some ([]:List (List Bool))
 else
  (loopM (qL p0) (0,([]:List (List Bool)))).bind fun e1=>
  match e1 with
  |y4=>
   (loopM (dL p0) y4).bind fun e2=>
   match e2 with
   |y8=>
    some y8

def hG (p0:gQuad)(p1:List Bool):Option (Bool):=
 (if ieq p0.Op 1=true then
  some (ieq p0.Op 1)
 else
  if ieq p0.Op 2=true then
   some (ieq p0.Op 2)
  else
   some (ieq p0.Op 3)).bind fun j1=>
 if j1=true then
  (idx p1 p0.Dst).bind fun v2=>
  some (bnot v2)
 else
  some false

def sB (p0:List gQuad)(r2:(List (List Bool)))(s:Int×(List gQuad)):Option (Flow (Int×(List gQuad)) ((List gQuad))):=
 match s with
 |(s3,s4)=>
 if ilt s3 (ilen p0)=true then
  (idx p0 s3).bind fun v6=>
  ((sJ p0 r2 s3).bind fun r9=>
  (hG v6 r9).bind fun r10=>
  if r10=true then
   some (⟨4,0,0,0,iadd .i64 s3 1⟩:gQuad)
  else
   some v6).bind fun j1=>
  (appx 40 s4 ([j1]:List gQuad)).bind fun l8=>
  some (.next (iadd .i64 s3 1,l8))
 else
  some (.done s4)

def nT (p0:List gQuad):Option ((List gQuad)×Bool):=
 (kD p0).bind fun r1=>
 if bnot r1=true then
  some (([]:List gQuad),false)
 else
  (fQ p0).bind fun r2=>
  (loopM (sB p0 r2) (0,([]:List gQuad))).bind fun e2=>
  match e2 with
  |y5=>
   some (y5,true)

def pS (r7:List Int)(s:Bool×Int×(List Bool)):Option (Flow (Bool×Int×(List Bool)) (Bool×(List Bool))):=
 match s with
 |(s8,s9,s10)=>
 if ilt s9 (ilen r7)=true then
  (idx r7 s9).bind fun v13=>
  (idx s10 v13).bind fun v14=>
  if bnot v14=true then
   (setx s10 v13 true).bind fun l15=>
   some (.next (true,iadd .i64 s9 1,l15))
  else
   some (.next (s8,iadd .i64 s9 1,s10))
 else
  some (.done (s8,s10))

def pT (p0:List gQuad)(s:Bool×Int×(List Bool)):Option (Flow (Bool×Int×(List Bool)) (Bool×(List Bool))):=
 match s with
 |(s1,s2,s3)=>
 if ilt s2 (ilen p0)=true then
  (idx s3 s2).bind fun v6=>
  if bnot v6=true then
   some (.next (s1,iadd .i64 s2 1,s3))
  else
   (wX p0 s2).bind fun r7=>
   (loopM (pS r7) (s1,0,s3)).bind fun e1=>
   match e1 with
   |(y11,y12)=>
    some (.next (y11,iadd .i64 s2 1,y12))
 else
  some (.done (s1,s3))

def uE (p0:List gQuad)(p1:List Bool):Option (Bool×(List Bool)):=
 (loopM (pT p0) (false,0,p1)).bind fun e2=>
 match e2 with
 |(y4,y5)=>
  some (y4,y5)

def dB (p0:List gQuad)(s:List Bool):Option (Flow ((List Bool)) ((List Bool))):=
 let s5:=s
 (uE p0 s5).bind fun r7=>
 if r7.1=true then
  some (.next r7.2)
 else
  some (.done r7.2)

def mC (p0:List gQuad):Option ((List Bool)):=
 (kD p0).bind fun r1=>
 if bnot r1=true then
  some ([]:List Bool)
 else
  (makex 1 (ilen p0) false).bind fun l2=>
  (idx l2 0).bind fun v3=>
  (setx l2 0 true).bind fun l4=>
  (loopM (dB p0) l4).bind fun e1=>
  match e1 with
  |y6=>
   some y6

def mZ (p0:gQuad)(p1:Int):Option (Bool):=
 (if ieq p0.Op 4=true then
  some (ieq p0.Op 4)
 else
  some (ieq p0.Op 5)).bind fun j1=>
 if j1=true then
  some (ieq p0.N (iadd .i64 p1 1))
 else
  if ieq p0.Op 2=true then
   some (ieq p0.Dst p0.A)
  else
   some false

def mN (p0:List gQuad)(s:List Bool):Option (Flow ((List Bool)) ((List Bool))):=
 let s5:=s
 (uE p0 s5).bind fun r7=>
 if r7.1=true then
  some (.next r7.2)
 else
  some (.done r7.2)

def sD (p0:List gQuad):Option ((List Bool)):=
 (kD p0).bind fun r1=>
 if bnot r1=true then
  some ([]:List Bool)
 else
  (makex 1 (ilen p0) false).bind fun l2=>
  (idx l2 0).bind fun v3=>
  (setx l2 0 true).bind fun l4=>
  (loopM (mN p0) l4).bind fun e1=>
  match e1 with
  |y6=>
   some y6

def wT (p0:List Bool)(p1:Int)(s:Int×Int):Option (Flow (Int×Int) (Int)):=
 match s with
 |(s1,s2)=>
 if ilt s2 p1=true then
  (idx p0 s2).bind fun v4=>
  if v4=true then
   some (.next (iadd .i64 s1 1,iadd .i64 s2 1))
  else
   some (.next (s1,iadd .i64 s2 1))
 else
  some (.done s1)

def nD (p0:List Bool)(p1:Int):Option (Int):=
 (loopM (wT p0 p1) (0,0)).bind fun e1=>
 match e1 with
 |y3=>
  some y3

def jF (p0:List gQuad)(s:Int×(List Bool)):Option (Flow (Int×(List Bool)) ((List Bool))):=
 match s with
 |(s3,s4)=>
 if ilt s3 (ilen p0)=true then
  (idx s4 s3).bind fun v6=>
  (if v6=true then(idx p0 s3).bind fun v7=>(mZ v7 s3).bind fun r8=>some (bnot r8) else some false).bind fun g9=>
  (setx s4 s3 g9).bind fun l10=>
  some (.next (iadd .i64 s3 1,l10))
 else
  some (.done s4)

def tS (p0:List gQuad)(s:Int×(List Bool)×(List gQuad)):Option (Flow (Int×(List Bool)×(List gQuad)) ((List gQuad))):=
 match s with
 |(s11,s12,s13)=>
 if ilt s11 (ilen p0)=true then
  (idx p0 s11).bind fun v15=>
  (idx s12 s11).bind fun v16=>
  if bnot v16=true then
   some (.next (iadd .i64 s11 1,s12,s13))
  else
   ((if ieq v15.Op 4=true then some true else some (ieq v15.Op 5)).bind fun g19=>
   if g19=true then
    (nD s12 v15.N).bind fun r20=>
    some (⟨v15.Op,v15.Dst,v15.A,v15.B,r20⟩:gQuad)
   else
    some v15).bind fun j2=>
   (appx 40 s13 ([j2]:List gQuad)).bind fun l18=>
   some (.next (iadd .i64 s11 1,s12,l18))
 else
  some (.done s13)

def vE (p0:List gQuad):Option ((List gQuad)×Bool):=
 (kD p0).bind fun r1=>
 if bnot r1=true then
  some (([]:List gQuad),false)
 else
  (sD p0).bind fun r2=>
  (loopM (jF p0) (0,r2)).bind fun e1=>
  match e1 with
  |y5=>
   (loopM (tS p0) (0,y5,([]:List gQuad))).bind fun e3=>
   match e3 with
   |y14=>
    some (y14,true)

def mY (p0:List gQuad):Option ((List gQuad)):=
 (nS p0).bind fun r1=>
 (nU r1.1).bind fun r2=>
 (nR r2.1).bind fun r3=>
 (nT r3.1).bind fun r4=>
 (vE r4.1).bind fun r5=>
 some r5.1

def uG (p1:Int)(s:(List gQuad)×Int):Option (Flow ((List gQuad)×Int) ((List gQuad))):=
 match s with
 |(s5,s6)=>
 if ilt s6 p1=true then
  (mY s5).bind fun r8=>
  some (.next (r8,iadd .i64 s6 1))
 else
  some (.done s5)

def xM (p0:List gQuad)(p1:Int):Option ((List gQuad)×Bool):=
 (kD p0).bind fun r1=>
 (if bnot r1=true then some true else(yK p1 0 4).bind fun r2=>some (bnot r2)).bind fun g3=>
 if g3=true then
  some (([]:List gQuad),false)
 else
  (appx 40 ([]:List gQuad) p0).bind fun l4=>
  (loopM (uG p1) (l4,0)).bind fun e1=>
  match e1 with
  |y7=>
   some (y7,true)

def mS (p0:gL6Rd):Option ((List gQuad)×gL6Rd):=
 (zJ p0 2).bind fun r1=>
 if ieq r1.1 0=true then
  (uD r1.2).bind fun r2=>
  some (r2.1,r2.2)
 else
  (nB r1.2 2).bind fun r3=>
  (vI r3.1).bind fun r4=>
  if igt (ilen r4.1) 40=true then
   (uD r3.2).bind fun r5=>
   some (r5.1,r5.2)
  else
   (zJ r3.2 3).bind fun r6=>
   (quox .i64 r6.1 2).bind fun v7=>
   (xM r4.1 v7).bind fun r8=>
   some (r8.1,r6.2)

def sP (r1:Int×gL6Rd)(s:Int×gL6Rd×(List (List gQuad))):Option (Flow (Int×gL6Rd×(List (List gQuad))) (gL6Rd×(List (List gQuad)))):=
 match s with
 |(s2,s3,s4)=>
 if ilt s2 (iadd .i64 1 r1.1)=true then
  (mS s3).bind fun r7=>
  (appx 24 s4 ([r7.1]:List (List gQuad))).bind fun l8=>
  some (.next (iadd .i64 s2 1,r7.2,l8))
 else
  some (.done (s3,s4))

def uU (p0:gL6Rd):Option ((List (List gQuad))×gL6Rd):=
 (zJ p0 3).bind fun r1=>
 (loopM (sP r1) (0,r1.2,([]:List (List gQuad)))).bind fun e1=>
 match e1 with
 |(y5,y6)=>
  some (y6,y5)

def yF (p0:List Int):Option ((List Int)×(List (List gQuad))):=
 (nC p0).bind fun r1=>
 (zJ r1 2).bind fun r2=>
 (zJ r2.2 4).bind fun r3=>
 (some ([iadd .i64 1 r2.1,iadd .i64 1 r3.1]:List Int)).bind fun l4=>
 (uU r3.2).bind fun r5=>
 (zJ r5.2 24).bind fun r6=>
 if ieq r6.1 0=true then
  some (([]:List Int),r5.1)
 else
  if ieq r6.1 1=true then
   (idx l4 0).bind fun v7=>
   (setx l4 0 5).bind fun l8=>
   some (l8,r5.1)
  else
   if ieq r6.1 2=true then
    (appx 24 r5.1 [([]:List gQuad)]).bind fun l9=>
    some (l4,l9)
   else
    some (l4,r5.1)

def kC (p0:List gQuad):Option ((List gQuad)):=
 if false=true then
  some ([]:List gQuad)
 else
  (appx 40 ([]:List gQuad) p0).bind fun l1=>
  some l1

def xW (p0:(List (List gQuad)))(s:Int×(List (List gQuad))):Option (Flow (Int×(List (List gQuad))) ((List (List gQuad)))):=
 match s with
 |(s1,s2)=>
 if ilt s1 (ilen p0)=true then
  (idx p0 s1).bind fun v4=>
  (kC v4).bind fun r5=>
  (appx 24 s2 ([r5]:List (List gQuad))).bind fun l6=>
  some (.next (iadd .i64 s1 1,l6))
 else
  some (.done s2)

def uL (p0:(List (List gQuad))):Option ((List (List gQuad))):=
 (loopM (xW p0) (0,([]:List (List gQuad)))).bind fun e1=>
 match e1 with
 |y3=>
  some y3

def vV (p0:List Int)(s:Int×(List gBox)):Option (Flow (Int×(List gBox)) ((List gBox))):=
 match s with
 |(s1,s2)=>
 if ilt s1 (ilen p0)=true then
  (idx p0 s1).bind fun v4=>
  (appx 32 s2 ([(⟨v4,([]:List Int)⟩:gBox)]:List gBox)).bind fun l5=>
  some (.next (iadd .i64 s1 1,l5))
 else
  some (.done s2)

def oD (p0:List Int):Option ((List gBox)):=
 (loopM (vV p0) (0,([]:List gBox))).bind fun e1=>
 match e1 with
 |y3=>
  some y3

def jX (p0:List Int)(s:Int):Option (Flow (Int) (Sum (Unit) (Bool))):=
 let s1:=s
 if ilt s1 (ilen p0)=true then
  (idx p0 s1).bind fun v2=>
  (if ilt v2 1=true then some true else some (igt v2 4)).bind fun g3=>
  if g3=true then
   some (.done (.inr false))
  else
   some (.next (iadd .i64 s1 1))
 else
  some (.done (.inl ()))

def tL (p0:List Int):Option (Bool):=
 (loopM (jX p0) 0).bind fun e1=>
 match e1 with
 |.inl _=>
  some (ile (ilen p0) 3)
 |.inr r0=>
  some r0

def wH (p0:Int):Option (Bool):=
 (if ige p0 (-2147483648)=true then some (ile p0 2147483647) else some false).bind fun g1=>
 some g1

def vW (p0:List Int)(s:Int):Option (Flow (Int) (Sum (Unit) (Bool))):=
 let s1:=s
 if ilt s1 (ilen p0)=true then
  (idx p0 s1).bind fun v2=>
  (wH v2).bind fun r3=>
  if bnot r3=true then
   some (.done (.inr false))
  else
   some (.next (iadd .i64 s1 1))
 else
  some (.done (.inl ()))

def uM (p0:List Int):Option (Bool):=
 (loopM (vW p0) 0).bind fun e1=>
 match e1 with
 |.inl _=>
  some true
 |.inr r0=>
  some r0

def pN (p0:Int)(p1:Int)(p2:Int)(p3:List Int):Option (Bool):=
 (if ige p0 1=true then some (ile p0 3) else some false).bind fun g1=>
 (if g1=true then some (ige p1 0) else some false).bind fun g2=>
 (if g2=true then some (ilt p1 p0) else some false).bind fun g3=>
 (if g3=true then some (ige p2 0) else some false).bind fun g4=>
 (if g4=true then some (ile p2 p0) else some false).bind fun g5=>
 (if g5=true then(uM p3).bind fun r6=>some r6 else some false).bind fun g7=>
 some g7

def oI (p0:gBox):Option (Bool):=
 (if ige p0.Room 1=true then some (ile p0.Room 4) else some false).bind fun g1=>
 (if g1=true then some (ile (ilen p0.Items) p0.Room) else some false).bind fun g2=>
 (if g2=true then(uM p0.Items).bind fun r3=>some r3 else some false).bind fun g4=>
 some g4

def xC (p0:List gBox)(s:Int):Option (Flow (Int) (Sum (Unit) (Bool))):=
 let s1:=s
 if ilt s1 (ilen p0)=true then
  (idx p0 s1).bind fun v2=>
  (oI v2).bind fun r3=>
  if bnot r3=true then
   some (.done (.inr false))
  else
   some (.next (iadd .i64 s1 1))
 else
  some (.done (.inl ()))

def tM (p0:List gBox):Option (Bool):=
 (loopM (xC p0) 0).bind fun e1=>
 match e1 with
 |.inl _=>
  some (ile (ilen p0) 3)
 |.inr r0=>
  some r0

def i_isReg (p0:Int):Option (Bool):=
 (if ige p0 0=true then some (ilt p0 12) else some false).bind fun g1=>
 some g1

def cO (p0:Int):Option (Bool):=
 (if ige p0 1=true then some (ile p0 12) else some false).bind fun g1=>
 some g1

def qZ (p0:gQuad)(p1:Int):Option (Bool):=
 (i_isReg p0.Dst).bind fun r1=>
 (i_isReg p0.A).bind fun r2=>
 (i_isReg p0.B).bind fun r3=>
 if ieq p0.Op 1=true then
  (if eqD p0 (⟨1,p0.Dst,0,0,p0.N⟩:gQuad)=true then some r1 else some false).bind fun g4=>
  (if g4=true then(wH p0.N).bind fun r5=>some r5 else some false).bind fun g6=>
  some g6
 else
  if ieq p0.Op 2=true then
   (if eqD p0 (⟨2,p0.Dst,p0.A,0,0⟩:gQuad)=true then some r1 else some false).bind fun g7=>
   (if g7=true then some r2 else some false).bind fun g8=>
   some g8
  else
   if ieq p0.Op 3=true then
    (if r1=true then some r2 else some false).bind fun g9=>
    (if g9=true then some r3 else some false).bind fun g10=>
    (if g10=true then(cO p0.N).bind fun r11=>some r11 else some false).bind fun g12=>
    some g12
   else
    if ieq p0.Op 4=true then
     (if eqD p0 (⟨4,0,0,0,p0.N⟩:gQuad)=true then some (ige p0.N 0) else some false).bind fun g13=>
     (if g13=true then some (ilt p0.N p1) else some false).bind fun g14=>
     some g14
    else
     if ieq p0.Op 5=true then
      (if eqD p0 (⟨5,0,p0.A,0,p0.N⟩:gQuad)=true then some r2 else some false).bind fun g15=>
      (if g15=true then some (ige p0.N 0) else some false).bind fun g16=>
      (if g16=true then some (ilt p0.N p1) else some false).bind fun g17=>
      some g17
     else
      if ieq p0.Op 6=true then
       (if eqD p0 (⟨6,0,p0.A,0,p0.N⟩:gQuad)=true then some r2 else some false).bind fun g18=>
       (if g18=true then some (ige p0.N 0) else some false).bind fun g19=>
       (if g19=true then some (ilt p0.N 3) else some false).bind fun g20=>
       some g20
      else
       if ieq p0.Op 7=true then
        (if eqD p0 (⟨7,p0.Dst,0,0,p0.N⟩:gQuad)=true then some r1 else some false).bind fun g21=>
        (if g21=true then some (ige p0.N 0) else some false).bind fun g22=>
        (if g22=true then some (ilt p0.N 3) else some false).bind fun g23=>
        some g23
       else
        if ieq p0.Op 9=true then
         (if eqD p0 (⟨9,0,p0.A,0,0⟩:gQuad)=true then some r2 else some false).bind fun g24=>
         some g24
        else
         (if ieq p0.Op 8=true then
          some (ieq p0.Op 8)
         else
          some (ieq p0.Op 10)).bind fun j1=>
         if j1=true then
          some (eqD p0 (⟨p0.Op,0,0,0,0⟩:gQuad))
         else
          some false

def uS (p0:List gQuad)(s:Int):Option (Flow (Int) (Sum (Unit) (Bool))):=
 let s2:=s
 if ilt s2 (ilen p0)=true then
  (idx p0 s2).bind fun v3=>
  (qZ v3 (ilen p0)).bind fun r4=>
  if bnot r4=true then
   some (.done (.inr false))
  else
   some (.next (iadd .i64 s2 1))
 else
  some (.done (.inl ()))

def jD (p0:List gQuad):Option (Bool):=
 (if ilt (ilen p0) 1=true then some true else some (igt (ilen p0) 600)).bind fun g1=>
 if g1=true then
  some false
 else
  (loopM (uS p0) 0).bind fun e1=>
  match e1 with
  |.inl _=>
   (idx p0 (isub .i64 (ilen p0) 1)).bind fun v5=>
   (if ieq v5.Op 10=true then some true else some (ieq v5.Op 4)).bind fun g6=>
   some g6
  |.inr r0=>
   some r0

def tK (p0:gThread)(p1:List gQuad):Option (Bool):=
 (if ieq (ilen p0.Regs) 12=true then(uM p0.Regs).bind fun r1=>some r1 else some false).bind fun g2=>
 (if g2=true then some (ige p0.Pc 0) else some false).bind fun g3=>
 (if g3=true then some (ilt p0.Pc (ilen p1)) else some false).bind fun g4=>
 some g4

def xI (p0:gThread)(p1:List gQuad):Option (Bool):=
 (jD p1).bind fun r1=>
 (if r1=true then(tK p0 p1).bind fun r2=>some r2 else some false).bind fun g3=>
 some g3

def oF (p0:gQuad)(p1:Int):Option (Bool):=
 (if ine p0.Op 6=true then some (ine p0.Op 7) else some false).bind fun g1=>
 (if g1=true then some true else some (ilt p0.N p1)).bind fun g2=>
 some g2

def jL (p0:gCrew)(v6:List gQuad)(s:Int):Option (Flow (Int) (Sum (Unit) (Bool))):=
 let s9:=s
 if ilt s9 (ilen v6)=true then
  (idx v6 s9).bind fun v10=>
  (oF v10 (ilen p0.Boxes)).bind fun r11=>
  if bnot r11=true then
   some (.done (.inr false))
  else
   some (.next (iadd .i64 s9 1))
 else
  some (.done (.inl ()))

def xX (p0:gCrew)(s:Int):Option (Flow (Int) (Sum (Unit) (Bool))):=
 let s5:=s
 if ilt s5 (ilen p0.Codes)=true then
  (idx p0.Codes s5).bind fun v6=>
  (idx p0.Threads s5).bind fun v7=>
  (xI v7 v6).bind fun r8=>
  if bnot r8=true then
   some (.done (.inr false))
  else
   (loopM (jL p0 v6) 0).bind fun e1=>
   match e1 with
   |.inl _=>
    some (.next (iadd .i64 s5 1))
   |.inr r0=>
    some (.done (.inr r0))
 else
  some (.done (.inl ()))

def wI (p0:gCrew):Option (Bool):=
 (pN (ilen p0.Codes) p0.Turn p0.Idle p0.Out).bind fun r1=>
 (if bnot r1=true then some true else some (ine (ilen p0.Threads) (ilen p0.Codes))).bind fun g2=>
 (if g2=true then some true else(tM p0.Boxes).bind fun r3=>some (bnot r3)).bind fun g4=>
 if g4=true then
  some false
 else
  (loopM (xX p0) 0).bind fun e2=>
  match e2 with
  |.inl _=>
   some true
  |.inr r0=>
   some r0

def tO (p1:(List (List gQuad)))(s:Int×gCrew×gCrew):Option (Flow (Int×gCrew×gCrew) (gCrew×gCrew)):=
 match s with
 |(s3,s4,s5)=>
 if ilt s3 (ilen p1)=true then
  (makex 8 12 0).bind fun l8=>
  (appx 32 s5.Threads ([(⟨l8,0⟩:gThread)]:List gThread)).bind fun l9=>
  some (.next (iadd .i64 s3 1,s4,(⟨s5.Codes,l9,s5.Boxes,s5.Turn,s5.Idle,s5.Out⟩:gCrew)))
 else
  some (.done (s4,s5))

def xY (p0:List Int)(p1:(List (List gQuad))):Option (gCrew×Bool):=
 (uL p1).bind fun r1=>
 (oD p0).bind fun r2=>
 (loopM (tO p1) (0,(⟨([]:List (List gQuad)),([]:List gThread),([]:List gBox),0,0,([]:List Int)⟩:gCrew),(⟨r1,([]:List gThread),r2,0,0,([]:List Int)⟩:gCrew))).bind fun e1=>
 match e1 with
 |(y6,y7)=>
  (tL p0).bind fun r11=>
  (if bnot r11=true then some true else(wI y7).bind fun r12=>some (bnot r12)).bind fun g13=>
  if g13=true then
   some ((⟨([]:List (List gQuad)),([]:List gThread),([]:List gBox),0,0,([]:List Int)⟩:gCrew),false)
  else
   some (y7,true)

def vC (p0:List Int)(s:Int):Option (Flow (Int) (Sum (Unit) (Bool))):=
 let s1:=s
 if ilt s1 (ilen p0)=true then
  (idx p0 s1).bind fun v2=>
  (yK v2 1 4).bind fun r3=>
  if bnot r3=true then
   some (.done (.inr false))
  else
   some (.next (iadd .i64 s1 1))
 else
  some (.done (.inl ()))

def nP (p0:List Int):Option (Bool):=
 (loopM (vC p0) 0).bind fun e1=>
 match e1 with
 |.inl _=>
  some (ile (ilen p0) 3)
 |.inr r0=>
  some r0

def wY (p0:(List (List gQuad)))(s:Int×(List (List gQuad))):Option (Flow (Int×(List (List gQuad))) ((List (List gQuad)))):=
 match s with
 |(s1,s2)=>
 if ilt s1 (ilen p0)=true then
  (idx p0 s1).bind fun v4=>
  (appx 40 ([]:List gQuad) v4).bind fun l5=>
  (appx 24 s2 ([l5]:List (List gQuad))).bind fun l6=>
  some (.next (iadd .i64 s1 1,l6))
 else
  some (.done s2)

def nM (p0:(List (List gQuad))):Option ((List (List gQuad))):=
 (loopM (wY p0) (0,([]:List (List gQuad)))).bind fun e1=>
 match e1 with
 |y3=>
  some y3

def vA (p0:List Int)(s:Int×(List gBox)):Option (Flow (Int×(List gBox)) ((List gBox))):=
 match s with
 |(s1,s2)=>
 if ilt s1 (ilen p0)=true then
  (idx p0 s1).bind fun v4=>
  (appx 32 s2 ([(⟨v4,([]:List Int)⟩:gBox)]:List gBox)).bind fun l5=>
  some (.next (iadd .i64 s1 1,l5))
 else
  some (.done s2)

def nN (p0:List Int):Option ((List gBox)):=
 (loopM (vA p0) (0,([]:List gBox))).bind fun e1=>
 match e1 with
 |y3=>
  some y3

def uX (p0:List Int)(s:Int):Option (Flow (Int) (Sum (Unit) (Bool))):=
 let s1:=s
 if ilt s1 (ilen p0)=true then
  (idx p0 s1).bind fun v2=>
  (yC v2).bind fun r3=>
  if bnot r3=true then
   some (.done (.inr false))
  else
   some (.next (iadd .i64 s1 1))
 else
  some (.done (.inl ()))

def sU (p0:List Int)(p1:Int):Option (Bool):=
 if ine (ilen p0) p1=true then
  some false
 else
  (loopM (uX p0) 0).bind fun e1=>
  match e1 with
  |.inl _=>
   some true
  |.inr r0=>
   some r0

def uH (p0:gBox):Option (Bool):=
 (yK p0.Room 1 4).bind fun r1=>
 (if r1=true then some (ile (ilen p0.Items) p0.Room) else some false).bind fun g2=>
 (if g2=true then(sU p0.Items (ilen p0.Items)).bind fun r3=>some r3 else some false).bind fun g4=>
 some g4

def vB (p0:List gBox)(s:Int):Option (Flow (Int) (Sum (Unit) (Bool))):=
 let s1:=s
 if ilt s1 (ilen p0)=true then
  (idx p0 s1).bind fun v2=>
  (uH v2).bind fun r3=>
  if bnot r3=true then
   some (.done (.inr false))
  else
   some (.next (iadd .i64 s1 1))
 else
  some (.done (.inl ()))

def nO (p0:List gBox):Option (Bool):=
 (loopM (vB p0) 0).bind fun e1=>
 match e1 with
 |.inl _=>
  some (ile (ilen p0) 3)
 |.inr r0=>
  some r0

def gE (p0:gThread)(p1:Int):Option (Bool):=
 (sU p0.Regs 12).bind fun r1=>
 (if r1=true then(yK p0.Pc 0 (isub .i64 p1 1)).bind fun r2=>some r2 else some false).bind fun g3=>
 some g3

def yZ (p0:gThread)(p1:List gQuad):Option (Bool):=
 (kD p1).bind fun r1=>
 (if r1=true then(gE p0 (ilen p1)).bind fun r2=>some r2 else some false).bind fun g3=>
 some g3

def gD (p0:gQuad)(p1:Int):Option (Bool):=
 (if ine p0.Op 6=true then some (ine p0.Op 7) else some false).bind fun g1=>
 (if g1=true then some true else some (ilt p0.N p1)).bind fun g2=>
 some g2

def tC (p0:List gQuad)(p1:Int)(s:Int):Option (Flow (Int) (Sum (Unit) (Bool))):=
 let s1:=s
 if ilt s1 (ilen p0)=true then
  (idx p0 s1).bind fun v2=>
  (gD v2 p1).bind fun r3=>
  if bnot r3=true then
   some (.done (.inr false))
  else
   some (.next (iadd .i64 s1 1))
 else
  some (.done (.inl ()))

def gC (p0:List gQuad)(p1:Int):Option (Bool):=
 (loopM (tC p0 p1) 0).bind fun e1=>
 match e1 with
 |.inl _=>
  some true
 |.inr r0=>
  some r0

def xO (p0:gCrew)(s:Int):Option (Flow (Int) (Sum (Unit) (Bool))):=
 let s9:=s
 if ilt s9 (ilen p0.Threads)=true then
  (idx p0.Threads s9).bind fun v10=>
  (idx p0.Codes s9).bind fun v11=>
  (yZ v10 v11).bind fun r12=>
  (if bnot r12=true then some true else(gC v11 (ilen p0.Boxes)).bind fun r13=>some (bnot r13)).bind fun g14=>
  if g14=true then
   some (.done (.inr false))
  else
   some (.next (iadd .i64 s9 1))
 else
  some (.done (.inl ()))

def qM (p0:gCrew):Option (Bool):=
 (yK (ilen p0.Threads) 1 3).bind fun r1=>
 (if bnot r1=true then some true else some (ine (ilen p0.Codes) (ilen p0.Threads))).bind fun g2=>
 (if g2=true then some true else(nO p0.Boxes).bind fun r3=>some (bnot r3)).bind fun g4=>
 (if g4=true then some true else(yK p0.Turn 0 (isub .i64 (ilen p0.Threads) 1)).bind fun r5=>some (bnot r5)).bind fun g6=>
 (if g6=true then some true else(yK p0.Idle 0 (ilen p0.Threads)).bind fun r7=>some (bnot r7)).bind fun g8=>
 if g8=true then
  some false
 else
  (loopM (xO p0) 0).bind fun e1=>
  match e1 with
  |.inl _=>
   (sU p0.Out (ilen p0.Out)).bind fun r15=>
   some r15
  |.inr r0=>
   some r0

def tH (p1:(List (List gQuad)))(s:Int×gCrew×gCrew):Option (Flow (Int×gCrew×gCrew) (gCrew×gCrew)):=
 match s with
 |(s5,s6,s7)=>
 if ilt s5 (ilen p1)=true then
  (makex 8 12 0).bind fun l10=>
  (appx 32 s7.Threads ([(⟨l10,0⟩:gThread)]:List gThread)).bind fun l11=>
  some (.next (iadd .i64 s5 1,s6,(⟨s7.Codes,l11,s7.Boxes,s7.Turn,s7.Idle,s7.Out⟩:gCrew)))
 else
  some (.done (s6,s7))

def vG (p0:List Int)(p1:(List (List gQuad))):Option (gCrew×Bool):=
 (nP p0).bind fun r1=>
 if bnot r1=true then
  some ((⟨([]:List (List gQuad)),([]:List gThread),([]:List gBox),0,0,([]:List Int)⟩:gCrew),false)
 else
  (nM p1).bind fun r2=>
  (some ([]:List gThread)).bind fun l3=>
  (nN p0).bind fun r4=>
  (loopM (tH p1) (0,(⟨([]:List (List gQuad)),([]:List gThread),([]:List gBox),0,0,([]:List Int)⟩:gCrew),(⟨r2,l3,r4,0,0,([]:List Int)⟩:gCrew))).bind fun e1=>
  match e1 with
  |(y8,y9)=>
   (qM y9).bind fun r12=>
   if bnot r12=true then
    some ((⟨([]:List (List gQuad)),([]:List gThread),([]:List gBox),0,0,([]:List Int)⟩:gCrew),false)
   else
    some (y9,true)

def vN (p0:List gQuad)(p1:List gQuad)(s:Int):Option (Flow (Int) (Sum (Unit) (Bool))):=
 let s1:=s
 if ilt s1 (ilen p0)=true then
  (idx p0 s1).bind fun v2=>
  (idx p1 s1).bind fun v3=>
  if bnot (eqD v2 v3)=true then
   some (.done (.inr false))
  else
   some (.next (iadd .i64 s1 1))
 else
  some (.done (.inl ()))

def oA (p0:List gQuad)(p1:List gQuad):Option (Bool):=
 if ine (ilen p0) (ilen p1)=true then
  some false
 else
  (loopM (vN p0 p1) 0).bind fun e1=>
  match e1 with
  |.inl _=>
   some true
  |.inr r0=>
   some r0

def xS (p0:(List (List gQuad)))(p1:(List (List gQuad)))(s:Int):Option (Flow (Int) (Sum (Unit) (Bool))):=
 let s1:=s
 if ilt s1 (ilen p0)=true then
  (idx p0 s1).bind fun v2=>
  (idx p1 s1).bind fun v3=>
  (oA v2 v3).bind fun r4=>
  if bnot r4=true then
   some (.done (.inr false))
  else
   some (.next (iadd .i64 s1 1))
 else
  some (.done (.inl ()))

def qS (p0:(List (List gQuad)))(p1:(List (List gQuad))):Option (Bool):=
 if ine (ilen p0) (ilen p1)=true then
  some false
 else
  (loopM (xS p0 p1) 0).bind fun e1=>
  match e1 with
  |.inl _=>
   some true
  |.inr r0=>
   some r0

def vM (p0:List Int)(p1:List Int)(s:Int):Option (Flow (Int) (Sum (Unit) (Bool))):=
 let s1:=s
 if ilt s1 (ilen p0)=true then
  (idx p0 s1).bind fun v2=>
  (idx p1 s1).bind fun v3=>
  if ine v2 v3=true then
   some (.done (.inr false))
  else
   some (.next (iadd .i64 s1 1))
 else
  some (.done (.inl ()))

def jK (p0:List Int)(p1:List Int):Option (Bool):=
 if ine (ilen p0) (ilen p1)=true then
  some false
 else
  (loopM (vM p0 p1) 0).bind fun e1=>
  match e1 with
  |.inl _=>
   some true
  |.inr r0=>
   some r0

def tJ (p0:gThread)(p1:gThread):Option (Bool):=
 (if ieq p0.Pc p1.Pc=true then(jK p0.Regs p1.Regs).bind fun r1=>some r1 else some false).bind fun g2=>
 some g2

def gT (p0:gBox)(p1:gBox):Option (Bool):=
 (if ieq p0.Room p1.Room=true then(jK p0.Items p1.Items).bind fun r1=>some r1 else some false).bind fun g2=>
 some g2

def xT (p0:List gBox)(p1:List gBox)(s:Int):Option (Flow (Int) (Sum (Unit) (Bool))):=
 let s1:=s
 if ilt s1 (ilen p0)=true then
  (idx p0 s1).bind fun v2=>
  (idx p1 s1).bind fun v3=>
  (gT v2 v3).bind fun r4=>
  if bnot r4=true then
   some (.done (.inr false))
  else
   some (.next (iadd .i64 s1 1))
 else
  some (.done (.inl ()))

def qT (p0:List gBox)(p1:List gBox):Option (Bool):=
 if ine (ilen p0) (ilen p1)=true then
  some false
 else
  (loopM (xT p0 p1) 0).bind fun e1=>
  match e1 with
  |.inl _=>
   some true
  |.inr r0=>
   some r0

def yO (p0:gCrew)(p1:gCrew)(s:Int):Option (Flow (Int) (Sum (Unit) (Bool))):=
 let s3:=s
 if ilt s3 (ilen p0.Threads)=true then
  (idx p0.Threads s3).bind fun v4=>
  (idx p1.Threads s3).bind fun v5=>
  if ine v4.Pc v5.Pc=true then
   some (.done (.inr false))
  else
   some (.next (iadd .i64 s3 1))
 else
  some (.done (.inl ()))

def xH (p0:gCrew)(p1:gCrew):Option (Bool):=
 (if ine (ilen p0.Threads) (ilen p1.Threads)=true then some true else some (ine p0.Turn p1.Turn)).bind fun g1=>
 (if g1=true then some true else some (ine p0.Idle p1.Idle)).bind fun g2=>
 if g2=true then
  some false
 else
  (loopM (yO p0 p1) 0).bind fun e1=>
  match e1 with
  |.inl _=>
   (qT p0.Boxes p1.Boxes).bind fun r6=>
   (if r6=true then(jK p0.Out p1.Out).bind fun r7=>some r7 else some false).bind fun g8=>
   some g8
  |.inr r0=>
   some r0

def xP (p0:gCrew)(p1:gCrew)(s:Int):Option (Flow (Int) (Sum (Unit) (Bool))):=
 let s1:=s
 if ilt s1 (ilen p0.Threads)=true then
  (idx p0.Threads s1).bind fun v2=>
  (idx p1.Threads s1).bind fun v3=>
  (tJ v2 v3).bind fun r4=>
  if bnot r4=true then
   some (.done (.inr false))
  else
   some (.next (iadd .i64 s1 1))
 else
  some (.done (.inl ()))

def qP (p0:gCrew)(p1:gCrew):Option (Bool):=
 if ine (ilen p0.Threads) (ilen p1.Threads)=true then
  some false
 else
  (loopM (xP p0 p1) 0).bind fun e1=>
  match e1 with
  |.inl _=>
   (xH p0 p1).bind fun r5=>
   some r5
  |.inr r0=>
   some r0

def kY (p0:gCrew)(p1:gCrew):Option (Bool):=
 (qS p0.Codes p1.Codes).bind fun r1=>
 (if r1=true then(qP p0 p1).bind fun r2=>some r2 else some false).bind fun g3=>
 some g3

def vS (p0:gQuad)(p1:Int):Option ((List Int)):=
 if ieq p0.Op 10=true then
  some ([]:List Int)
 else
  if ieq p0.Op 4=true then
   some ([p0.N]:List Int)
  else
   (if ieq p0.Op 5=true then some (ilt p0.N (iadd .i64 p1 1)) else some false).bind fun g1=>
   if g1=true then
    some ([p0.N,iadd .i64 p1 1]:List Int)
   else
    (if ieq p0.Op 5=true then some (igt p0.N (iadd .i64 p1 1)) else some false).bind fun g2=>
    if g2=true then
     some ([iadd .i64 p1 1,p0.N]:List Int)
    else
     some ([iadd .i64 p1 1]:List Int)

def vT (p1:List Int)(r2:List Int)(s:Int×Int):Option (Flow (Int×Int) (Int)):=
 match s with
 |(s3,s4)=>
 if ilt s4 (ilen r2)=true then
  (idx r2 s4).bind fun v6=>
  (idx p1 v6).bind fun v7=>
  some (.next (ior .u16 s3 v7,iadd .i64 s4 1))
 else
  some (.done s3)

def wM (p0:List gQuad)(p1:List Int)(p2:Int):Option (Int):=
 (idx p0 p2).bind fun v1=>
 (vS v1 p2).bind fun r2=>
 (loopM (vT p1 r2) (0,0)).bind fun e1=>
 match e1 with
 |y5=>
  some y5

def fU (p0:gQuad):Option (Int):=
 (if ieq p0.Op 1=true then
  some (ieq p0.Op 1)
 else
  if ieq p0.Op 2=true then
   some (ieq p0.Op 2)
  else
   if ieq p0.Op 3=true then
    some (ieq p0.Op 3)
   else
    some (ieq p0.Op 7)).bind fun j1=>
 if j1=true then
  some p0.Dst
 else
  some (-1)

def cL (p0:gQuad):Option (Int):=
 (if ieq p0.Op 2=true then
  some (ieq p0.Op 2)
 else
  if ieq p0.Op 5=true then
   some (ieq p0.Op 5)
  else
   if ieq p0.Op 6=true then
    some (ieq p0.Op 6)
   else
    some (ieq p0.Op 9)).bind fun j1=>
 if j1=true then
  (shlx .u16 1 p0.A).bind fun v2=>
  some v2
 else
  if ieq p0.Op 3=true then
   (shlx .u16 1 p0.A).bind fun v3=>
   (shlx .u16 1 p0.B).bind fun v4=>
   some (ior .u16 v3 v4)
  else
   some 0

def vU (p0:List gQuad)(s:Bool×Int×(List Int)):Option (Flow (Bool×Int×(List Int)) (Bool×(List Int))):=
 match s with
 |(s5,s6,s7)=>
 if ige s6 0=true then
  (wM p0 s7 s6).bind fun r10=>
  ((idx p0 s6).bind fun v16=>
  (fU v16).bind fun r17=>
  if ige r17 0=true then
   (shlx .u16 1 r17).bind fun v18=>
   some (iandNot .u16 r10 v18)
  else
   some r10).bind fun j1=>
  (idx p0 s6).bind fun v12=>
  (cL v12).bind fun r13=>
  (idx s7 s6).bind fun v14=>
  if ine (ior .u16 j1 r13) v14=true then
   (setx s7 s6 (ior .u16 j1 r13)).bind fun l15=>
   some (.next (true,isub .i64 s6 1,l15))
  else
   some (.next (s5,isub .i64 s6 1,s7))
 else
  some (.done (s5,s7))

def qX (p0:List gQuad)(s:Bool×(List Int)):Option (Flow (Bool×(List Int)) ((List Int))):=
 match s with
 |(s2,s3)=>
 if s2=true then
  (loopM (vU p0) (false,isub .i64 (ilen p0) 1,s3)).bind fun e2=>
  match e2 with
  |(y8,y9)=>
   some (.next (y8,y9))
 else
  some (.done s3)

def yP (p0:List gQuad):Option ((List Int)):=
 (makex 2 (ilen p0) 0).bind fun l1=>
 (loopM (qX p0) (true,l1)).bind fun e3=>
 match e3 with
 |y4=>
  some y4

def jY (p0:Int)(p1:Int):Option (Bool):=
 (shrx .u16 p0 p1).bind fun v1=>
 some (ieq (iand .u16 v1 1) 1)

def kJ (p0:List Int):Option ((List Int)):=
 if false=true then
  some ([]:List Int)
 else
  (appx 8 ([]:List Int) p0).bind fun l1=>
  some l1

def uR (p0:List gBox)(s:Int×(List gBox)):Option (Flow (Int×(List gBox)) ((List gBox))):=
 match s with
 |(s1,s2)=>
 if ilt s1 (ilen p0)=true then
  (idx p0 s1).bind fun v4=>
  (kJ v4.Items).bind fun r5=>
  (appx 32 s2 ([(⟨v4.Room,r5⟩:gBox)]:List gBox)).bind fun l6=>
  some (.next (iadd .i64 s1 1,l6))
 else
  some (.done s2)

def dS (p0:List gBox):Option ((List gBox)):=
 (loopM (uR p0) (0,([]:List gBox))).bind fun e1=>
 match e1 with
 |y3=>
  some y3

def i_truth (p0:Bool):Option (Int):=
 if p0=true then
  some 1
 else
  some 0

def cM (p0:Int):Option (Int):=
 some (iconv .i64 (iconv .i32 p0))

def mE (p0:Int)(p1:Int)(p2:Int):Option (Int):=
 if ieq p0 1=true then
  some (ior .i64 p1 p2)
 else
  if ieq p0 2=true then
   some (ixor .i64 p1 p2)
  else
   if ieq p0 3=true then
    some (iand .i64 p1 p2)
   else
    if ieq p0 4=true then
     (i_truth (ieq p1 p2)).bind fun r1=>
     some r1
    else
     if ieq p0 5=true then
      (i_truth (ilt p1 p2)).bind fun r2=>
      some r2
     else
      if ieq p0 6=true then
       (shlx .i64 p1 (iand .i64 p2 31)).bind fun v3=>
       (cM v3).bind fun r4=>
       some r4
      else
       if ieq p0 7=true then
        (shrx .i64 p1 (iand .i64 p2 31)).bind fun v5=>
        some v5
       else
        if ieq p0 8=true then
         (cM (iadd .i64 p1 p2)).bind fun r6=>
         some r6
        else
         if ieq p0 9=true then
          (cM (isub .i64 p1 p2)).bind fun r7=>
          some r7
         else
          if ieq p0 10=true then
           (cM (imul .i64 p1 p2)).bind fun r8=>
           some r8
          else
           if ieq p0 11=true then
            if ieq p2 0=true then
             some (-1)
            else
             (quox .i64 p1 p2).bind fun v9=>
             (cM v9).bind fun r10=>
             some r10
           else
            if ieq p2 0=true then
             some p1
            else
             (remx p1 p2).bind fun v11=>
             some v11

def gZ (p0:gBox)(p1:Int):Option (Bool×gBox):=
 if ieq (ilen p0.Items) p0.Room=true then
  some (false,p0)
 else
  (appx 8 p0.Items ([p1]:List Int)).bind fun l1=>
  some (true,(⟨p0.Room,l1⟩:gBox))

def oH (p0:gBox):Option (Int×Bool×gBox):=
 if ieq (ilen p0.Items) 0=true then
  some (0,false,p0)
 else
  (idx p0.Items 0).bind fun v1=>
  (cutx p0.Items 0 0).bind fun l2=>
  (cutx p0.Items 1 (ilen p0.Items)).bind fun l3=>
  (appx 8 l2 l3).bind fun l4=>
  some (v1,true,(⟨p0.Room,l4⟩:gBox))

def vX (p0:gThread)(p1:List gQuad)(p2:List gBox)(p3:List Int):Option (Int×gThread×(List gBox)×(List Int)):=
 (idx p1 p0.Pc).bind fun v1=>
 (if ieq v1.Op 1=true then
  (idx p0.Regs v1.Dst).bind fun v6=>
  (setx p0.Regs v1.Dst v1.N).bind fun l7=>
  some (Flow.next (iadd .i64 p0.Pc 1,(⟨l7,p0.Pc⟩:gThread),p2,p3))
 else
  if ieq v1.Op 2=true then
   (idx p0.Regs v1.A).bind fun v8=>
   (idx p0.Regs v1.Dst).bind fun v9=>
   (setx p0.Regs v1.Dst v8).bind fun l10=>
   some (Flow.next (iadd .i64 p0.Pc 1,(⟨l10,p0.Pc⟩:gThread),p2,p3))
  else
   if ieq v1.Op 3=true then
    (idx p0.Regs v1.A).bind fun v11=>
    (idx p0.Regs v1.B).bind fun v12=>
    (mE v1.N v11 v12).bind fun r13=>
    (idx p0.Regs v1.Dst).bind fun v14=>
    (setx p0.Regs v1.Dst r13).bind fun l15=>
    some (Flow.next (iadd .i64 p0.Pc 1,(⟨l15,p0.Pc⟩:gThread),p2,p3))
   else
    if ieq v1.Op 4=true then
     some (Flow.next (v1.N,p0,p2,p3))
    else
     if ieq v1.Op 5=true then
      (idx p0.Regs v1.A).bind fun v16=>
      if ieq v16 0=true then
       some (Flow.next (v1.N,p0,p2,p3))
      else
       some (Flow.next (iadd .i64 p0.Pc 1,p0,p2,p3))
     else
      if ieq v1.Op 6=true then
       (idx p2 v1.N).bind fun v18=>
       (idx p0.Regs v1.A).bind fun v19=>
       (gZ v18 v19).bind fun r20=>
       (setx p2 v1.N r20.2).bind fun l21=>
       if bnot r20.1=true then
        (some (3,p0,l21,p3)).bind fun z=>some (Flow.done z)
       else
        some (Flow.next (iadd .i64 p0.Pc 1,p0,l21,p3))
      else
       if ieq v1.Op 7=true then
        (idx p2 v1.N).bind fun v22=>
        (oH v22).bind fun r23=>
        (setx p2 v1.N r23.2.2).bind fun l24=>
        if bnot r23.2.1=true then
         (some (3,p0,l24,p3)).bind fun z=>some (Flow.done z)
        else
         (idx p0.Regs v1.Dst).bind fun v25=>
         (setx p0.Regs v1.Dst r23.1).bind fun l26=>
         some (Flow.next (iadd .i64 p0.Pc 1,(⟨l26,p0.Pc⟩:gThread),l24,p3))
       else
        if ieq v1.Op 8=true then
         (some (2,(⟨p0.Regs,iadd .i64 p0.Pc 1⟩:gThread),p2,p3)).bind fun z=>some (Flow.done z)
        else
         if ieq v1.Op 9=true then
          (idx p0.Regs v1.A).bind fun v27=>
          (appx 8 p3 ([v27]:List Int)).bind fun l28=>
          some (Flow.next (iadd .i64 p0.Pc 1,p0,p2,l28))
         else
          if ieq v1.Op 10=true then
           (some (4,p0,p2,p3)).bind fun z=>some (Flow.done z)
          else
           some (Flow.next (iadd .i64 p0.Pc 1,p0,p2,p3))).bind fun flj1=>
 match flj1 with
 |.next j1=>
  some (1,(⟨j1.2.1.Regs,j1.1⟩:gThread),j1.2.2.1,j1.2.2.2)
 |.done z=>some z

def pB (p0:Int)(pf0:gCrew):Option (Int×gCrew):=
 (idx pf0.Threads p0).bind fun v3=>
 (idx pf0.Codes p0).bind fun v4=>
 (vX v3 v4 pf0.Boxes pf0.Out).bind fun r5=>
 (setx pf0.Threads p0 r5.2.1).bind fun l6=>
 some (r5.1,(⟨pf0.Codes,l6,r5.2.2.1,pf0.Turn,pf0.Idle,r5.2.2.2⟩:gCrew))

def sL (p0:Int)(p1:Int)(p2:Int)(p3:Int):Option (Int×Int×Bool):=
 (if ilt p0 1=true then some true else some (igt p0 3)).bind fun g1=>
 (if g1=true then some true else some (ilt p1 0)).bind fun g2=>
 (if g2=true then some true else some (ige p1 p0)).bind fun g3=>
 (if g3=true then some true else some (ilt p2 0)).bind fun g4=>
 (if g4=true then some true else some (ige p2 p0)).bind fun g5=>
 if g5=true then
  some (0,0,false)
 else
  if ieq p3 1=true then
   some (p1,0,true)
  else
   if ieq p3 2=true then
    (remx (iadd .i64 p1 1) p0).bind fun v6=>
    some (v6,0,true)
   else
    (if ieq p3 3=true then
     some (ieq p3 3)
    else
     some (ieq p3 4)).bind fun j1=>
    if j1=true then
     (remx (iadd .i64 p1 1) p0).bind fun v8=>
     some (v8,iadd .i64 p2 1,true)
    else
     some (0,0,false)

def kO (p0:List Int):Option ((List Int)):=
 if false=true then
  some ([]:List Int)
 else
  (appx 8 ([]:List Int) p0).bind fun l1=>
  some l1

def oE (p0:List gBox)(s:Int×(List gBox)):Option (Flow (Int×(List gBox)) ((List gBox))):=
 match s with
 |(s1,s2)=>
 if ilt s1 (ilen p0)=true then
  (idx p0 s1).bind fun v4=>
  (kO v4.Items).bind fun r5=>
  (appx 32 s2 [(⟨v4.Room,r5⟩:gBox)]).bind fun l6=>
  some (.next (iadd .i64 s1 1,l6))
 else
  some (.done s2)

def uQ (p0:List gBox):Option ((List gBox)):=
 (loopM (oE p0) (0,([]:List gBox))).bind fun e1=>
 match e1 with
 |y3=>
  some y3

def zW (p1:Int)(s:Int×Int×Int×gCrew):Option (Flow (Int×Int×Int×gCrew) (Sum (Int×Int×gCrew) (Int×Int×Bool×gCrew))):=
 match s with
 |(s1,s2,s3,s4)=>
 (if igt s1 0=true then some (ilt s3 p1) else some false).bind fun g8=>
 if g8=true then
  (pB s2 s4).bind fun r9=>
  (sL p1 s2 s3 r9.1).bind fun r10=>
  if bnot r10.2.2=true then
   some (.done (.inr (0,0,false,r9.2)))
  else
   some (.next (isub .i64 s1 1,r10.1,r10.2.1,r9.2))
 else
  some (.done (.inl (s2,s3,s4)))

def kN (p0:Int)(p1:Int)(p2:Int)(p3:Int)(p4_0:gCrew):Option (Int×Int×Bool×gCrew):=
 (loopM (zW p1) (p0,p2,p3,p4_0)).bind fun e1=>
 match e1 with
 |.inl (y5,y6,y7)=>
  some (y5,y6,true,y7)
 |.inr r0=>
  some r0

def tN (p0:gCrew)(s:Int×gCrew×gCrew):Option (Flow (Int×gCrew×gCrew) (gCrew×gCrew)):=
 match s with
 |(s7,s8,s9)=>
 if ilt s7 (ilen p0.Threads)=true then
  (idx p0.Threads s7).bind fun v12=>
  (kO v12.Regs).bind fun r13=>
  (appx 32 s9.Threads [(⟨r13,v12.Pc⟩:gThread)]).bind fun l14=>
  some (.next (iadd .i64 s7 1,s8,(⟨s9.Codes,l14,s9.Boxes,s9.Turn,s9.Idle,s9.Out⟩:gCrew)))
 else
  some (.done (s8,s9))

def oG (p0:gCrew)(p1:Int):Option (gCrew×Bool):=
 (wI p0).bind fun r1=>
 (if bnot r1=true then some true else some (ilt p1 0)).bind fun g2=>
 (if g2=true then some true else some (igt p1 100000)).bind fun g3=>
 if g3=true then
  some ((⟨([]:List (List gQuad)),([]:List gThread),([]:List gBox),0,0,([]:List Int)⟩:gCrew),false)
 else
  (uL p0.Codes).bind fun r4=>
  (uQ p0.Boxes).bind fun r5=>
  (kO p0.Out).bind fun r6=>
  (loopM (tN p0) (0,(⟨([]:List (List gQuad)),([]:List gThread),([]:List gBox),0,0,([]:List Int)⟩:gCrew),(⟨r4,([]:List gThread),r5,0,0,r6⟩:gCrew))).bind fun e1=>
  match e1 with
  |(y10,y11)=>
   (kN p1 (ilen y11.Threads) p0.Turn p0.Idle y11).bind fun r15=>
   some ((⟨r15.2.2.2.Codes,r15.2.2.2.Threads,r15.2.2.2.Boxes,r15.1,r15.2.1,r15.2.2.2.Out⟩:gCrew),true)

def vO (p0:List Int)(p1:(List (List gQuad)))(p2:Int):Option (gCrew):=
 (xY p0 p1).bind fun r1=>
 (oG r1.1 p2).bind fun r2=>
 (if bnot r1.2=true then some true else some (bnot r2.2)).bind fun g3=>
 if g3=true then
  some (⟨([]:List (List gQuad)),([]:List gThread),([]:List gBox),0,0,([]:List Int)⟩:gCrew)
 else
  some r2.1

def xZ (r12:List Int)(s:Int×(List Bool)×(List Int)):Option (Flow (Int×(List Bool)×(List Int)) ((List Bool)×(List Int))):=
 match s with
 |(s13,s14,s15)=>
 if ilt s13 (ilen r12)=true then
  (idx r12 s13).bind fun v18=>
  (idx s14 v18).bind fun v19=>
  if bnot v19=true then
   (setx s14 v18 true).bind fun l20=>
   (appx 8 s15 ([v18]:List Int)).bind fun l21=>
   some (.next (iadd .i64 s13 1,l20,l21))
  else
   some (.next (iadd .i64 s13 1,s14,s15))
 else
  some (.done (s14,s15))

def wA (p0:List gQuad)(s:(List Bool)×(List Int)):Option (Flow ((List Bool)×(List Int)) ((List Bool))):=
 match s with
 |(s6,s7)=>
 if igt (ilen s7) 0=true then
  (idx s7 (isub .i64 (ilen s7) 1)).bind fun v9=>
  (cutx s7 0 (isub .i64 (ilen s7) 1)).bind fun l10=>
  (idx p0 v9).bind fun v11=>
  (vS v11 v9).bind fun r12=>
  (loopM (xZ r12) (0,s6,l10)).bind fun e1=>
  match e1 with
  |(y16,y17)=>
   some (.next (y16,y17))
 else
  some (.done s6)

def jE (p0:List gQuad):Option ((List Bool)):=
 (jD p0).bind fun r1=>
 if bnot r1=true then
  some ([]:List Bool)
 else
  (makex 1 (ilen p0) false).bind fun l2=>
  (idx l2 0).bind fun v3=>
  (setx l2 0 true).bind fun l4=>
  (some ([0]:List Int)).bind fun l5=>
  (loopM (wA p0) (l4,l5)).bind fun e2=>
  match e2 with
  |y8=>
   some y8

def jC (p0:gQuad):Option (Bool):=
 (if ieq p0.Op 4=true then some true else some (ieq p0.Op 5)).bind fun g1=>
 some g1

def jZ (p0:gQuad)(p1:Int):Option (Bool):=
 (jC p0).bind fun r1=>
 (if r1=true then some (ieq p0.N (iadd .i64 p1 1)) else some false).bind fun g2=>
 (if bnot g2=true then(if ieq p0.Op 2=true then some (ieq p0.Dst p0.A) else some false).bind fun g3=>some (bnot g3) else some false).bind fun g4=>
 some g4

def jH (p0:List gQuad)(r3:List Bool)(s:Int×(List Int)×(List gQuad)):Option (Flow (Int×(List Int)×(List gQuad)) ((List Int)×(List gQuad))):=
 match s with
 |(s4,s5,s6)=>
 if ilt s4 (ilen r3)=true then
  (idx r3 s4).bind fun v9=>
  (idx s5 s4).bind fun v10=>
  (setx s5 s4 (ilen s6)).bind fun l11=>
  (if v9=true then(idx p0 s4).bind fun v12=>(jZ v12 s4).bind fun r13=>some r13 else some false).bind fun g14=>
  if g14=true then
   (idx p0 s4).bind fun v15=>
   (appx 40 s6 ([v15]:List gQuad)).bind fun l16=>
   some (.next (iadd .i64 s4 1,l11,l16))
  else
   some (.next (iadd .i64 s4 1,l11,s6))
 else
  some (.done (s5,s6))

def wF (y8:List gQuad)(s:Int×(List Int)×(List gQuad)):Option (Flow (Int×(List Int)×(List gQuad)) ((List gQuad))):=
 match s with
 |(s17,s18,s19)=>
 if ilt s17 (ilen y8)=true then
  (idx s19 s17).bind fun v21=>
  (jC v21).bind fun r22=>
  if r22=true then
   (idx s18 v21.N).bind fun v23=>
   (setx s19 s17 (⟨v21.Op,v21.Dst,v21.A,v21.B,v23⟩:gQuad)).bind fun l24=>
   some (.next (iadd .i64 s17 1,s18,l24))
  else
   some (.next (iadd .i64 s17 1,s18,s19))
 else
  some (.done s19)

def kP (p0:List gQuad):Option ((List gQuad)×Bool):=
 (jD p0).bind fun r1=>
 if bnot r1=true then
  some (([]:List gQuad),false)
 else
  (makex 8 (ilen p0) 0).bind fun l2=>
  (jE p0).bind fun r3=>
  (loopM (jH p0 r3) (0,l2,([]:List gQuad))).bind fun e1=>
  match e1 with
  |(y7,y8)=>
   (loopM (wF y8) (0,y7,y8)).bind fun e2=>
   match e2 with
   |y20=>
    some (y20,true)

def s_BoxPut (p0:gBox)(p1:Int):Option (gBox×Bool):=
 (uH p0).bind fun r1=>
 (if bnot r1=true then some true else(yC p1).bind fun r2=>some (bnot r2)).bind fun g3=>
 (if g3=true then some true else some (ige (ilen p0.Items) p0.Room)).bind fun g4=>
 if g4=true then
  some ((⟨0,([]:List Int)⟩:gBox),false)
 else
  (appx 8 ([]:List Int) p0.Items).bind fun l5=>
  (appx 8 l5 ([p1]:List Int)).bind fun l6=>
  some ((⟨p0.Room,l6⟩:gBox),true)

def s_BoxTake (p0:gBox):Option (gBox×Int×Bool):=
 (uH p0).bind fun r1=>
 (if bnot r1=true then some true else some (ieq (ilen p0.Items) 0)).bind fun g2=>
 if g2=true then
  some ((⟨0,([]:List Int)⟩:gBox),0,false)
 else
  (cutx p0.Items 1 (ilen p0.Items)).bind fun l3=>
  (appx 8 ([]:List Int) l3).bind fun l4=>
  (idx p0.Items 0).bind fun v5=>
  some ((⟨p0.Room,l4⟩:gBox),v5,true)

def s_NextTurn (p0:Int)(p1:Int)(p2:Int)(p3:Int):Option (Int×Int×Bool):=
 (yK p0 1 3).bind fun r1=>
 (if bnot r1=true then some true else(yK p1 0 (isub .i64 p0 1)).bind fun r2=>some (bnot r2)).bind fun g3=>
 (if g3=true then some true else(yK p2 0 (isub .i64 p0 1)).bind fun r4=>some (bnot r4)).bind fun g5=>
 if g5=true then
  some (0,0,false)
 else
  if ieq p3 1=true then
   some (p1,0,true)
  else
   if ieq p3 2=true then
    (remx (iadd .i64 p1 1) p0).bind fun v6=>
    some (v6,0,true)
   else
    (if ieq p3 3=true then
     some (ieq p3 3)
    else
     some (ieq p3 4)).bind fun j1=>
    if j1=true then
     (remx (iadd .i64 p1 1) p0).bind fun v8=>
     some (v8,iadd .i64 p2 1,true)
    else
     some (0,0,false)

end
end Go.Abs
