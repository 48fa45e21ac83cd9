/- Words of the proof. -/
import Derived.Test.YtolmjhgondilhaaGreatNCR0
set_option linter.unusedSimpArgs false
set_option linter.unusedVariables false
set_option maxRecDepth 20000
set_option maxHeartbeats 4000000
namespace Go.Abs
open Go

noncomputable section
def qR (p0:List Int):Option (gL6Rd):=
 if igt (ilen p0) 2000=true then
  (cutx p0 0 2000).bind fun l1=>
  some (⟨l1,0⟩:gL6Rd)
 else
  some (⟨p0,0⟩:gL6Rd)

def zI (p0:gL6Rd)(p1:Int):Option (Int×gL6Rd):=
 (if ilt p1 1=true then some true else some (ieq (ilen p0.b) 0)).bind fun g1=>
 if g1=true then
  some (0,(⟨p0.b,iadd .i64 p0.p 1⟩:gL6Rd))
 else
  if ilt (isub .i64 (iadd .i64 p0.p 1) 1) (ilen p0.b)=true then
   (idx p0.b (isub .i64 (iadd .i64 p0.p 1) 1)).bind fun v2=>
   (remx (iconv .i64 v2) p1).bind fun v3=>
   some (v3,(⟨p0.b,iadd .i64 p0.p 1⟩:gL6Rd))
  else
   (remx (isub .i64 (iadd .i64 p0.p 1) 1) (ilen p0.b)).bind fun v4=>
   (idx p0.b v4).bind fun v5=>
   (remx (iadd .i64 (imul .i64 (isub .i64 (iadd .i64 p0.p 1) 1) 7) 3) (ilen p0.b)).bind fun v6=>
   (idx p0.b v6).bind fun v7=>
   (quox .i64 (isub .i64 (iadd .i64 p0.p 1) 1) (ilen p0.b)).bind fun v8=>
   (quox .i64 (iadd .i64 (iadd .i64 (iadd .i64 (imul .i64 (iconv .i64 v5) 131) (imul .i64 (iconv .i64 v7) 1117)) (imul .i64 (isub .i64 (iadd .i64 p0.p 1) 1) 29)) (imul .i64 v8 53)) 64).bind fun v9=>
   (remx (ixor .i64 (iadd .i64 (iadd .i64 (iadd .i64 (imul .i64 (iconv .i64 v5) 131) (imul .i64 (iconv .i64 v7) 1117)) (imul .i64 (isub .i64 (iadd .i64 p0.p 1) 1) 29)) (imul .i64 v8 53)) v9) p1).bind fun v10=>
   some (v10,(⟨p0.b,iadd .i64 p0.p 1⟩:gL6Rd))

def jA (p0:gL6Rd):Option (Int×gL6Rd):=
 (zI p0 6).bind fun r1=>
 some (r1.1,r1.2)

def sL (p0:Int):Option (Int):=
 (remx p0 4294967296).bind fun v1=>
 if igt v1 2147483647=true then
  some (isub .i64 v1 4294967296)
 else
  if ilt v1 (-2147483648)=true then
   some (iadd .i64 v1 4294967296)
  else
   some v1

def oM (p0:gL6Rd):Option (Int×gL6Rd):=
 (zI p0 6).bind fun r1=>
 if ieq r1.1 0=true then
  (zI r1.2 8).bind fun r2=>
  (idx ([-2147483648,2147483647,-1,0,1,-2147483647,65536,-65536]:List Int) r2.1).bind fun v3=>
  some (v3,r2.2)
 else
  if ieq r1.1 1=true then
   (zI r1.2 256).bind fun r4=>
   (zI r4.2 256).bind fun r5=>
   (zI r5.2 256).bind fun r6=>
   (zI r6.2 200).bind fun r7=>
   (sL (imul .i64 (iadd .i64 (iadd .i64 (imul .i64 r4.1 65536) (imul .i64 r5.1 256)) r6.1) (iadd .i64 1 r7.1))).bind fun r8=>
   some (r8,r7.2)
  else
   if ieq r1.1 2=true then
    (zI r1.2 200).bind fun r9=>
    some (isub .i64 0 r9.1,r9.2)
   else
    (zI r1.2 20).bind fun r10=>
    some (r10.1,r10.2)

def dK (p0:gL6Rd):Option (Int×gL6Rd):=
 (zI p0 12).bind fun r1=>
 some (iadd .i64 1 r1.1,r1.2)

def oG (p0:gL6Rd)(p1:Int):Option (gQuad×gL6Rd):=
 (zI p0 12).bind fun r1=>
 (if ieq r1.1 0=true then
  some (ieq r1.1 0)
 else
  some (ieq r1.1 1)).bind fun j1=>
 if j1=true then
  (jA r1.2).bind fun r3=>
  (oM r3.2).bind fun r4=>
  (zI r4.2 4).bind fun r5=>
  (idx ([0,1,2,r4.1]:List Int) r5.1).bind fun v6=>
  some ((⟨1,r3.1,0,0,v6⟩:gQuad),r5.2)
 else
  (if ieq r1.1 2=true then
   some (ieq r1.1 2)
  else
   some (ieq r1.1 3)).bind fun j2=>
  if j2=true then
   (jA r1.2).bind fun r8=>
   (jA r8.2).bind fun r9=>
   some ((⟨2,r8.1,r9.1,0,0⟩:gQuad),r9.2)
  else
   (if ieq r1.1 4=true then
    some (ieq r1.1 4)
   else
    if ieq r1.1 5=true then
     some (ieq r1.1 5)
    else
     some (ieq r1.1 6)).bind fun j3=>
   if j3=true then
    (jA r1.2).bind fun r11=>
    (jA r11.2).bind fun r12=>
    (jA r12.2).bind fun r13=>
    (dK r13.2).bind fun r14=>
    some ((⟨3,r11.1,r12.1,r13.1,r14.1⟩:gQuad),r14.2)
   else
    if ieq r1.1 7=true then
     (zI r1.2 p1).bind fun r15=>
     some ((⟨4,0,0,0,r15.1⟩:gQuad),r15.2)
    else
     if ieq r1.1 8=true then
      (jA r1.2).bind fun r16=>
      (zI r16.2 p1).bind fun r17=>
      some ((⟨5,0,r16.1,0,r17.1⟩:gQuad),r17.2)
     else
      if ieq r1.1 9=true then
       (jA r1.2).bind fun r18=>
       (zI r18.2 2).bind fun r19=>
       some ((⟨6,0,r18.1,0,r19.1⟩:gQuad),r19.2)
      else
       if ieq r1.1 10=true then
        (jA r1.2).bind fun r20=>
        (zI r20.2 2).bind fun r21=>
        some ((⟨7,r20.1,0,0,r21.1⟩:gQuad),r21.2)
       else
        (zI r1.2 4).bind fun r22=>
        if ieq r22.1 0=true then
         some ((⟨8,0,0,0,0⟩:gQuad),r22.2)
        else
         (jA r22.2).bind fun r23=>
         some ((⟨9,0,r23.1,0,0⟩:gQuad),r23.2)

def sQ (r1:Int×gL6Rd)(s:Int×gL6Rd×(List gQuad)):Option (Flow (Int×gL6Rd×(List gQuad)) (gL6Rd×(List gQuad))):=
 match s with
 |(s2,s3,s4)=>
 if ilt (iadd .i64 s2 1) (iadd .i64 1 r1.1)=true then
  (oG s3 (iadd .i64 1 r1.1)).bind fun r7=>
  (appx 40 s4 ([r7.1]:List gQuad)).bind fun l8=>
  some (.next (iadd .i64 s2 1,r7.2,l8))
 else
  some (.done (s3,s4))

def wX (p0:gL6Rd):Option ((List gQuad)×gL6Rd):=
 (zI p0 14).bind fun r1=>
 (loopM (sQ r1) (0,r1.2,([]:List gQuad))).bind fun e1=>
 match e1 with
 |(y5,y6)=>
  (zI y5 3).bind fun r9=>
  if ieq r9.1 0=true then
   (zI r9.2 (iadd .i64 1 r1.1)).bind fun r10=>
   (appx 40 y6 ([(⟨4,0,0,0,r10.1⟩:gQuad)]:List gQuad)).bind fun l11=>
   some (l11,r10.2)
  else
   (appx 40 y6 ([(⟨10,0,0,0,0⟩:gQuad)]:List gQuad)).bind fun l12=>
   some (l12,r9.2)

def xV (p0:Int)(p1:Int):Option (gExpr):=
 some (⟨p0,p1,([]:List gExpr)⟩:gExpr)

def oN (p0:gL6Rd):Option (gExpr×gL6Rd):=
 (zI p0 4).bind fun r1=>
 if ieq r1.1 0=true then
  (zI r1.2 4).bind fun r2=>
  (xV 0 r2.1).bind fun r3=>
  some (r3,r2.2)
 else
  if ieq r1.1 1=true then
   (zI r1.2 8).bind fun r4=>
   (idx ([5,31,32,100,2047,2048,65536,99999]:List Int) r4.1).bind fun v5=>
   (xV 0 v5).bind fun r6=>
   some (r6,r4.2)
  else
   (zI r1.2 4).bind fun r7=>
   (xV 13 r7.1).bind fun r8=>
   some (r8,r7.2)

def nD (p0:Int)(p1:gExpr)(p2:gExpr):Option (gExpr):=
 some (⟨p0,0,([p1,p2]:List gExpr)⟩:gExpr)

def tK (Fr1:gL6Rd->Int->Option (gExpr×gL6Rd))(p0:gL6Rd)(p1:Int):Option (gExpr×gL6Rd):=
 (if ilt p1 2=true then some (true,p0) else(zI p0 3).bind fun r1=>some (ieq r1.1 0,r1.2)).bind fun g2=>
 if g2.1=true then
  (oN g2.2).bind fun r3=>
  some (r3.1,r3.2)
 else
  (dK g2.2).bind fun r4=>
  (Fr1 r4.2 (isub .i64 p1 1)).bind fun r5=>
  (Fr1 r5.2 (isub .i64 p1 1)).bind fun r6=>
  (nD r4.1 r5.1 r6.1).bind fun r7=>
  some (r7,r6.2)

def tJ:Nat->gL6Rd->Int->Option (gExpr×gL6Rd)
 |0=>fun _ _=>none
 |n+1=>tK (tJ n)

def vO (p0:gL6Rd)(p1:Int):Option (gExpr×gL6Rd):=recF fun n=>(tJ n) p0 p1

def hO (p0:gL6Rd):Option (gStmt×gL6Rd):=
 (zI p0 3).bind fun r1=>
 (zI r1.2 3).bind fun r2=>
 (vO r2.2 (iadd .i64 1 r2.1)).bind fun r3=>
 some ((⟨1,r1.1,0,r3.1,([]:List gStmt),([]:List gStmt)⟩:gStmt),r3.2)

def oJ (p0:gL6Rd)(p1:Int):Option (gStmt×gL6Rd):=
 if ilt p1 1=true then
  (hO p0).bind fun r1=>
  some (r1.1,r1.2)
 else
  (zI p0 p1).bind fun r2=>
  (zI r2.2 2).bind fun r3=>
  if ieq r3.1 0=true then
   (zI r3.2 3).bind fun r4=>
   (vO r4.2 (iadd .i64 1 r4.1)).bind fun r5=>
   some ((⟨4,0,r2.1,r5.1,([]:List gStmt),([]:List gStmt)⟩:gStmt),r5.2)
  else
   (zI r3.2 3).bind fun r6=>
   some ((⟨5,r6.1,r2.1,(⟨0,0,([]:List gExpr)⟩:gExpr),([]:List gStmt),([]:List gStmt)⟩:gStmt),r6.2)

def uP (p1:Int)(p2:Int)(p3:Int)(p4:Bool)(Fr4:gL6Rd->Int->Int->Bool->Option ((List gStmt)×gL6Rd))(s:Int×gL6Rd×(List gStmt)):Option (Flow (Int×gL6Rd×(List gStmt)) (gL6Rd×(List gStmt))):=
 match s with
 |(s1,s2,s3)=>
 if ilt s1 p3=true then
  (Fr4 s2 p1 p2 p4).bind fun r6=>
  (appx 112 s3 r6.1).bind fun l7=>
  some (.next (iadd .i64 s1 1,r6.2,l7))
 else
  some (.done (s2,s3))

def vN (Fr2:gL6Rd->Int->Int->Int->Bool->Option ((List gStmt)×gL6Rd))(Fr3:gL6Rd->Int->Int->Bool->Option (gStmt×gL6Rd))(Fr5:gL6Rd->Int->Int->Int->Bool->Option ((List gStmt)×gL6Rd))(Fr6:gL6Rd->Int->Int->Option ((List gStmt)×gL6Rd))(Fr4:gL6Rd->Int->Int->Bool->Option ((List gStmt)×gL6Rd))(p0:gL6Rd)(p1:Int)(p2:Int)(p3:Int)(p4:Bool):Option ((List gStmt)×gL6Rd):=
 (loopM (uP p1 p2 p3 p4 Fr4) (0,p0,([]:List gStmt))).bind fun e1=>
 match e1 with
 |(y4,y5)=>
  some (y5,y4)

def oK (Fr2:gL6Rd->Int->Int->Int->Bool->Option ((List gStmt)×gL6Rd))(Fr3:gL6Rd->Int->Int->Bool->Option (gStmt×gL6Rd))(Fr5:gL6Rd->Int->Int->Int->Bool->Option ((List gStmt)×gL6Rd))(Fr6:gL6Rd->Int->Int->Option ((List gStmt)×gL6Rd))(Fr4:gL6Rd->Int->Int->Bool->Option ((List gStmt)×gL6Rd))(p0:gL6Rd)(p1:Int)(p2:Int)(p3:Bool):Option (gStmt×gL6Rd):=
 (zI p0 2).bind fun r1=>
 (vO r1.2 (iadd .i64 1 r1.1)).bind fun r2=>
 (zI r2.2 3).bind fun r3=>
 (Fr2 r3.2 p1 (isub .i64 p2 1) r3.1 p3).bind fun r4=>
 (zI r4.2 3).bind fun r5=>
 (Fr2 r5.2 p1 (isub .i64 p2 1) r5.1 p3).bind fun r6=>
 some ((⟨2,0,0,r2.1,r4.1,r6.1⟩:gStmt),r6.2)

def oL (p1:Int)(p2:Int)(p3:Int)(p4:Bool)(Fr4:gL6Rd->Int->Int->Bool->Option ((List gStmt)×gL6Rd))(s:Int×gL6Rd×(List gStmt)):Option (Flow (Int×gL6Rd×(List gStmt)) (gL6Rd×(List gStmt))):=
 match s with
 |(s1,s2,s3)=>
 if ilt s1 p3=true then
  (Fr4 s2 p1 p2 p4).bind fun r6=>
  (appx 112 s3 r6.1).bind fun l7=>
  some (.next (iadd .i64 s1 1,r6.2,l7))
 else
  some (.done (s2,s3))

def jU (Fr2:gL6Rd->Int->Int->Int->Bool->Option ((List gStmt)×gL6Rd))(Fr3:gL6Rd->Int->Int->Bool->Option (gStmt×gL6Rd))(Fr5:gL6Rd->Int->Int->Int->Bool->Option ((List gStmt)×gL6Rd))(Fr6:gL6Rd->Int->Int->Option ((List gStmt)×gL6Rd))(Fr4:gL6Rd->Int->Int->Bool->Option ((List gStmt)×gL6Rd))(p0:gL6Rd)(p1:Int)(p2:Int)(p3:Int)(p4:Bool):Option ((List gStmt)×gL6Rd):=
 (loopM (oL p1 p2 p3 p4 Fr4) (0,p0,([]:List gStmt))).bind fun e1=>
 match e1 with
 |(y4,y5)=>
  some (y5,y4)

def tI (Fr2:gL6Rd->Int->Int->Int->Bool->Option ((List gStmt)×gL6Rd))(Fr3:gL6Rd->Int->Int->Bool->Option (gStmt×gL6Rd))(Fr5:gL6Rd->Int->Int->Int->Bool->Option ((List gStmt)×gL6Rd))(Fr6:gL6Rd->Int->Int->Option ((List gStmt)×gL6Rd))(Fr4:gL6Rd->Int->Int->Bool->Option ((List gStmt)×gL6Rd))(p0:gL6Rd)(p1:Int)(p2:Int):Option ((List gStmt)×gL6Rd):=
 (zI p0 3).bind fun r1=>
 (Fr5 r1.2 p1 (isub .i64 p2 1) r1.1 false).bind fun r2=>
 (xV 13 3).bind fun r3=>
 (xV 0 1).bind fun r4=>
 (nD 8 r3 r4).bind fun r5=>
 (zI r2.2 3).bind fun r6=>
 (xV 0 (iadd .i64 1 r6.1)).bind fun r7=>
 (nD 5 r3 r7).bind fun r8=>
 (appx 112 r2.1 ([(⟨1,3,0,r5,([]:List gStmt),([]:List gStmt)⟩:gStmt)]:List gStmt)).bind fun l9=>
 (xV 0 0).bind fun r12=>
 some (([(⟨1,3,0,r12,([]:List gStmt),([]:List gStmt)⟩:gStmt),(⟨3,0,0,r8,l9,([]:List gStmt)⟩:gStmt)]:List gStmt),r6.2)

def tH (Fr2:gL6Rd->Int->Int->Int->Bool->Option ((List gStmt)×gL6Rd))(Fr3:gL6Rd->Int->Int->Bool->Option (gStmt×gL6Rd))(Fr5:gL6Rd->Int->Int->Int->Bool->Option ((List gStmt)×gL6Rd))(Fr6:gL6Rd->Int->Int->Option ((List gStmt)×gL6Rd))(Fr4:gL6Rd->Int->Int->Bool->Option ((List gStmt)×gL6Rd))(p0:gL6Rd)(p1:Int)(p2:Int)(p3:Bool):Option ((List gStmt)×gL6Rd):=
 ((zI p0 10).bind fun r4=>
 (if ieq r4.1 0=true then
  some (ieq r4.1 0)
 else
  some (ieq r4.1 1)).bind fun j2=>
 if j2=true then
  (hO r4.2).bind fun r6=>
  (some (([r6.1]:List gStmt),r6.2)).bind fun z=>some (Flow.done z)
 else
  if ieq r4.1 2=true then
   if igt p2 0=true then
    (Fr3 r4.2 p1 p2 p3).bind fun r7=>
    (some (([r7.1]:List gStmt),r7.2)).bind fun z=>some (Flow.done z)
   else
    some (Flow.next r4.2)
  else
   if ieq r4.1 3=true then
    (if igt p2 0=true then some p3 else some false).bind fun g8=>
    if g8=true then
     (Fr6 r4.2 p1 p2).bind fun r9=>
     (some (r9.1,r9.2)).bind fun z=>some (Flow.done z)
    else
     some (Flow.next r4.2)
   else
    (if ieq r4.1 4=true then
     some (ieq r4.1 4)
    else
     if ieq r4.1 5=true then
      some (ieq r4.1 5)
     else
      some (ieq r4.1 6)).bind fun j3=>
    if j3=true then
     (oJ r4.2 p1).bind fun r11=>
     (some (([r11.1]:List gStmt),r11.2)).bind fun z=>some (Flow.done z)
    else
     if ieq r4.1 7=true then
      (some (([(⟨6,0,0,(⟨0,0,([]:List gExpr)⟩:gExpr),([]:List gStmt),([]:List gStmt)⟩:gStmt)]:List gStmt),r4.2)).bind fun z=>some (Flow.done z)
     else
      some (Flow.next r4.2)).bind fun flj1=>
 match flj1 with
 |.next j1=>
  (zI j1 3).bind fun r2=>
  (vO r2.2 (iadd .i64 1 r2.1)).bind fun r3=>
  some (([(⟨7,0,0,r3.1,([]:List gStmt),([]:List gStmt)⟩:gStmt)]:List gStmt),r3.2)
 |.done z=>some z

def zC:Nat->(gL6Rd->Int->Int->Int->Bool->Option ((List gStmt)×gL6Rd))×(gL6Rd->Int->Int->Bool->Option (gStmt×gL6Rd))×(gL6Rd->Int->Int->Int->Bool->Option ((List gStmt)×gL6Rd))×(gL6Rd->Int->Int->Option ((List gStmt)×gL6Rd))×(gL6Rd->Int->Int->Bool->Option ((List gStmt)×gL6Rd))
 |0=>(fun _ _ _ _ _=>none,fun _ _ _ _=>none,fun _ _ _ _ _=>none,fun _ _ _=>none,fun _ _ _ _=>none)
 |n+1=>(vN ((zC n).1) ((zC n).2.1) ((zC n).2.2.1) ((zC n).2.2.2.1) ((zC n).2.2.2.2),oK ((zC n).1) ((zC n).2.1) ((zC n).2.2.1) ((zC n).2.2.2.1) ((zC n).2.2.2.2),jU ((zC n).1) ((zC n).2.1) ((zC n).2.2.1) ((zC n).2.2.2.1) ((zC n).2.2.2.2),tI ((zC n).1) ((zC n).2.1) ((zC n).2.2.1) ((zC n).2.2.2.1) ((zC n).2.2.2.2),tH ((zC n).1) ((zC n).2.1) ((zC n).2.2.1) ((zC n).2.2.2.1) ((zC n).2.2.2.2))

def dJ (p0:gL6Rd)(p1:Int)(p2:Int)(p3:Int)(p4:Bool):Option ((List gStmt)×gL6Rd):=recF fun n=>(zC n).1 p0 p1 p2 p3 p4

def uQ (p0:List gStmt)(Fr7:(List gStmt)->Option (Int))(s:Int×Int):Option (Flow (Int×Int) (Int)):=
 match s with
 |(s1,s2)=>
 if ilt s2 (ilen p0)=true then
  (idx p0 s2).bind fun v4=>
  (Fr7 v4.Body).bind fun r5=>
  (Fr7 v4.Else).bind fun r6=>
  some (.next (iadd .i64 (iadd .i64 (iadd .i64 s1 1) r5) r6,iadd .i64 s2 1))
 else
  some (.done s1)

def jG (Fr7:(List gStmt)->Option (Int))(p0:List gStmt):Option (Int):=
 (loopM (uQ p0 Fr7) (0,0)).bind fun e1=>
 match e1 with
 |y3=>
  some y3

def kX:Nat->(List gStmt)->Option (Int)
 |0=>fun _=>none
 |n+1=>jG (kX n)

def jQ (p0:List gStmt):Option (Int):=recF fun n=>(kX n) p0

def nB (s:(List gStmt)×gL6Rd):Option (Flow ((List gStmt)×gL6Rd) ((List gStmt)×gL6Rd)):=
 match s with
 |(s3,s4)=>
 (jQ s3).bind fun r7=>
 if igt r7 16=true then
  (cutx s3 0 (isub .i64 (ilen s3) 1)).bind fun l8=>
  some (.next (l8,s4))
 else
  some (.done (s3,s4))

def qQ (p0:gL6Rd)(p1:Int):Option ((List gStmt)×gL6Rd):=
 (zI p0 6).bind fun r1=>
 (dJ r1.2 p1 3 (iadd .i64 1 r1.1) true).bind fun r2=>
 (loopM (nB) (r2.1,r2.2)).bind fun e1=>
 match e1 with
 |(y5,y6)=>
  some (y5,y6)

def kW (p0:Int)(p1:Int)(p2:Int):Option (Bool):=
 (if ige p0 p1=true then some (ile p0 p2) else some false).bind fun g1=>
 some g1

def yR (p0:gStmt)(p1:Bool):Option (Bool):=
 if p1=true then
  (kW p0.Var 0 3).bind fun r1=>
  some r1
 else
  some (ieq p0.Var 0)

def yS (p0:gStmt)(p1:Bool):Option (Bool):=
 if p1=true then
  (kW p0.Box 0 2).bind fun r1=>
  some r1
 else
  some (ieq p0.Box 0)

def wK (p0:Int):Option (Bool):=
 (kW p0 1 12).bind fun r1=>
 some r1

def fK (Fr8:gExpr->Int->Option (Bool))(p0:gExpr)(p1:Int):Option (Bool):=
 if ilt p1 1=true then
  some false
 else
  if ieq p0.Op 0=true then
   (kW p0.N 0 99999).bind fun r1=>
   (if r1=true then some (ieq (ilen p0.Args) 0) else some false).bind fun g2=>
   some g2
  else
   if ieq p0.Op 13=true then
    (kW p0.N 0 3).bind fun r3=>
    (if r3=true then some (ieq (ilen p0.Args) 0) else some false).bind fun g4=>
    some g4
   else
    (wK p0.Op).bind fun r5=>
    (if r5=true then some (ieq p0.N 0) else some false).bind fun g6=>
    (if g6=true then some (ieq (ilen p0.Args) 2) else some false).bind fun g7=>
    (if g7=true then(idx p0.Args 0).bind fun v8=>(Fr8 v8 (isub .i64 p1 1)).bind fun r9=>some r9 else some false).bind fun g10=>
    (if g10=true then(idx p0.Args 1).bind fun v11=>(Fr8 v11 (isub .i64 p1 1)).bind fun r12=>some r12 else some false).bind fun g13=>
    some g13

def hP:Nat->gExpr->Int->Option (Bool)
 |0=>fun _ _=>none
 |n+1=>fK (hP n)

def s_l4Ok (p0:gExpr)(p1:Int):Option (Bool):=recF fun n=>(hP n) p0 p1

def jH (p0:gExpr):Option (Bool):=
 (s_l4Ok p0 5).bind fun r1=>
 some r1

def jP (p0:gExpr):Option (Bool):=
 (if ieq p0.Op 0=true then some (ieq p0.N 0) else some false).bind fun g1=>
 (if g1=true then some (ieq (ilen p0.Args) 0) else some false).bind fun g2=>
 some g2

def jF (p0:gStmt):Option (Bool):=
 (if igt (ilen p0.Body) 0=true then some true else some (igt (ilen p0.Else) 0)).bind fun g1=>
 if g1=true then
  some false
 else
  if ieq p0.Kind 1=true then
   (yR p0 true).bind fun r2=>
   (if r2=true then(yS p0 false).bind fun r3=>some r3 else some false).bind fun g4=>
   (if g4=true then(jH p0.Expr).bind fun r5=>some r5 else some false).bind fun g6=>
   some g6
  else
   if ieq p0.Kind 4=true then
    (yR p0 false).bind fun r7=>
    (if r7=true then(yS p0 true).bind fun r8=>some r8 else some false).bind fun g9=>
    (if g9=true then(jH p0.Expr).bind fun r10=>some r10 else some false).bind fun g11=>
    some g11
   else
    if ieq p0.Kind 5=true then
     (yR p0 true).bind fun r12=>
     (if r12=true then(yS p0 true).bind fun r13=>some r13 else some false).bind fun g14=>
     (if g14=true then(jP p0.Expr).bind fun r15=>some r15 else some false).bind fun g16=>
     some g16
    else
     if ieq p0.Kind 6=true then
      (yR p0 false).bind fun r17=>
      (if r17=true then(yS p0 false).bind fun r18=>some r18 else some false).bind fun g19=>
      (if g19=true then(jP p0.Expr).bind fun r20=>some r20 else some false).bind fun g21=>
      some g21
     else
      if ieq p0.Kind 7=true then
       (yR p0 false).bind fun r22=>
       (if r22=true then(yS p0 false).bind fun r23=>some r23 else some false).bind fun g24=>
       (if g24=true then(jH p0.Expr).bind fun r25=>some r25 else some false).bind fun g26=>
       some g26
      else
       some false

def sV (p0:List gStmt)(p1:Int)(Fr10:gStmt->Int->Option (Bool))(s:Int):Option (Flow (Int) (Sum (Unit) (Bool))):=
 let s1:=s
 if ilt s1 (ilen p0)=true then
  (idx p0 s1).bind fun v2=>
  (Fr10 v2 p1).bind fun r3=>
  if bnot r3=true then
   some (.done (.inr false))
  else
   some (.next (iadd .i64 s1 1))
 else
  some (.done (.inl ()))

def wI (Fr9:(List gStmt)->Int->Option (Bool))(Fr10:gStmt->Int->Option (Bool))(p0:List gStmt)(p1:Int):Option (Bool):=
 (loopM (sV p0 p1 Fr10) 0).bind fun e1=>
 match e1 with
 |.inl _=>
  some true
 |.inr r0=>
  some r0

def mD (Fr9:(List gStmt)->Int->Option (Bool))(Fr10:gStmt->Int->Option (Bool))(p0:gStmt)(p1:Int):Option (Bool):=
 (if ine p0.Kind 2=true then some (ine p0.Kind 3) else some false).bind fun g1=>
 if g1=true then
  (jF p0).bind fun r2=>
  some r2
 else
  (if ilt p1 1=true then some true else(if ieq p0.Kind 3=true then some (igt (ilen p0.Else) 0) else some false).bind fun g3=>some g3).bind fun g4=>
  if g4=true then
   some false
  else
   (yR p0 false).bind fun r5=>
   (if r5=true then(yS p0 false).bind fun r6=>some r6 else some false).bind fun g7=>
   (if g7=true then(jH p0.Expr).bind fun r8=>some r8 else some false).bind fun g9=>
   (if g9=true then(Fr9 p0.Body (isub .i64 p1 1)).bind fun r10=>some r10 else some false).bind fun g11=>
   (if g11=true then(Fr9 p0.Else (isub .i64 p1 1)).bind fun r12=>some r12 else some false).bind fun g13=>
   some g13

def kD:Nat->((List gStmt)->Int->Option (Bool))×(gStmt->Int->Option (Bool))
 |0=>(fun _ _=>none,fun _ _=>none)
 |n+1=>(wI ((kD n).1) ((kD n).2),mD ((kD n).1) ((kD n).2))

def nO (p0:List gStmt)(p1:Int):Option (Bool):=recF fun n=>(kD n).1 p0 p1

def vY (p0:List gStmt):Option (Bool):=
 (nO p0 3).bind fun r1=>
 (if r1=true then(jQ p0).bind fun r2=>some (ile r2 16) else some false).bind fun g3=>
 some g3

def tQ (Fr11:gExpr->Int->Option ((List gQuad)))(Fr12:gExpr->Int->Option ((List gQuad)))(p0:gExpr)(p1:Int):Option ((List gQuad)):=
 if ieq p0.Op 0=true then
  some ([(⟨1,p1,0,0,p0.N⟩:gQuad)]:List gQuad)
 else
  if ieq p0.Op 13=true then
   some ([(⟨2,p1,p0.N,0,0⟩:gQuad)]:List gQuad)
  else
   (idx p0.Args 0).bind fun v1=>
   (idx p0.Args 1).bind fun v2=>
   (Fr12 v1 p1).bind fun r3=>
   (Fr11 v2 (iadd .i64 p1 1)).bind fun r4=>
   (appx 40 r3 r4).bind fun l5=>
   (appx 40 l5 ([(⟨3,p1,p1,iadd .i64 p1 1,p0.Op⟩:gQuad)]:List gQuad)).bind fun l6=>
   some l6

def wE (Fr11:gExpr->Int->Option ((List gQuad)))(Fr12:gExpr->Int->Option ((List gQuad)))(p0:gExpr)(p1:Int):Option ((List gQuad)):=
 if ieq p0.Op 0=true then
  (some ([(⟨1,p1,0,0,p0.N⟩:gQuad)]:List gQuad)).bind fun l1=>
  some l1
 else
  if ieq p0.Op 13=true then
   (some ([(⟨2,p1,p0.N,0,0⟩:gQuad)]:List gQuad)).bind fun l2=>
   some l2
  else
   (idx p0.Args 0).bind fun v3=>
   (idx p0.Args 1).bind fun v4=>
   (Fr12 v3 p1).bind fun r5=>
   (Fr11 v4 (iadd .i64 p1 1)).bind fun r6=>
   (appx 40 r5 r6).bind fun l7=>
   (appx 40 l7 ([(⟨3,p1,p1,iadd .i64 p1 1,p0.Op⟩:gQuad)]:List gQuad)).bind fun l8=>
   some l8

def kO:Nat->(gExpr->Int->Option ((List gQuad)))×(gExpr->Int->Option ((List gQuad)))
 |0=>(fun _ _=>none,fun _ _=>none)
 |n+1=>(tQ ((kO n).1) ((kO n).2),wE ((kO n).1) ((kO n).2))

def wZ (p0:gExpr)(p1:Int):Option ((List gQuad)):=recF fun n=>(kO n).2 p0 p1

def vX (p0:List gStmt)(p1:Int)(Fr16:gStmt->Int->Option ((List gQuad)))(s:Int×(List gQuad)):Option (Flow (Int×(List gQuad)) ((List gQuad))):=
 match s with
 |(s1,s2)=>
 if ilt s1 (ilen p0)=true then
  (idx p0 s1).bind fun v4=>
  (Fr16 v4 (iadd .i64 p1 (ilen s2))).bind fun r5=>
  (appx 40 s2 r5).bind fun l6=>
  some (.next (iadd .i64 s1 1,l6))
 else
  some (.done s2)

def tP (Fr13:(List gStmt)->Int->Option ((List gQuad)))(Fr14:gStmt->Int->Option ((List gQuad)))(Fr15:gStmt->Int->Option ((List gQuad)))(Fr16:gStmt->Int->Option ((List gQuad)))(p0:List gStmt)(p1:Int):Option ((List gQuad)):=
 (loopM (vX p0 p1 Fr16) (0,([]:List gQuad))).bind fun e1=>
 match e1 with
 |y3=>
  some y3

def mC (Fr13:(List gStmt)->Int->Option ((List gQuad)))(Fr14:gStmt->Int->Option ((List gQuad)))(Fr15:gStmt->Int->Option ((List gQuad)))(Fr16:gStmt->Int->Option ((List gQuad)))(p0:gStmt)(p1:Int):Option ((List gQuad)):=
 (wZ p0.Expr 4).bind fun r1=>
 (Fr13 p0.Body (iadd .i64 (iadd .i64 p1 (ilen r1)) 1)).bind fun r2=>
 if ieq (ilen p0.Else) 0=true then
  (appx 40 r1 ([(⟨5,0,4,0,iadd .i64 (iadd .i64 (iadd .i64 p1 (ilen r1)) 1) (ilen r2)⟩:gQuad)]:List gQuad)).bind fun l3=>
  (appx 40 l3 r2).bind fun l4=>
  some l4
 else
  (Fr13 p0.Else (iadd .i64 (iadd .i64 (iadd .i64 (iadd .i64 p1 (ilen r1)) 1) (ilen r2)) 1)).bind fun r5=>
  (appx 40 r1 ([(⟨5,0,4,0,iadd .i64 (iadd .i64 (iadd .i64 (iadd .i64 p1 (ilen r1)) 1) (ilen r2)) 1⟩:gQuad)]:List gQuad)).bind fun l6=>
  (appx 40 l6 r2).bind fun l7=>
  (appx 40 l7 ([(⟨4,0,0,0,iadd .i64 (iadd .i64 (iadd .i64 (iadd .i64 (iadd .i64 p1 (ilen r1)) 1) (ilen r2)) 1) (ilen r5)⟩:gQuad)]:List gQuad)).bind fun l8=>
  (appx 40 l8 r5).bind fun l9=>
  some l9

def vW (Fr13:(List gStmt)->Int->Option ((List gQuad)))(Fr14:gStmt->Int->Option ((List gQuad)))(Fr15:gStmt->Int->Option ((List gQuad)))(Fr16:gStmt->Int->Option ((List gQuad)))(p0:gStmt)(p1:Int):Option ((List gQuad)):=
 (wZ p0.Expr 4).bind fun r1=>
 (Fr13 p0.Body (iadd .i64 (iadd .i64 p1 (ilen r1)) 1)).bind fun r2=>
 (appx 40 r1 ([(⟨5,0,4,0,iadd .i64 (iadd .i64 (iadd .i64 (iadd .i64 p1 (ilen r1)) 1) (ilen r2)) 1⟩:gQuad)]:List gQuad)).bind fun l3=>
 (appx 40 l3 r2).bind fun l4=>
 (appx 40 l4 ([(⟨4,0,0,0,p1⟩:gQuad)]:List gQuad)).bind fun l5=>
 some l5

def tO (Fr13:(List gStmt)->Int->Option ((List gQuad)))(Fr14:gStmt->Int->Option ((List gQuad)))(Fr15:gStmt->Int->Option ((List gQuad)))(Fr16:gStmt->Int->Option ((List gQuad)))(p0:gStmt)(p1:Int):Option ((List gQuad)):=
 (wZ p0.Expr 4).bind fun r1=>
 if ieq p0.Kind 2=true then
  (Fr14 p0 p1).bind fun r2=>
  some r2
 else
  if ieq p0.Kind 3=true then
   (Fr15 p0 p1).bind fun r3=>
   some r3
  else
   if ieq p0.Kind 1=true then
    (appx 40 r1 ([(⟨2,p0.Var,4,0,0⟩:gQuad)]:List gQuad)).bind fun l4=>
    some l4
   else
    if ieq p0.Kind 4=true then
     (appx 40 r1 ([(⟨6,0,4,0,p0.Box⟩:gQuad)]:List gQuad)).bind fun l5=>
     some l5
    else
     if ieq p0.Kind 7=true then
      (appx 40 r1 ([(⟨9,0,4,0,0⟩:gQuad)]:List gQuad)).bind fun l6=>
      some l6
     else
      if ieq p0.Kind 5=true then
       some ([(⟨7,p0.Var,0,0,p0.Box⟩:gQuad)]:List gQuad)
      else
       some ([(⟨8,0,0,0,0⟩:gQuad)]:List gQuad)

def zN:Nat->((List gStmt)->Int->Option ((List gQuad)))×(gStmt->Int->Option ((List gQuad)))×(gStmt->Int->Option ((List gQuad)))×(gStmt->Int->Option ((List gQuad)))
 |0=>(fun _ _=>none,fun _ _=>none,fun _ _=>none,fun _ _=>none)
 |n+1=>(tP ((zN n).1) ((zN n).2.1) ((zN n).2.2.1) ((zN n).2.2.2),mC ((zN n).1) ((zN n).2.1) ((zN n).2.2.1) ((zN n).2.2.2),vW ((zN n).1) ((zN n).2.1) ((zN n).2.2.1) ((zN n).2.2.2),tO ((zN n).1) ((zN n).2.1) ((zN n).2.2.1) ((zN n).2.2.2))

def fQ (p0:gStmt)(p1:Int):Option ((List gQuad)):=recF fun n=>(zN n).2.2.2 p0 p1

def sU (p0:List gStmt)(p1:Int)(s:Int×(List gQuad)):Option (Flow (Int×(List gQuad)) ((List gQuad))):=
 match s with
 |(s1,s2)=>
 if ilt s1 (ilen p0)=true then
  (idx p0 s1).bind fun v4=>
  (fQ v4 (iadd .i64 p1 (ilen s2))).bind fun r5=>
  (appx 40 s2 r5).bind fun l6=>
  some (.next (iadd .i64 s1 1,l6))
 else
  some (.done s2)

def nN (p0:List gStmt)(p1:Int):Option ((List gQuad)):=
 (loopM (sU p0 p1) (0,([]:List gQuad))).bind fun e1=>
 match e1 with
 |y3=>
  some y3

def wM (p0:List gStmt):Option ((List gQuad)×Bool):=
 (vY p0).bind fun r1=>
 if bnot r1=true then
  some (([]:List gQuad),false)
 else
  (nN p0 0).bind fun r2=>
  (appx 40 r2 ([(⟨10,0,0,0,0⟩:gQuad)]:List gQuad)).bind fun l3=>
  some (l3,true)

def sK (p0:Int)(p1:Bool):Option (Bool):=
 if p1=true then
  (kW p0 0 11).bind fun r1=>
  some r1
 else
  some (ieq p0 0)

def yG (p0:gQuad)(p1:Bool)(p2:Bool)(p3:Bool):Option (Bool):=
 (sK p0.Dst p1).bind fun r1=>
 (if r1=true then(sK p0.A p2).bind fun r2=>some r2 else some false).bind fun g3=>
 (if g3=true then(sK p0.B p3).bind fun r4=>some r4 else some false).bind fun g5=>
 some g5

def kV (p0:Int):Option (Bool):=
 (kW p0 (-2147483648) 2147483647).bind fun r1=>
 some r1

def yU (p0:gQuad)(p1:Int):Option (Bool):=
 if ieq p0.Op 1=true then
  (yG p0 true false false).bind fun r1=>
  (if r1=true then(kV p0.N).bind fun r2=>some r2 else some false).bind fun g3=>
  some g3
 else
  if ieq p0.Op 2=true then
   (yG p0 true true false).bind fun r4=>
   (if r4=true then some (ieq p0.N 0) else some false).bind fun g5=>
   some g5
  else
   if ieq p0.Op 3=true then
    (yG p0 true true true).bind fun r6=>
    (if r6=true then(wK p0.N).bind fun r7=>some r7 else some false).bind fun g8=>
    some g8
   else
    if ieq p0.Op 4=true then
     (yG p0 false false false).bind fun r9=>
     (if r9=true then some (ige p0.N 0) else some false).bind fun g10=>
     (if g10=true then some (ilt p0.N p1) else some false).bind fun g11=>
     some g11
    else
     if ieq p0.Op 5=true then
      (yG p0 false true false).bind fun r12=>
      (if r12=true then some (ige p0.N 0) else some false).bind fun g13=>
      (if g13=true then some (ilt p0.N p1) else some false).bind fun g14=>
      some g14
     else
      if ieq p0.Op 6=true then
       (yG p0 false true false).bind fun r15=>
       (if r15=true then(kW p0.N 0 2).bind fun r16=>some r16 else some false).bind fun g17=>
       some g17
      else
       if ieq p0.Op 7=true then
        (yG p0 true false false).bind fun r18=>
        (if r18=true then(kW p0.N 0 2).bind fun r19=>some r19 else some false).bind fun g20=>
        some g20
       else
        if ieq p0.Op 9=true then
         (yG p0 false true false).bind fun r21=>
         (if r21=true then some (ieq p0.N 0) else some false).bind fun g22=>
         some g22
        else
         (if ieq p0.Op 8=true then
          some (ieq p0.Op 8)
         else
          some (ieq p0.Op 10)).bind fun j1=>
         if j1=true then
          (yG p0 false false false).bind fun r24=>
          (if r24=true then some (ieq p0.N 0) else some false).bind fun g25=>
          some g25
         else
          some false

def kT (p0:List gQuad)(s:Int):Option (Flow (Int) (Sum (Unit) (Bool))):=
 let s2:=s
 if ilt s2 (ilen p0)=true then
  (idx p0 s2).bind fun v3=>
  (yU v3 (ilen p0)).bind fun r4=>
  if bnot r4=true then
   some (.done (.inr false))
  else
   some (.next (iadd .i64 s2 1))
 else
  some (.done (.inl ()))

def kB (p0:List gQuad):Option (Bool):=
 (kW (ilen p0) 1 600).bind fun r1=>
 if bnot r1=true then
  some false
 else
  (loopM (kT p0) 0).bind fun e1=>
  match e1 with
  |.inl _=>
   (idx p0 (isub .i64 (ilen p0) 1)).bind fun v5=>
   (if ieq v5.Op 10=true then some true else some (ieq v5.Op 4)).bind fun g6=>
   some g6
  |.inr r0=>
   some r0

def wA (p0:List gQuad)(p1:Int):Option ((List Int)):=
 (idx p0 p1).bind fun v1=>
 if ieq v1.Op 10=true then
  some ([]:List Int)
 else
  if ieq v1.Op 4=true then
   some ([v1.N]:List Int)
  else
   (if ieq v1.Op 5=true then some (ilt v1.N (iadd .i64 p1 1)) else some false).bind fun g2=>
   if g2=true then
    some ([v1.N,iadd .i64 p1 1]:List Int)
   else
    (if ieq v1.Op 5=true then some (igt v1.N (iadd .i64 p1 1)) else some false).bind fun g3=>
    if g3=true then
     some ([iadd .i64 p1 1,v1.N]:List Int)
    else
     some ([iadd .i64 p1 1]:List Int)

def dM (p0:List gQuad)(p1:List gFact)(p2:Int):Option ((List Int)):=
 (idx p0 p2).bind fun v1=>
 (if ine v1.Op 5=true then some true else(idx p1 v1.A).bind fun v2=>some (ine v2.Kind 1)).bind fun g3=>
 if g3=true then
  (wA p0 p2).bind fun r4=>
  some r4
 else
  (idx p1 v1.A).bind fun v5=>
  if ieq v5.N 0=true then
   some ([v1.N]:List Int)
  else
   some ([iadd .i64 p2 1]:List Int)

def hY (p0:Bool):Option (Int):=
 if p0=true then
  some 1
 else
  some 0

def qY (p0:Int)(p1:Int)(p2:Bool):Option (Int):=
 if p2=true then
  (shrx .i64 p0 (iand .i64 p1 31)).bind fun v1=>
  some v1
 else
  (shlx .i64 p0 (iand .i64 p1 31)).bind fun v2=>
  (sL v2).bind fun r3=>
  some r3

def pA (p0:Int)(p1:Int):Option (Int):=
 if ieq p1 0=true then
  some (-1)
 else
  (quox .i64 p0 p1).bind fun v1=>
  (sL v1).bind fun r2=>
  some r2

def qZ (p0:Int)(p1:Int):Option (Int):=
 if ieq p1 0=true then
  some p0
 else
  (remx p0 p1).bind fun v1=>
  some v1

def sY (p0:Int)(p1:Int)(p2:Int):Option (Int×Bool):=
 (wK p0).bind fun r1=>
 (if bnot r1=true then some true else(kV p1).bind fun r2=>some (bnot r2)).bind fun g3=>
 (if g3=true then some true else(kV p2).bind fun r4=>some (bnot r4)).bind fun g5=>
 if g5=true then
  some (0,false)
 else
  if ieq p0 1=true then
   some (ior .i64 p1 p2,true)
  else
   if ieq p0 2=true then
    some (ixor .i64 p1 p2,true)
   else
    if ieq p0 3=true then
     some (iand .i64 p1 p2,true)
    else
     if ieq p0 4=true then
      (hY (ieq p1 p2)).bind fun r6=>
      some (r6,true)
     else
      if ieq p0 5=true then
       (hY (ilt p1 p2)).bind fun r7=>
       some (r7,true)
      else
       if ieq p0 6=true then
        (qY p1 p2 false).bind fun r8=>
        some (r8,true)
       else
        if ieq p0 7=true then
         (qY p1 p2 true).bind fun r9=>
         some (r9,true)
        else
         if ieq p0 8=true then
          (sL (iadd .i64 p1 p2)).bind fun r10=>
          some (r10,true)
         else
          if ieq p0 9=true then
           (sL (isub .i64 p1 p2)).bind fun r11=>
           some (r11,true)
          else
           if ieq p0 10=true then
            (sL (imul .i64 p1 p2)).bind fun r12=>
            some (r12,true)
           else
            if ieq p0 11=true then
             (pA p1 p2).bind fun r13=>
             some (r13,true)
            else
             (qZ p1 p2).bind fun r14=>
             some (r14,true)

def xK (p0:gQuad)(p1:gFact)(p2:gFact):Option (gFact):=
 (if ine p1.Kind 1=true then some true else some (ine p2.Kind 1)).bind fun g1=>
 if g1=true then
  some (⟨2,0⟩:gFact)
 else
  (sY p0.N p1.N p2.N).bind fun r2=>
  some (⟨1,r2.1⟩:gFact)

def dN (p0:gQuad)(p1:List gFact):Option ((List gFact)):=
 (appx 16 ([]:List gFact) p1).bind fun l1=>
 if ieq p0.Op 1=true then
  (idx l1 p0.Dst).bind fun v2=>
  (setx l1 p0.Dst (⟨1,p0.N⟩:gFact)).bind fun l3=>
  some l3
 else
  if ieq p0.Op 2=true then
   (idx p1 p0.A).bind fun v4=>
   (idx l1 p0.Dst).bind fun v5=>
   (setx l1 p0.Dst v4).bind fun l6=>
   some l6
  else
   if ieq p0.Op 7=true then
    (idx l1 p0.Dst).bind fun v7=>
    (setx l1 p0.Dst (⟨2,0⟩:gFact)).bind fun l8=>
    some l8
   else
    if ieq p0.Op 3=true then
     (idx p1 p0.A).bind fun v9=>
     (idx p1 p0.B).bind fun v10=>
     (xK p0 v9 v10).bind fun r11=>
     (idx l1 p0.Dst).bind fun v12=>
     (setx l1 p0.Dst r11).bind fun l13=>
     some l13
    else
     some l1

def oT (p0:gFact)(p1:gFact):Option (gFact):=
 if ieq p0.Kind 0=true then
  some p1
 else
  (if ieq p1.Kind 0=true then some true else some (eqD p0 p1)).bind fun g1=>
  if g1=true then
   some p0
  else
   some (⟨2,0⟩:gFact)

def nK (p1:Int)(p2:List gFact)(s:Bool×Int×(List (List gFact))):Option (Flow (Bool×Int×(List (List gFact))) (Bool×(List (List gFact)))):=
 match s with
 |(s1,s2,s3)=>
 if ilt s2 12=true then
  (idx s3 p1).bind fun v6=>
  (idx p2 s2).bind fun v7=>
  (idx v6 s2).bind fun v8=>
  (oT v8 v7).bind fun r9=>
  if bnot (eqD r9 v8)=true then
   (setx v6 s2 r9).bind fun l10=>
   (setx s3 p1 l10).bind fun l11=>
   some (.next (true,iadd .i64 s2 1,l11))
  else
   (setx s3 p1 v6).bind fun l12=>
   some (.next (s1,iadd .i64 s2 1,l12))
 else
  some (.done (s1,s3))

def qW (p0:(List (List gFact)))(p1:Int)(p2:List gFact):Option (Bool×(List (List gFact))):=
 (loopM (nK p1 p2) (false,0,p0)).bind fun e1=>
 match e1 with
 |(y4,y5)=>
  some (y4,y5)

def gS (p0:List gQuad)(p1:Int):Option ((List Int)):=
 (idx p0 p1).bind fun v1=>
 if ieq v1.Op 10=true then
  some ([]:List Int)
 else
  if ieq v1.Op 4=true then
   (some ([v1.N]:List Int)).bind fun l2=>
   some l2
  else
   (if ieq v1.Op 5=true then some (ilt v1.N (iadd .i64 p1 1)) else some false).bind fun g3=>
   if g3=true then
    (some ([v1.N,iadd .i64 p1 1]:List Int)).bind fun l4=>
    some l4
   else
    (if ieq v1.Op 5=true then some (igt v1.N (iadd .i64 p1 1)) else some false).bind fun g5=>
    if g5=true then
     (some ([iadd .i64 p1 1,v1.N]:List Int)).bind fun l6=>
     some l6
    else
     (some ([iadd .i64 p1 1]:List Int)).bind fun l7=>
     some l7

def vR (p0:List gQuad)(p1:List gFact)(p2:Int):Option ((List Int)):=
 (idx p0 p2).bind fun v1=>
 (if ine v1.Op 5=true then some true else(idx p1 v1.A).bind fun v2=>some (ine v2.Kind 1)).bind fun g3=>
 if g3=true then
  (gS p0 p2).bind fun r4=>
  some r4
 else
  (idx p1 v1.A).bind fun v5=>
  if ieq v5.N 0=true then
   (some ([v1.N]:List Int)).bind fun l6=>
   some l6
  else
   (some ([iadd .i64 p2 1]:List Int)).bind fun l7=>
   some l7

def vS (p0:gQuad)(p1:List gFact):Option ((List gFact)):=
 (appx 16 ([]:List gFact) p1).bind fun l1=>
 if ieq p0.Op 1=true then
  (idx l1 p0.Dst).bind fun v2=>
  (setx l1 p0.Dst (⟨1,p0.N⟩:gFact)).bind fun l3=>
  some l3
 else
  if ieq p0.Op 2=true then
   (idx p1 p0.A).bind fun v4=>
   (idx l1 p0.Dst).bind fun v5=>
   (setx l1 p0.Dst v4).bind fun l6=>
   some l6
  else
   if ieq p0.Op 7=true then
    (idx l1 p0.Dst).bind fun v7=>
    (setx l1 p0.Dst (⟨2,0⟩:gFact)).bind fun l8=>
    some l8
   else
    if ieq p0.Op 3=true then
     (idx p1 p0.A).bind fun v9=>
     (idx p1 p0.B).bind fun v10=>
     (xK p0 v9 v10).bind fun r11=>
     (idx l1 p0.Dst).bind fun v12=>
     (setx l1 p0.Dst r11).bind fun l13=>
     some l13
    else
     some l1

def nH (r16:List gFact)(s:Bool×Int×(List (List gFact))×(List Int)):Option (Flow (Bool×Int×(List (List gFact))×(List Int)) (Bool×(List (List gFact)))):=
 match s with
 |(s18,s19,s20,s21)=>
 if ilt s19 (ilen s21)=true then
  (idx s21 s19).bind fun v24=>
  (qW s20 v24 r16).bind fun r25=>
  if r25.1=true then
   some (.next (true,iadd .i64 s19 1,r25.2,s21))
  else
   some (.next (s18,iadd .i64 s19 1,r25.2,s21))
 else
  some (.done (s18,s20))

def nI (p0:List gQuad)(s:Bool×Int×(List (List gFact))):Option (Flow (Bool×Int×(List (List gFact))) (Bool×(List (List gFact)))):=
 match s with
 |(s1,s2,s3)=>
 if ilt s2 (ilen p0)=true then
  (idx s3 s2).bind fun v6=>
  (idx v6 0).bind fun v7=>
  if ieq v7.Kind 0=true then
   (setx s3 s2 v6).bind fun l8=>
   some (.next (s1,iadd .i64 s2 1,l8))
  else
   (setx s3 s2 v6).bind fun l9=>
   (idx l9 s2).bind fun v10=>
   (vR p0 v10 s2).bind fun r11=>
   (setx l9 s2 v10).bind fun l12=>
   (idx l12 s2).bind fun v14=>
   (idx p0 s2).bind fun v15=>
   (vS v15 v14).bind fun r16=>
   (setx l12 s2 v14).bind fun l17=>
   (loopM (nH r16) (s1,0,l17,r11)).bind fun e1=>
   match e1 with
   |(y22,y23)=>
    some (.next (y22,iadd .i64 s2 1,y23))
 else
  some (.done (s1,s3))

def qV (p0:List gQuad)(p1:(List (List gFact))):Option (Bool×(List (List gFact))):=
 (loopM (nI p0) (false,0,p1)).bind fun e2=>
 match e2 with
 |(y4,y5)=>
  some (y4,y5)

def vZ (p0:List gQuad)(s:Int×(List (List gFact))):Option (Flow (Int×(List (List gFact))) ((List (List gFact)))):=
 match s with
 |(s2,s3)=>
 if ilt s2 (ilen p0)=true then
  (makex 16 12 (⟨0,0⟩:gFact)).bind fun l5=>
  (appx 24 s3 [l5]).bind fun l6=>
  some (.next (iadd .i64 s2 1,l6))
 else
  some (.done s3)

def mG (s:Int×(List (List gFact))):Option (Flow (Int×(List (List gFact))) ((List (List gFact)))):=
 match s with
 |(s7,s8)=>
 if ilt s7 12=true then
  (idx s8 0).bind fun v10=>
  (idx v10 s7).bind fun v11=>
  (setx v10 s7 (⟨1,0⟩:gFact)).bind fun l12=>
  (setx s8 0 l12).bind fun l13=>
  some (.next (iadd .i64 s7 1,l13))
 else
  some (.done s8)

def mF (p0:List gQuad)(s:(List (List gFact))):Option (Flow ((List (List gFact))) ((List (List gFact)))):=
 let s14:=s
 (qV p0 s14).bind fun r16=>
 if r16.1=true then
  some (.next r16.2)
 else
  some (.done r16.2)

def mH (p0:List gQuad):Option ((List (List gFact))):=
 (kB p0).bind fun r1=>
 if bnot r1=true then
  some ([]:List (List gFact))
 else
  (loopM (vZ p0) (0,([]:List (List gFact)))).bind fun e1=>
  match e1 with
  |y4=>
   (loopM (mG) (0,y4)).bind fun e2=>
   match e2 with
   |y9=>
    (loopM (mF p0) y9).bind fun e3=>
    match e3 with
    |y15=>
     some y15

def nJ (p0:gFact)(p1:Int):Option (Bool):=
 (if ieq p0.Kind 1=true then some (ieq p0.N p1) else some false).bind fun g1=>
 some g1

def gT (p0:List Int)(p1:Int)(s:Int):Option (Flow (Int) (Sum (Unit) (Bool))):=
 let s1:=s
 if ilt s1 (ilen p0)=true then
  (idx p0 s1).bind fun v2=>
  if ieq v2 p1=true then
   some (.done (.inr true))
  else
   some (.next (iadd .i64 s1 1))
 else
  some (.done (.inl ()))

def hU (p0:List Int)(p1:Int):Option (Bool):=
 (loopM (gT p0 p1) 0).bind fun e1=>
 match e1 with
 |.inl _=>
  some false
 |.inr r0=>
  some r0

def nL (p0:Int)(p1:List Int):Option (Bool):=
 (hU p1 p0).bind fun r1=>
 some r1

def fN (p0:gQuad)(p1:gFact)(p2:gFact):Option (gQuad):=
 (xK p0 p1 p2).bind fun r1=>
 if ieq r1.Kind 1=true then
  some (⟨1,p0.Dst,0,0,r1.N⟩:gQuad)
 else
  (nJ p2 0).bind fun r2=>
  (if r2=true then(nL p0.N ([1,2,6,7,8,9]:List Int)).bind fun r3=>some r3 else some false).bind fun g4=>
  if g4=true then
   some (⟨2,p0.Dst,p0.A,0,0⟩:gQuad)
  else
   (nJ p2 1).bind fun r5=>
   (if r5=true then(nL p0.N ([10,11]:List Int)).bind fun r6=>some r6 else some false).bind fun g7=>
   if g7=true then
    some (⟨2,p0.Dst,p0.A,0,0⟩:gQuad)
   else
    (nJ p1 0).bind fun r8=>
    (if r8=true then(nL p0.N ([1,2,8]:List Int)).bind fun r9=>some r9 else some false).bind fun g10=>
    if g10=true then
     some (⟨2,p0.Dst,p0.B,0,0⟩:gQuad)
    else
     (nJ p1 1).bind fun r11=>
     (if r11=true then some (ieq p0.N 10) else some false).bind fun g12=>
     if g12=true then
      some (⟨2,p0.Dst,p0.B,0,0⟩:gQuad)
     else
      (if r8=true then some true else some r2).bind fun g13=>
      (if g13=true then(nL p0.N ([3,10]:List Int)).bind fun r14=>some r14 else some false).bind fun g15=>
      if g15=true then
       some (⟨1,p0.Dst,0,0,0⟩:gQuad)
      else
       some p0

def oU (p0:gQuad)(p1:List gFact)(p2:Int):Option (gQuad):=
 (idx p1 0).bind fun v1=>
 if ieq v1.Kind 0=true then
  some p0
 else
  if ieq p0.Op 2=true then
   (idx p1 p0.A).bind fun v2=>
   if ieq v2.Kind 1=true then
    some (⟨1,p0.Dst,0,0,v2.N⟩:gQuad)
   else
    some p0
  else
   if ieq p0.Op 3=true then
    (idx p1 p0.A).bind fun v3=>
    (idx p1 p0.B).bind fun v4=>
    (fN p0 v3 v4).bind fun r5=>
    some r5
   else
    if ieq p0.Op 5=true then
     (idx p1 p0.A).bind fun v6=>
     (nJ v6 0).bind fun r7=>
     if r7=true then
      some (⟨4,0,0,0,p0.N⟩:gQuad)
     else
      if ieq v6.Kind 1=true then
       some (⟨4,0,0,0,iadd .i64 p2 1⟩:gQuad)
      else
       some p0
    else
     some p0

def uS (p0:List gQuad)(r2:(List (List gFact)))(s:Int×(List gQuad)):Option (Flow (Int×(List gQuad)) ((List gQuad))):=
 match s with
 |(s3,s4)=>
 if ilt s3 (ilen p0)=true then
  (idx p0 s3).bind fun v6=>
  (idx r2 s3).bind fun v7=>
  (oU v6 v7 s3).bind fun r8=>
  (appx 40 s4 ([r8]:List gQuad)).bind fun l9=>
  some (.next (iadd .i64 s3 1,l9))
 else
  some (.done s4)

def pI (p0:List gQuad):Option ((List gQuad)×Bool):=
 (kB p0).bind fun r1=>
 if bnot r1=true then
  some (([]:List gQuad),false)
 else
  (mH p0).bind fun r2=>
  (loopM (uS p0 r2) (0,([]:List gQuad))).bind fun e1=>
  match e1 with
  |y5=>
   some (y5,true)

def oR (s:Int×(List Int)):Option (Flow (Int×(List Int)) ((List Int))):=
 match s with
 |(s1,s2)=>
 if ilt s1 12=true then
  (appx 8 s2 ([s1]:List Int)).bind fun l4=>
  some (.next (iadd .i64 s1 1,l4))
 else
  some (.done s2)

def s_l34Self:Option ((List Int)):=
 (loopM (oR) (0,([]:List Int))).bind fun e1=>
 match e1 with
 |y3=>
  some y3

def xQ (p0:gQuad):Option (Int):=
 (yU p0 600).bind fun r1=>
 if bnot r1=true then
  some (-1)
 else
  (if ieq p0.Op 1=true then
   some (ieq p0.Op 1)
  else
   if ieq p0.Op 2=true then
    some (ieq p0.Op 2)
   else
    if ieq p0.Op 3=true then
     some (ieq p0.Op 3)
    else
     some (ieq p0.Op 7)).bind fun j1=>
  if j1=true then
   some p0.Dst
  else
   some (-1)

def fM (r2:Int)(s:Int×(List Int)):Option (Flow (Int×(List Int)) ((List Int))):=
 match s with
 |(s3,s4)=>
 if ilt s3 12=true then
  (idx s4 s3).bind fun v6=>
  if ieq v6 r2=true then
   (setx s4 s3 s3).bind fun l7=>
   some (.next (iadd .i64 s3 1,l7))
  else
   some (.next (iadd .i64 s3 1,s4))
 else
  some (.done s4)

def dL (p0:gQuad)(p1:List Int):Option ((List Int)):=
 (appx 8 ([]:List Int) p1).bind fun l1=>
 (xQ p0).bind fun r2=>
 if ilt r2 0=true then
  some l1
 else
  (loopM (fM r2) (0,l1)).bind fun e1=>
  match e1 with
  |y5=>
   (idx y5 r2).bind fun v8=>
   (setx y5 r2 r2).bind fun l9=>
   if ieq p0.Op 2=true then
    (idx l9 r2).bind fun v10=>
    (setx l9 r2 p0.A).bind fun l11=>
    some l11
   else
    some l9

def nG (p1:Int)(p2:List Int)(s:Bool×Int×(List (List Int))):Option (Flow (Bool×Int×(List (List Int))) (Bool×(List (List Int)))):=
 match s with
 |(s5,s6,s7)=>
 if ilt s6 12=true then
  (idx s7 p1).bind fun v10=>
  (idx v10 s6).bind fun v11=>
  (if ine v11 s6=true then(idx p2 s6).bind fun v12=>some (ine v11 v12) else some false).bind fun g13=>
  if g13=true then
   (setx v10 s6 s6).bind fun l14=>
   (setx s7 p1 l14).bind fun l15=>
   some (.next (true,iadd .i64 s6 1,l15))
  else
   (setx s7 p1 v10).bind fun l16=>
   some (.next (s5,iadd .i64 s6 1,l16))
 else
  some (.done (s5,s7))

def qU (p0:(List (List Int)))(p1:Int)(p2:List Int):Option (Bool×(List (List Int))):=
 (idx p0 p1).bind fun v1=>
 if ieq (ilen v1) 0=true then
  (appx 8 ([]:List Int) p2).bind fun l2=>
  (setx p0 p1 l2).bind fun l3=>
  some (true,l3)
 else
  (setx p0 p1 v1).bind fun l4=>
  (loopM (nG p1 p2) (false,0,l4)).bind fun e1=>
  match e1 with
  |(y8,y9)=>
   some (y8,y9)

def oS (r2:Int)(s:Int×(List Int)):Option (Flow (Int×(List Int)) ((List Int))):=
 match s with
 |(s3,s4)=>
 if ilt s3 12=true then
  (idx s4 s3).bind fun v6=>
  if ieq v6 r2=true then
   (setx s4 s3 s3).bind fun l7=>
   some (.next (iadd .i64 s3 1,l7))
  else
   some (.next (iadd .i64 s3 1,s4))
 else
  some (.done s4)

def vQ (p0:gQuad)(p1:List Int):Option ((List Int)):=
 (appx 8 ([]:List Int) p1).bind fun l1=>
 (xQ p0).bind fun r2=>
 if ilt r2 0=true then
  some l1
 else
  (loopM (oS r2) (0,l1)).bind fun e1=>
  match e1 with
  |y5=>
   (idx y5 r2).bind fun v8=>
   (setx y5 r2 r2).bind fun l9=>
   if ieq p0.Op 2=true then
    (idx l9 r2).bind fun v10=>
    (setx l9 r2 p0.A).bind fun l11=>
    some l11
   else
    some l9

def nE (r9:List Int)(r13:List Int)(s:Bool×Int×(List (List Int))):Option (Flow (Bool×Int×(List (List Int))) (Bool×(List (List Int)))):=
 match s with
 |(s15,s16,s17)=>
 if ilt s16 (ilen r9)=true then
  (idx r9 s16).bind fun v20=>
  (qU s17 v20 r13).bind fun r21=>
  if r21.1=true then
   some (.next (true,iadd .i64 s16 1,r21.2))
  else
   some (.next (s15,iadd .i64 s16 1,r21.2))
 else
  some (.done (s15,s17))

def nF (p0:List gQuad)(s:Bool×Int×(List (List Int))):Option (Flow (Bool×Int×(List (List Int))) (Bool×(List (List Int)))):=
 match s with
 |(s1,s2,s3)=>
 if ilt s2 (ilen p0)=true then
  (idx s3 s2).bind fun v6=>
  if ieq (ilen v6) 0=true then
   (setx s3 s2 v6).bind fun l7=>
   some (.next (s1,iadd .i64 s2 1,l7))
  else
   (setx s3 s2 v6).bind fun l8=>
   (wA p0 s2).bind fun r9=>
   (idx l8 s2).bind fun v11=>
   (idx p0 s2).bind fun v12=>
   (vQ v12 v11).bind fun r13=>
   (setx l8 s2 v11).bind fun l14=>
   (loopM (nE r9 r13) (s1,0,l14)).bind fun e1=>
   match e1 with
   |(y18,y19)=>
    some (.next (y18,iadd .i64 s2 1,y19))
 else
  some (.done (s1,s3))

def qT (p0:List gQuad)(p1:(List (List Int))):Option (Bool×(List (List Int))):=
 (loopM (nF p0) (false,0,p1)).bind fun e2=>
 match e2 with
 |(y4,y5)=>
  some (y4,y5)

def gH (s:Int×(List Int)):Option (Flow (Int×(List Int)) ((List Int))):=
 match s with
 |(s1,s2)=>
 if ilt s1 12=true then
  (appx 8 s2 ([s1]:List Int)).bind fun l4=>
  some (.next (iadd .i64 s1 1,l4))
 else
  some (.done s2)

def tN:Option ((List Int)):=
 (loopM (gH) (0,([]:List Int))).bind fun e1=>
 match e1 with
 |y3=>
  some y3

def wL (p0:List gQuad)(s:Int×(List (List Int))):Option (Flow (Int×(List (List Int))) ((List (List Int)))):=
 match s with
 |(s2,s3)=>
 if ilt s2 (ilen p0)=true then
  (appx 24 s3 [([]:List Int)]).bind fun l5=>
  some (.next (iadd .i64 s2 1,l5))
 else
  some (.done s3)

def nS (p0:List gQuad)(s:(List (List Int))):Option (Flow ((List (List Int))) ((List (List Int)))):=
 let s9:=s
 (qT p0 s9).bind fun r11=>
 if r11.1=true then
  some (.next r11.2)
 else
  some (.done r11.2)

def nR (p0:List gQuad)(s:Int×(List (List Int))):Option (Flow (Int×(List (List Int))) ((List (List Int)))):=
 match s with
 |(s12,s13)=>
 if ilt s12 (ilen p0)=true then
  (idx s13 s12).bind fun v15=>
  if ieq (ilen v15) 0=true then
   (setx s13 s12 v15).bind fun l16=>
   (tN).bind fun r17=>
   (idx l16 s12).bind fun v18=>
   (setx l16 s12 r17).bind fun l19=>
   some (.next (iadd .i64 s12 1,l19))
  else
   (setx s13 s12 v15).bind fun l20=>
   some (.next (iadd .i64 s12 1,l20))
 else
  some (.done s13)

def pM (p0:List gQuad):Option ((List (List Int))):=
 (kB p0).bind fun r1=>
 if bnot r1=true then
  some ([]:List (List Int))
 else
  (loopM (wL p0) (0,([]:List (List Int)))).bind fun e1=>
  match e1 with
  |y4=>
   (tN).bind fun r6=>
   (idx y4 0).bind fun v7=>
   (setx y4 0 r6).bind fun l8=>
   (loopM (nS p0) l8).bind fun e2=>
   match e2 with
   |y10=>
    (loopM (nR p0) (0,y10)).bind fun e3=>
    match e3 with
    |y14=>
     some y14

def fL (p0:gQuad)(p1:List Int):Option (gQuad):=
 (if ieq p0.Op 2=true then
  some (ieq p0.Op 2)
 else
  if ieq p0.Op 5=true then
   some (ieq p0.Op 5)
  else
   if ieq p0.Op 6=true then
    some (ieq p0.Op 6)
   else
    some (ieq p0.Op 9)).bind fun j1=>
 if j1=true then
  (idx p1 p0.A).bind fun v2=>
  some (⟨p0.Op,p0.Dst,v2,p0.B,p0.N⟩:gQuad)
 else
  if ieq p0.Op 3=true then
   (idx p1 p0.A).bind fun v3=>
   (idx p1 p0.B).bind fun v4=>
   some (⟨p0.Op,p0.Dst,v3,v4,p0.N⟩:gQuad)
  else
   some p0

def uU (p0:List gQuad)(r2:(List (List Int)))(s:Int×(List gQuad)):Option (Flow (Int×(List gQuad)) ((List gQuad))):=
 match s with
 |(s3,s4)=>
 if ilt s3 (ilen p0)=true then
  (idx p0 s3).bind fun v6=>
  (idx r2 s3).bind fun v7=>
  (fL v6 v7).bind fun r8=>
  (appx 40 s4 ([r8]:List gQuad)).bind fun l9=>
  some (.next (iadd .i64 s3 1,l9))
 else
  some (.done s4)

def pL (p0:List gQuad):Option ((List gQuad)×Bool):=
 (kB p0).bind fun r1=>
 if bnot r1=true then
  some (([]:List gQuad),false)
 else
  (pM p0).bind fun r2=>
  (loopM (uU p0 r2) (0,([]:List gQuad))).bind fun e1=>
  match e1 with
  |y5=>
   some (y5,true)

def sR (p0:List gQuad)(s:Int×Int):Option (Flow (Int×Int) (Sum (Unit) (Int))):=
 match s with
 |(s1,s2)=>
 if ilt s2 (ilen p0)=true then
  (idx p0 s1).bind fun v3=>
  if ine v3.Op 4=true then
   some (.done (.inr s1))
  else
   some (.next (v3.N,iadd .i64 s2 1))
 else
  some (.done (.inl ()))

def tM (p0:List gQuad)(p1:Int):Option (Int):=
 (loopM (sR p0) (p1,0)).bind fun e1=>
 match e1 with
 |.inl _=>
  some p1
 |.inr r0=>
  some r0

def uR (p0:List gQuad)(s:Int×(List gQuad)):Option (Flow (Int×(List gQuad)) ((List gQuad))):=
 match s with
 |(s2,s3)=>
 if ilt s2 (ilen p0)=true then
  (idx p0 s2).bind fun v5=>
  ((if ieq v5.Op 4=true then some true else some (ieq v5.Op 5)).bind fun g8=>
  if g8=true then
   (tM p0 v5.N).bind fun r9=>
   some (⟨v5.Op,v5.Dst,v5.A,v5.B,r9⟩:gQuad)
  else
   some v5).bind fun j1=>
  (appx 40 s3 ([j1]:List gQuad)).bind fun l7=>
  some (.next (iadd .i64 s2 1,l7))
 else
  some (.done s3)

def pH (p0:List gQuad):Option ((List gQuad)×Bool):=
 (kB p0).bind fun r1=>
 if bnot r1=true then
  some (([]:List gQuad),false)
 else
  (loopM (uR p0) (0,([]:List gQuad))).bind fun e2=>
  match e2 with
  |y4=>
   some (y4,true)

def xY (p1:(List (List Bool)))(r2:List Int)(s3:Int)(s:Int×(List Bool)):Option (Flow (Int×(List Bool)) ((List Bool))):=
 match s with
 |(s6,s7)=>
 if ilt s6 12=true then
  (idx s7 s6).bind fun v9=>
  (if v9=true then some true else(idx r2 s3).bind fun v10=>(idx p1 v10).bind fun v11=>(idx v11 s6).bind fun v12=>some v12).bind fun g13=>
  (setx s7 s6 g13).bind fun l14=>
  some (.next (iadd .i64 s6 1,l14))
 else
  some (.done s7)

def xZ (p1:(List (List Bool)))(r2:List Int)(s:Int×(List Bool)):Option (Flow (Int×(List Bool)) ((List Bool))):=
 match s with
 |(s3,s4)=>
 if ilt s3 (ilen r2)=true then
  (loopM (xY p1 r2 s3) (0,s4)).bind fun e1=>
  match e1 with
  |y8=>
   some (.next (iadd .i64 s3 1,y8))
 else
  some (.done s4)

def tA (p0:List gQuad)(p1:(List (List Bool)))(p2:Int):Option ((List Bool)):=
 (makex 1 12 false).bind fun l1=>
 (wA p0 p2).bind fun r2=>
 (loopM (xZ p1 r2) (0,l1)).bind fun e2=>
 match e2 with
 |y5=>
  some y5

def tC (p0:gQuad):Option ((List Int)):=
 (yU p0 600).bind fun r1=>
 if bnot r1=true then
  some ([]:List Int)
 else
  (if ieq p0.Op 2=true then
   some (ieq p0.Op 2)
  else
   if ieq p0.Op 5=true then
    some (ieq p0.Op 5)
   else
    if ieq p0.Op 6=true then
     some (ieq p0.Op 6)
    else
     some (ieq p0.Op 9)).bind fun j1=>
  if j1=true then
   some ([p0.A]:List Int)
  else
   if ieq p0.Op 3=true then
    if ieq p0.A p0.B=true then
     some ([p0.A]:List Int)
    else
     some ([imin p0.A p0.B,imax p0.A p0.B]:List Int)
   else
    some ([]:List Int)

def vK (r3:List Int)(s:Int×(List Bool)):Option (Flow (Int×(List Bool)) ((List Bool))):=
 match s with
 |(s4,s5)=>
 if ilt s4 (ilen r3)=true then
  (idx r3 s4).bind fun v7=>
  (idx s5 v7).bind fun v8=>
  (setx s5 v7 true).bind fun l9=>
  some (.next (iadd .i64 s4 1,l9))
 else
  some (.done s5)

def gR (p0:gQuad)(p1:List Bool):Option ((List Bool)):=
 (appx 1 ([]:List Bool) p1).bind fun l1=>
 ((xQ p0).bind fun r10=>
 if ige r10 0=true then
  (idx l1 r10).bind fun v11=>
  (setx l1 r10 false).bind fun l12=>
  some l12
 else
  some l1).bind fun j1=>
 (tC p0).bind fun r3=>
 (loopM (vK r3) (0,j1)).bind fun e2=>
 match e2 with
 |y6=>
  some y6

def sI (p0:List Bool)(p1:List Bool)(s:Int):Option (Flow (Int) (Sum (Unit) (Bool))):=
 let s1:=s
 if ilt s1 (ilen p0)=true then
  (idx p0 s1).bind fun v2=>
  (idx p1 s1).bind fun v3=>
  if bneb v2 v3=true then
   some (.done (.inr false))
  else
   some (.next (iadd .i64 s1 1))
 else
  some (.done (.inl ()))

def oV (p0:List Bool)(p1:List Bool):Option (Bool):=
 (loopM (sI p0 p1) 0).bind fun e1=>
 match e1 with
 |.inl _=>
  some (ieq (ilen p0) (ilen p1))
 |.inr r0=>
  some r0

def oW (p1:(List (List Bool)))(r2:List Int)(s3:Int)(s:Int×(List Bool)):Option (Flow (Int×(List Bool)) ((List Bool))):=
 match s with
 |(s6,s7)=>
 if ilt s6 12=true then
  (idx s7 s6).bind fun v9=>
  (if v9=true then some true else(idx r2 s3).bind fun v10=>(idx p1 v10).bind fun v11=>(idx v11 s6).bind fun v12=>some v12).bind fun g13=>
  (setx s7 s6 g13).bind fun l14=>
  some (.next (iadd .i64 s6 1,l14))
 else
  some (.done s7)

def oX (p1:(List (List Bool)))(r2:List Int)(s:Int×(List Bool)):Option (Flow (Int×(List Bool)) ((List Bool))):=
 match s with
 |(s3,s4)=>
 if ilt s3 (ilen r2)=true then
  (loopM (oW p1 r2 s3) (0,s4)).bind fun e1=>
  match e1 with
  |y8=>
   some (.next (iadd .i64 s3 1,y8))
 else
  some (.done s4)

def vT (p0:List gQuad)(p1:(List (List Bool)))(p2:Int):Option ((List Bool)):=
 (makex 1 12 false).bind fun l1=>
 (wA p0 p2).bind fun r2=>
 (loopM (oX p1 r2) (0,l1)).bind fun e2=>
 match e2 with
 |y5=>
  some y5

def nZ (r3:List Int)(s:Int×(List Bool)):Option (Flow (Int×(List Bool)) ((List Bool))):=
 match s with
 |(s4,s5)=>
 if ilt s4 (ilen r3)=true then
  (idx r3 s4).bind fun v7=>
  (idx s5 v7).bind fun v8=>
  (setx s5 v7 true).bind fun l9=>
  some (.next (iadd .i64 s4 1,l9))
 else
  some (.done s5)

def xX (p0:gQuad)(p1:List Bool):Option ((List Bool)):=
 (appx 1 ([]:List Bool) p1).bind fun l1=>
 ((xQ p0).bind fun r10=>
 if ige r10 0=true then
  (idx l1 r10).bind fun v11=>
  (setx l1 r10 false).bind fun l12=>
  some l12
 else
  some l1).bind fun j1=>
 (tC p0).bind fun r3=>
 (loopM (nZ r3) (0,j1)).bind fun e2=>
 match e2 with
 |y6=>
  some y6

def nM (p0:List gQuad)(s:Bool×Int×(List (List Bool))):Option (Flow (Bool×Int×(List (List Bool))) (Bool×(List (List Bool)))):=
 match s with
 |(s1,s2,s3)=>
 if ige s2 0=true then
  (idx p0 s2).bind fun v6=>
  (vT p0 s3 s2).bind fun r7=>
  (xX v6 r7).bind fun r8=>
  (idx s3 s2).bind fun v9=>
  (oV r8 v9).bind fun r10=>
  if bnot r10=true then
   (setx s3 s2 r8).bind fun l11=>
   some (.next (true,isub .i64 s2 1,l11))
  else
   (setx s3 s2 v9).bind fun l12=>
   some (.next (s1,isub .i64 s2 1,l12))
 else
  some (.done (s1,s3))

def qX (p0:List gQuad)(p1:(List (List Bool))):Option (Bool×(List (List Bool))):=
 (loopM (nM p0) (false,isub .i64 (ilen p0) 1,p1)).bind fun e1=>
 match e1 with
 |(y4,y5)=>
  some (y4,y5)

def tS (p0:List gQuad)(s:Int×(List (List Bool))):Option (Flow (Int×(List (List Bool))) ((List (List Bool)))):=
 match s with
 |(s2,s3)=>
 if ilt s2 (ilen p0)=true then
  (makex 1 12 false).bind fun l5=>
  (appx 24 s3 [l5]).bind fun l6=>
  some (.next (iadd .i64 s2 1,l6))
 else
  some (.done s3)

def gV (p0:List gQuad)(s:(List (List Bool))):Option (Flow ((List (List Bool))) ((List (List Bool)))):=
 let s7:=s
 (qX p0 s7).bind fun r9=>
 if r9.1=true then
  some (.next r9.2)
 else
  some (.done r9.2)

def hZ (p0:List gQuad):Option ((List (List Bool))):=
 (kB p0).bind fun r1=>
 if bnot r1=true then
  some ([]:List (List Bool))
 else
  (loopM (tS p0) (0,([]:List (List Bool)))).bind fun e1=>
  match e1 with
  |y4=>
   (loopM (gV p0) y4).bind fun e2=>
   match e2 with
   |y8=>
    some y8

def oQ (p0:gQuad)(p1:List Bool):Option (Bool):=
 (if ieq p0.Op 1=true then
  some (ieq p0.Op 1)
 else
  if ieq p0.Op 2=true then
   some (ieq p0.Op 2)
  else
   some (ieq p0.Op 3)).bind fun j1=>
 if j1=true then
  (idx p1 p0.Dst).bind fun v2=>
  some (bnot v2)
 else
  some false

def uT (p0:List gQuad)(r2:(List (List Bool)))(s:Int×(List gQuad)):Option (Flow (Int×(List gQuad)) ((List gQuad))):=
 match s with
 |(s3,s4)=>
 if ilt s3 (ilen p0)=true then
  (idx p0 s3).bind fun v6=>
  ((tA p0 r2 s3).bind fun r9=>
  (oQ v6 r9).bind fun r10=>
  if r10=true then
   some (⟨4,0,0,0,iadd .i64 s3 1⟩:gQuad)
  else
   some v6).bind fun j1=>
  (appx 40 s4 ([j1]:List gQuad)).bind fun l8=>
  some (.next (iadd .i64 s3 1,l8))
 else
  some (.done s4)

def pJ (p0:List gQuad):Option ((List gQuad)×Bool):=
 (kB p0).bind fun r1=>
 if bnot r1=true then
  some (([]:List gQuad),false)
 else
  (hZ p0).bind fun r2=>
  (loopM (uT p0 r2) (0,([]:List gQuad))).bind fun e2=>
  match e2 with
  |y5=>
   some (y5,true)

def sS (r7:List Int)(s:Bool×Int×(List Bool)):Option (Flow (Bool×Int×(List Bool)) (Bool×(List Bool))):=
 match s with
 |(s8,s9,s10)=>
 if ilt s9 (ilen r7)=true then
  (idx r7 s9).bind fun v13=>
  (idx s10 v13).bind fun v14=>
  if bnot v14=true then
   (setx s10 v13 true).bind fun l15=>
   some (.next (true,iadd .i64 s9 1,l15))
  else
   some (.next (s8,iadd .i64 s9 1,s10))
 else
  some (.done (s8,s10))

def sT (p0:List gQuad)(s:Bool×Int×(List Bool)):Option (Flow (Bool×Int×(List Bool)) (Bool×(List Bool))):=
 match s with
 |(s1,s2,s3)=>
 if ilt s2 (ilen p0)=true then
  (idx s3 s2).bind fun v6=>
  if bnot v6=true then
   some (.next (s1,iadd .i64 s2 1,s3))
  else
   (wA p0 s2).bind fun r7=>
   (loopM (sS r7) (s1,0,s3)).bind fun e1=>
   match e1 with
   |(y11,y12)=>
    some (.next (y11,iadd .i64 s2 1,y12))
 else
  some (.done (s1,s3))

def wY (p0:List gQuad)(p1:List Bool):Option (Bool×(List Bool)):=
 (loopM (sT p0) (false,0,p1)).bind fun e2=>
 match e2 with
 |(y4,y5)=>
  some (y4,y5)

def gJ (p0:List gQuad)(s:List Bool):Option (Flow ((List Bool)) ((List Bool))):=
 let s5:=s
 (wY p0 s5).bind fun r7=>
 if r7.1=true then
  some (.next r7.2)
 else
  some (.done r7.2)

def nT (p0:List gQuad):Option ((List Bool)):=
 (kB p0).bind fun r1=>
 if bnot r1=true then
  some ([]:List Bool)
 else
  (makex 1 (ilen p0) false).bind fun l2=>
  (idx l2 0).bind fun v3=>
  (setx l2 0 true).bind fun l4=>
  (loopM (gJ p0) l4).bind fun e1=>
  match e1 with
  |y6=>
   some y6

def oP (p0:gQuad)(p1:Int):Option (Bool):=
 (if ieq p0.Op 4=true then
  some (ieq p0.Op 4)
 else
  some (ieq p0.Op 5)).bind fun j1=>
 if j1=true then
  some (ieq p0.N (iadd .i64 p1 1))
 else
  if ieq p0.Op 2=true then
   some (ieq p0.Dst p0.A)
  else
   some false

def oA (p0:List gQuad)(s:List Bool):Option (Flow ((List Bool)) ((List Bool))):=
 let s5:=s
 (wY p0 s5).bind fun r7=>
 if r7.1=true then
  some (.next r7.2)
 else
  some (.done r7.2)

def uV (p0:List gQuad):Option ((List Bool)):=
 (kB p0).bind fun r1=>
 if bnot r1=true then
  some ([]:List Bool)
 else
  (makex 1 (ilen p0) false).bind fun l2=>
  (idx l2 0).bind fun v3=>
  (setx l2 0 true).bind fun l4=>
  (loopM (oA p0) l4).bind fun e1=>
  match e1 with
  |y6=>
   some y6

def xW (p0:List Bool)(p1:Int)(s:Int×Int):Option (Flow (Int×Int) (Int)):=
 match s with
 |(s1,s2)=>
 if ilt s2 p1=true then
  (idx p0 s2).bind fun v4=>
  if v4=true then
   some (.next (iadd .i64 s1 1,iadd .i64 s2 1))
  else
   some (.next (s1,iadd .i64 s2 1))
 else
  some (.done s1)

def qS (p0:List Bool)(p1:Int):Option (Int):=
 (loopM (xW p0 p1) (0,0)).bind fun e1=>
 match e1 with
 |y3=>
  some y3

def yX (p0:List gQuad)(s:Int×(List Bool)):Option (Flow (Int×(List Bool)) ((List Bool))):=
 match s with
 |(s3,s4)=>
 if ilt s3 (ilen p0)=true then
  (idx s4 s3).bind fun v6=>
  (if v6=true then(idx p0 s3).bind fun v7=>(oP v7 s3).bind fun r8=>some (bnot r8) else some false).bind fun g9=>
  (setx s4 s3 g9).bind fun l10=>
  some (.next (iadd .i64 s3 1,l10))
 else
  some (.done s4)

def uJ (p0:List gQuad)(s:Int×(List Bool)×(List gQuad)):Option (Flow (Int×(List Bool)×(List gQuad)) ((List gQuad))):=
 match s with
 |(s11,s12,s13)=>
 if ilt s11 (ilen p0)=true then
  (idx p0 s11).bind fun v15=>
  (idx s12 s11).bind fun v16=>
  if bnot v16=true then
   some (.next (iadd .i64 s11 1,s12,s13))
  else
   ((if ieq v15.Op 4=true then some true else some (ieq v15.Op 5)).bind fun g19=>
   if g19=true then
    (qS s12 v15.N).bind fun r20=>
    some (⟨v15.Op,v15.Dst,v15.A,v15.B,r20⟩:gQuad)
   else
    some v15).bind fun j2=>
   (appx 40 s13 ([j2]:List gQuad)).bind fun l18=>
   some (.next (iadd .i64 s11 1,s12,l18))
 else
  some (.done s13)

def wJ (p0:List gQuad):Option ((List gQuad)×Bool):=
 (kB p0).bind fun r1=>
 if bnot r1=true then
  some (([]:List gQuad),false)
 else
  (uV p0).bind fun r2=>
  (loopM (yX p0) (0,r2)).bind fun e1=>
  match e1 with
  |y5=>
   (loopM (uJ p0) (0,y5,([]:List gQuad))).bind fun e3=>
   match e3 with
   |y14=>
    some (y14,true)

def oO (p0:List gQuad):Option ((List gQuad)):=
 (pI p0).bind fun r1=>
 (pL r1.1).bind fun r2=>
 (pH r2.1).bind fun r3=>
 (pJ r3.1).bind fun r4=>
 (wJ r4.1).bind fun r5=>
 some r5.1

def vA (p1:Int)(s:(List gQuad)×Int):Option (Flow ((List gQuad)×Int) ((List gQuad))):=
 match s with
 |(s5,s6)=>
 if ilt s6 p1=true then
  (oO s5).bind fun r8=>
  some (.next (r8,iadd .i64 s6 1))
 else
  some (.done s5)

def jV (p0:List gQuad)(p1:Int):Option ((List gQuad)×Bool):=
 (kB p0).bind fun r1=>
 (if bnot r1=true then some true else(kW p1 0 4).bind fun r2=>some (bnot r2)).bind fun g3=>
 if g3=true then
  some (([]:List gQuad),false)
 else
  (appx 40 ([]:List gQuad) p0).bind fun l4=>
  (loopM (vA p1) (l4,0)).bind fun e1=>
  match e1 with
  |y7=>
   some (y7,true)

def qP (p0:gL6Rd):Option ((List gQuad)×gL6Rd):=
 (zI p0 2).bind fun r1=>
 if ieq r1.1 0=true then
  (wX r1.2).bind fun r2=>
  some (r2.1,r2.2)
 else
  (qQ r1.2 2).bind fun r3=>
  (wM r3.1).bind fun r4=>
  if igt (ilen r4.1) 40=true then
   (wX r3.2).bind fun r5=>
   some (r5.1,r5.2)
  else
   (zI r3.2 3).bind fun r6=>
   (quox .i64 r6.1 2).bind fun v7=>
   (jV r4.1 v7).bind fun r8=>
   some (r8.1,r6.2)

def fJ (r1:Int×gL6Rd)(s:Int×gL6Rd×(List (List gQuad))):Option (Flow (Int×gL6Rd×(List (List gQuad))) (gL6Rd×(List (List gQuad)))):=
 match s with
 |(s2,s3,s4)=>
 if ilt s2 (iadd .i64 1 r1.1)=true then
  (qP s3).bind fun r7=>
  (appx 24 s4 ([r7.1]:List (List gQuad))).bind fun l8=>
  some (.next (iadd .i64 s2 1,r7.2,l8))
 else
  some (.done (s3,s4))

def hJ (p0:gL6Rd):Option ((List (List gQuad))×gL6Rd):=
 (zI p0 3).bind fun r1=>
 (loopM (fJ r1) (0,r1.2,([]:List (List gQuad)))).bind fun e1=>
 match e1 with
 |(y5,y6)=>
  some (y6,y5)

def wH (p0:List Int)(s:Int):Option (Flow (Int) (Sum (Unit) (Bool))):=
 let s1:=s
 if ilt s1 (ilen p0)=true then
  (idx p0 s1).bind fun v2=>
  (kW v2 1 4).bind fun r3=>
  if bnot r3=true then
   some (.done (.inr false))
  else
   some (.next (iadd .i64 s1 1))
 else
  some (.done (.inl ()))

def pF (p0:List Int):Option (Bool):=
 (loopM (wH p0) 0).bind fun e1=>
 match e1 with
 |.inl _=>
  some (ile (ilen p0) 3)
 |.inr r0=>
  some r0

def wD (p0:(List (List gQuad)))(s:Int×(List (List gQuad))):Option (Flow (Int×(List (List gQuad))) ((List (List gQuad)))):=
 match s with
 |(s1,s2)=>
 if ilt s1 (ilen p0)=true then
  (idx p0 s1).bind fun v4=>
  (appx 40 ([]:List gQuad) v4).bind fun l5=>
  (appx 24 s2 ([l5]:List (List gQuad))).bind fun l6=>
  some (.next (iadd .i64 s1 1,l6))
 else
  some (.done s2)

def tB (p0:(List (List gQuad))):Option ((List (List gQuad))):=
 (loopM (wD p0) (0,([]:List (List gQuad)))).bind fun e1=>
 match e1 with
 |y3=>
  some y3

def wF (p0:List Int)(s:Int×(List gBox)):Option (Flow (Int×(List gBox)) ((List gBox))):=
 match s with
 |(s1,s2)=>
 if ilt s1 (ilen p0)=true then
  (idx p0 s1).bind fun v4=>
  (appx 32 s2 ([(⟨v4,([]:List Int)⟩:gBox)]:List gBox)).bind fun l5=>
  some (.next (iadd .i64 s1 1,l5))
 else
  some (.done s2)

def pC (p0:List Int):Option ((List gBox)):=
 (loopM (wF p0) (0,([]:List gBox))).bind fun e1=>
 match e1 with
 |y3=>
  some y3

def vP (p0:List Int)(s:Int):Option (Flow (Int) (Sum (Unit) (Bool))):=
 let s1:=s
 if ilt s1 (ilen p0)=true then
  (idx p0 s1).bind fun v2=>
  (kV v2).bind fun r3=>
  if bnot r3=true then
   some (.done (.inr false))
  else
   some (.next (iadd .i64 s1 1))
 else
  some (.done (.inl ()))

def tL (p0:List Int)(p1:Int):Option (Bool):=
 if ine (ilen p0) p1=true then
  some false
 else
  (loopM (vP p0) 0).bind fun e1=>
  match e1 with
  |.inl _=>
   some true
  |.inr r0=>
   some r0

def vB (p0:gBox):Option (Bool):=
 (kW p0.Room 1 4).bind fun r1=>
 (if r1=true then some (ile (ilen p0.Items) p0.Room) else some false).bind fun g2=>
 (if g2=true then(tL p0.Items (ilen p0.Items)).bind fun r3=>some r3 else some false).bind fun g4=>
 some g4

def wG (p0:List gBox)(s:Int):Option (Flow (Int) (Sum (Unit) (Bool))):=
 let s1:=s
 if ilt s1 (ilen p0)=true then
  (idx p0 s1).bind fun v2=>
  (vB v2).bind fun r3=>
  if bnot r3=true then
   some (.done (.inr false))
  else
   some (.next (iadd .i64 s1 1))
 else
  some (.done (.inl ()))

def pE (p0:List gBox):Option (Bool):=
 (loopM (wG p0) 0).bind fun e1=>
 match e1 with
 |.inl _=>
  some (ile (ilen p0) 3)
 |.inr r0=>
  some r0

def mB (p0:gThread)(p1:Int):Option (Bool):=
 (tL p0.Regs 12).bind fun r1=>
 (if r1=true then(kW p0.Pc 0 (isub .i64 p1 1)).bind fun r2=>some r2 else some false).bind fun g3=>
 some g3

def yT (p0:gThread)(p1:List gQuad):Option (Bool):=
 (kB p1).bind fun r1=>
 (if r1=true then(mB p0 (ilen p1)).bind fun r2=>some r2 else some false).bind fun g3=>
 some g3

def mA (p0:gQuad)(p1:Int):Option (Bool):=
 (if ine p0.Op 6=true then some (ine p0.Op 7) else some false).bind fun g1=>
 (if g1=true then some true else some (ilt p0.N p1)).bind fun g2=>
 some g2

def vV (p0:List gQuad)(p1:Int)(s:Int):Option (Flow (Int) (Sum (Unit) (Bool))):=
 let s1:=s
 if ilt s1 (ilen p0)=true then
  (idx p0 s1).bind fun v2=>
  (mA v2 p1).bind fun r3=>
  if bnot r3=true then
   some (.done (.inr false))
  else
   some (.next (iadd .i64 s1 1))
 else
  some (.done (.inl ()))

def oY (p0:List gQuad)(p1:Int):Option (Bool):=
 (loopM (vV p0 p1) 0).bind fun e1=>
 match e1 with
 |.inl _=>
  some true
 |.inr r0=>
  some r0

def jX (p0:gCrew)(s:Int):Option (Flow (Int) (Sum (Unit) (Bool))):=
 let s9:=s
 if ilt s9 (ilen p0.Threads)=true then
  (idx p0.Threads s9).bind fun v10=>
  (idx p0.Codes s9).bind fun v11=>
  (yT v10 v11).bind fun r12=>
  (if bnot r12=true then some true else(oY v11 (ilen p0.Boxes)).bind fun r13=>some (bnot r13)).bind fun g14=>
  if g14=true then
   some (.done (.inr false))
  else
   some (.next (iadd .i64 s9 1))
 else
  some (.done (.inl ()))

def xM (p0:gCrew):Option (Bool):=
 (kW (ilen p0.Threads) 1 3).bind fun r1=>
 (if bnot r1=true then some true else some (ine (ilen p0.Codes) (ilen p0.Threads))).bind fun g2=>
 (if g2=true then some true else(pE p0.Boxes).bind fun r3=>some (bnot r3)).bind fun g4=>
 (if g4=true then some true else(kW p0.Turn 0 (isub .i64 (ilen p0.Threads) 1)).bind fun r5=>some (bnot r5)).bind fun g6=>
 (if g6=true then some true else(kW p0.Idle 0 (ilen p0.Threads)).bind fun r7=>some (bnot r7)).bind fun g8=>
 if g8=true then
  some false
 else
  (loopM (jX p0) 0).bind fun e1=>
  match e1 with
  |.inl _=>
   (tL p0.Out (ilen p0.Out)).bind fun r15=>
   some r15
  |.inr r0=>
   some r0

def uA (p1:(List (List gQuad)))(s:Int×gCrew×gCrew):Option (Flow (Int×gCrew×gCrew) (gCrew×gCrew)):=
 match s with
 |(s5,s6,s7)=>
 if ilt s5 (ilen p1)=true then
  (makex 8 12 0).bind fun l10=>
  (appx 32 s7.Threads ([(⟨l10,0⟩:gThread)]:List gThread)).bind fun l11=>
  some (.next (iadd .i64 s5 1,s6,(⟨s7.Codes,l11,s7.Boxes,s7.Turn,s7.Idle,s7.Out⟩:gCrew)))
 else
  some (.done (s6,s7))

def mI (p0:List Int)(p1:(List (List gQuad))):Option (gCrew×Bool):=
 (pF p0).bind fun r1=>
 if bnot r1=true then
  some ((⟨([]:List (List gQuad)),([]:List gThread),([]:List gBox),0,0,([]:List Int)⟩:gCrew),false)
 else
  (tB p1).bind fun r2=>
  (some ([]:List gThread)).bind fun l3=>
  (pC p0).bind fun r4=>
  (loopM (uA p1) (0,(⟨([]:List (List gQuad)),([]:List gThread),([]:List gBox),0,0,([]:List Int)⟩:gCrew),(⟨r2,l3,r4,0,0,([]:List Int)⟩:gCrew))).bind fun e1=>
  match e1 with
  |(y8,y9)=>
   (xM y9).bind fun r12=>
   if bnot r12=true then
    some ((⟨([]:List (List gQuad)),([]:List gThread),([]:List gBox),0,0,([]:List Int)⟩:gCrew),false)
   else
    some (y9,true)

def yK (p0:List gBox)(s:Int×(List gBox)):Option (Flow (Int×(List gBox)) ((List gBox))):=
 match s with
 |(s1,s2)=>
 if ilt s1 (ilen p0)=true then
  (idx p0 s1).bind fun v4=>
  (appx 8 ([]:List Int) v4.Items).bind fun l5=>
  (appx 32 s2 ([(⟨v4.Room,l5⟩:gBox)]:List gBox)).bind fun l6=>
  some (.next (iadd .i64 s1 1,l6))
 else
  some (.done s2)

def kL (p0:List gBox):Option ((List gBox)):=
 (loopM (yK p0) (0,([]:List gBox))).bind fun e1=>
 match e1 with
 |y3=>
  some y3

def xL (p0:gThread)(p1:Int):Option (gThread):=
 (appx 8 ([]:List Int) p0.Regs).bind fun l1=>
 some (⟨l1,p1⟩:gThread)

def fR (p0:gBox)(p1:Int):Option (gBox×Bool):=
 (vB p0).bind fun r1=>
 (if bnot r1=true then some true else(kV p1).bind fun r2=>some (bnot r2)).bind fun g3=>
 (if g3=true then some true else some (ige (ilen p0.Items) p0.Room)).bind fun g4=>
 if g4=true then
  some ((⟨0,([]:List Int)⟩:gBox),false)
 else
  (appx 8 ([]:List Int) p0.Items).bind fun l5=>
  (appx 8 l5 ([p1]:List Int)).bind fun l6=>
  some ((⟨p0.Room,l6⟩:gBox),true)

def tR (p0:List gBox)(s:Int×(List gBox)):Option (Flow (Int×(List gBox)) ((List gBox))):=
 match s with
 |(s1,s2)=>
 if ilt s1 (ilen p0)=true then
  (idx p0 s1).bind fun v4=>
  (appx 8 ([]:List Int) v4.Items).bind fun l5=>
  (appx 32 s2 ([(⟨v4.Room,l5⟩:gBox)]:List gBox)).bind fun l6=>
  some (.next (iadd .i64 s1 1,l6))
 else
  some (.done s2)

def xH (p0:List gBox):Option ((List gBox)):=
 (loopM (tR p0) (0,([]:List gBox))).bind fun e1=>
 match e1 with
 |y3=>
  some y3

def mJ (p0:gBox):Option (gBox×Int×Bool):=
 (vB p0).bind fun r1=>
 (if bnot r1=true then some true else some (ieq (ilen p0.Items) 0)).bind fun g2=>
 if g2=true then
  some ((⟨0,([]:List Int)⟩:gBox),0,false)
 else
  (cutx p0.Items 1 (ilen p0.Items)).bind fun l3=>
  (appx 8 ([]:List Int) l3).bind fun l4=>
  (idx p0.Items 0).bind fun v5=>
  some ((⟨p0.Room,l4⟩:gBox),v5,true)

def sJ (p0:gThread)(p1:Int)(p2:Int)(p3:Int):Option (gThread):=
 (appx 8 ([]:List Int) p0.Regs).bind fun l1=>
 (idx l1 p1).bind fun v2=>
 (setx l1 p1 p2).bind fun l3=>
 some (⟨l3,p3⟩:gThread)

def fO (p0:gQuad)(p1:gThread)(p2:List gBox):Option (gThread×(List gBox)×Int):=
 (xH p2).bind fun r1=>
 if ieq p0.Op 6=true then
  (idx p2 p0.N).bind fun v2=>
  (idx p1.Regs p0.A).bind fun v3=>
  (fR v2 v3).bind fun r4=>
  if bnot r4.2=true then
   (xL p1 p1.Pc).bind fun r5=>
   some (r5,r1,3)
  else
   (idx r1 p0.N).bind fun v6=>
   (setx r1 p0.N r4.1).bind fun l7=>
   (xL p1 (iadd .i64 p1.Pc 1)).bind fun r8=>
   some (r8,l7,1)
 else
  (idx p2 p0.N).bind fun v9=>
  (mJ v9).bind fun r10=>
  if bnot r10.2.2=true then
   (xL p1 p1.Pc).bind fun r11=>
   some (r11,r1,3)
  else
   (idx r1 p0.N).bind fun v12=>
   (setx r1 p0.N r10.1).bind fun l13=>
   (sJ p1 p0.Dst r10.2.1 (iadd .i64 p1.Pc 1)).bind fun r14=>
   some (r14,l13,1)

def fP (p0:gQuad)(p1:gThread):Option (gThread):=
 if ieq p0.Op 1=true then
  (sJ p1 p0.Dst p0.N (iadd .i64 p1.Pc 1)).bind fun r1=>
  some r1
 else
  if ieq p0.Op 2=true then
   (idx p1.Regs p0.A).bind fun v2=>
   (sJ p1 p0.Dst v2 (iadd .i64 p1.Pc 1)).bind fun r3=>
   some r3
  else
   if ieq p0.Op 3=true then
    (idx p1.Regs p0.A).bind fun v4=>
    (idx p1.Regs p0.B).bind fun v5=>
    (sY p0.N v4 v5).bind fun r6=>
    (sJ p1 p0.Dst r6.1 (iadd .i64 p1.Pc 1)).bind fun r7=>
    some r7
   else
    if ieq p0.Op 4=true then
     (xL p1 p0.N).bind fun r8=>
     some r8
    else
     (if ieq p0.Op 5=true then(idx p1.Regs p0.A).bind fun v9=>some (ieq v9 0) else some false).bind fun g10=>
     if g10=true then
      (xL p1 p0.N).bind fun r11=>
      some r11
     else
      (xL p1 (iadd .i64 p1.Pc 1)).bind fun r12=>
      some r12

def oZ (p0:gQuad)(p1:gThread)(p2:List gBox):Option (gThread×(List gBox)×(List Int)×Int):=
 (if ieq p0.Op 6=true then
  some (ieq p0.Op 6)
 else
  some (ieq p0.Op 7)).bind fun j1=>
 if j1=true then
  (fO p0 p1 p2).bind fun r2=>
  some (r2.1,r2.2.1,([]:List Int),r2.2.2)
 else
  if ieq p0.Op 10=true then
   (xL p1 p1.Pc).bind fun r3=>
   (kL p2).bind fun r4=>
   some (r3,r4,([]:List Int),4)
  else
   if ieq p0.Op 8=true then
    (xL p1 (iadd .i64 p1.Pc 1)).bind fun r5=>
    (kL p2).bind fun r6=>
    some (r5,r6,([]:List Int),2)
   else
    if ieq p0.Op 9=true then
     (xL p1 (iadd .i64 p1.Pc 1)).bind fun r7=>
     (kL p2).bind fun r8=>
     (idx p1.Regs p0.A).bind fun v9=>
     some (r7,r8,([v9]:List Int),1)
    else
     (fP p0 p1).bind fun r10=>
     (kL p2).bind fun r11=>
     some (r10,r11,([]:List Int),1)

def pG (p0:Int)(p1:Int)(p2:Int)(p3:Int):Option (Int×Int×Bool):=
 (kW p0 1 3).bind fun r1=>
 (if bnot r1=true then some true else(kW p1 0 (isub .i64 p0 1)).bind fun r2=>some (bnot r2)).bind fun g3=>
 (if g3=true then some true else(kW p2 0 (isub .i64 p0 1)).bind fun r4=>some (bnot r4)).bind fun g5=>
 if g5=true then
  some (0,0,false)
 else
  if ieq p3 1=true then
   some (p1,0,true)
  else
   if ieq p3 2=true then
    (remx (iadd .i64 p1 1) p0).bind fun v6=>
    some (v6,0,true)
   else
    (if ieq p3 3=true then
     some (ieq p3 3)
    else
     some (ieq p3 4)).bind fun j1=>
    if j1=true then
     (remx (iadd .i64 p1 1) p0).bind fun v8=>
     some (v8,iadd .i64 p2 1,true)
    else
     some (0,0,false)

def pB (p0:gCrew):Option (gCrew):=
 (idx p0.Threads p0.Turn).bind fun v1=>
 (idx p0.Codes p0.Turn).bind fun v2=>
 (idx v2 v1.Pc).bind fun v3=>
 (oZ v3 v1 p0.Boxes).bind fun r4=>
 (setx p0.Threads p0.Turn r4.1).bind fun l5=>
 (appx 8 p0.Out r4.2.2.1).bind fun l6=>
 (pG (ilen l5) p0.Turn p0.Idle r4.2.2.2).bind fun r7=>
 some (⟨p0.Codes,l5,r4.2.1,r7.1,r7.2.1,l6⟩:gCrew)

def jE (p0:gCrew)(s:Int×gCrew×gCrew):Option (Flow (Int×gCrew×gCrew) (gCrew×gCrew)):=
 match s with
 |(s5,s6,s7)=>
 if ilt s5 (ilen p0.Threads)=true then
  (idx p0.Threads s5).bind fun v10=>
  (xL v10 v10.Pc).bind fun r11=>
  (appx 32 s7.Threads ([r11]:List gThread)).bind fun l12=>
  some (.next (iadd .i64 s5 1,s6,(⟨s7.Codes,l12,s7.Boxes,s7.Turn,s7.Idle,s7.Out⟩:gCrew)))
 else
  some (.done (s6,s7))

def vU (p0:gCrew):Option (gCrew):=
 (tB p0.Codes).bind fun r1=>
 (kL p0.Boxes).bind fun r2=>
 (appx 8 ([]:List Int) p0.Out).bind fun l3=>
 (some ([]:List gThread)).bind fun l4=>
 (loopM (jE p0) (0,(⟨([]:List (List gQuad)),([]:List gThread),([]:List gBox),0,0,([]:List Int)⟩:gCrew),(⟨r1,l4,r2,p0.Turn,p0.Idle,l3⟩:gCrew))).bind fun e1=>
 match e1 with
 |(y8,y9)=>
  some y9

def xR (p1:Int)(s:Int×gCrew×gCrew):Option (Flow (Int×gCrew×gCrew) (gCrew×gCrew)):=
 match s with
 |(s5,s6,s7)=>
 (if ilt s5 p1=true then some (ilt s7.Idle (ilen s7.Threads)) else some false).bind fun g10=>
 if g10=true then
  (pB s7).bind fun r11=>
  some (.next (iadd .i64 s5 1,s6,r11))
 else
  some (.done (s6,s7))

def tT (p0:gCrew)(p1:Int):Option (gCrew×Bool):=
 (xM p0).bind fun r1=>
 (if bnot r1=true then some true else(kW p1 0 100000).bind fun r2=>some (bnot r2)).bind fun g3=>
 if g3=true then
  some ((⟨([]:List (List gQuad)),([]:List gThread),([]:List gBox),0,0,([]:List Int)⟩:gCrew),false)
 else
  (vU p0).bind fun r4=>
  (loopM (xR p1) (0,(⟨([]:List (List gQuad)),([]:List gThread),([]:List gBox),0,0,([]:List Int)⟩:gCrew),r4)).bind fun e1=>
  match e1 with
  |(y8,y9)=>
   some (y9,true)

def gI (p1:Int)(s:Int×gCrew×gCrew):Option (Flow (Int×gCrew×gCrew) (gCrew×gCrew)):=
 match s with
 |(s5,s6,s7)=>
 (if ilt s5 p1=true then some (ilt s7.Idle (ilen s7.Threads)) else some false).bind fun g10=>
 if g10=true then
  (pB s7).bind fun r11=>
  some (.next (iadd .i64 s5 1,s6,r11))
 else
  some (.done (s6,s7))

def nP (p0:gCrew)(p1:Int):Option (gCrew×Bool):=
 (xM p0).bind fun r1=>
 (if bnot r1=true then some true else(kW p1 0 100000).bind fun r2=>some (bnot r2)).bind fun g3=>
 if g3=true then
  some ((⟨([]:List (List gQuad)),([]:List gThread),([]:List gBox),0,0,([]:List Int)⟩:gCrew),false)
 else
  (vU p0).bind fun r4=>
  (loopM (gI p1) (0,(⟨([]:List (List gQuad)),([]:List gThread),([]:List gBox),0,0,([]:List Int)⟩:gCrew),r4)).bind fun e1=>
  match e1 with
  |(y8,y9)=>
   some (y9,true)

def oH (p0:gL6Rd):Option (gCrew×gL6Rd):=
 (zI p0 2).bind fun r1=>
 (zI r1.2 4).bind fun r2=>
 (hJ r2.2).bind fun r3=>
 (mI ([iadd .i64 1 r1.1,iadd .i64 1 r2.1]:List Int) r3.1).bind fun r4=>
 (zI r3.2 40).bind fun r5=>
 (nP r4.1 r5.1).bind fun r6=>
 (zI r5.2 40).bind fun r7=>
 if ieq r7.1 0=true then
  some ((⟨r6.1.Codes,r6.1.Threads,r6.1.Boxes,-1,r6.1.Idle,r6.1.Out⟩:gCrew),r7.2)
 else
  if ieq r7.1 1=true then
   (cutx r6.1.Boxes 0 1).bind fun l8=>
   some ((⟨r6.1.Codes,r6.1.Threads,l8,r6.1.Turn,r6.1.Idle,r6.1.Out⟩:gCrew),r7.2)
  else
   if ieq r7.1 2=true then
    (idx r6.1.Threads 0).bind fun v9=>
    (setx r6.1.Threads 0 (⟨v9.Regs,-1⟩:gThread)).bind fun l10=>
    some ((⟨r6.1.Codes,l10,r6.1.Boxes,r6.1.Turn,r6.1.Idle,r6.1.Out⟩:gCrew),r7.2)
   else
    some (r6.1,r7.2)

def jW (p0:List Int):Option (gCrew):=
 (qR p0).bind fun r1=>
 (oH r1).bind fun r2=>
 some r2.1

def xO (p0:Int):Option (Bool):=
 (if ige p0 (-2147483648)=true then some (ile p0 2147483647) else some false).bind fun g1=>
 some g1

def wT (p0:List Int)(s:Int):Option (Flow (Int) (Sum (Unit) (Bool))):=
 let s1:=s
 if ilt s1 (ilen p0)=true then
  (idx p0 s1).bind fun v2=>
  (xO v2).bind fun r3=>
  if bnot r3=true then
   some (.done (.inr false))
  else
   some (.next (iadd .i64 s1 1))
 else
  some (.done (.inl ()))

def vG (p0:List Int):Option (Bool):=
 (loopM (wT p0) 0).bind fun e1=>
 match e1 with
 |.inl _=>
  some true
 |.inr r0=>
  some r0

def sO (p0:Int)(p1:Int)(p2:Int)(p3:List Int):Option (Bool):=
 (if ige p0 1=true then some (ile p0 3) else some false).bind fun g1=>
 (if g1=true then some (ige p1 0) else some false).bind fun g2=>
 (if g2=true then some (ilt p1 p0) else some false).bind fun g3=>
 (if g3=true then some (ige p2 0) else some false).bind fun g4=>
 (if g4=true then some (ile p2 p0) else some false).bind fun g5=>
 (if g5=true then(vG p3).bind fun r6=>some r6 else some false).bind fun g7=>
 some g7

def pV (p0:gBox):Option (Bool):=
 (if ige p0.Room 1=true then some (ile p0.Room 4) else some false).bind fun g1=>
 (if g1=true then some (ile (ilen p0.Items) p0.Room) else some false).bind fun g2=>
 (if g2=true then(vG p0.Items).bind fun r3=>some r3 else some false).bind fun g4=>
 some g4

def jL (p0:List gBox)(s:Int):Option (Flow (Int) (Sum (Unit) (Bool))):=
 let s1:=s
 if ilt s1 (ilen p0)=true then
  (idx p0 s1).bind fun v2=>
  (pV v2).bind fun r3=>
  if bnot r3=true then
   some (.done (.inr false))
  else
   some (.next (iadd .i64 s1 1))
 else
  some (.done (.inl ()))

def xT (p0:List gBox):Option (Bool):=
 (loopM (jL p0) 0).bind fun e1=>
 match e1 with
 |.inl _=>
  some (ile (ilen p0) 3)
 |.inr r0=>
  some r0

def dW (p0:Int):Option (Bool):=
 (if ige p0 0=true then some (ilt p0 12) else some false).bind fun g1=>
 some g1

def fW (p0:Int):Option (Bool):=
 (if ige p0 1=true then some (ile p0 12) else some false).bind fun g1=>
 some g1

def sA (p0:gQuad)(p1:Int):Option (Bool):=
 (dW p0.Dst).bind fun r1=>
 (dW p0.A).bind fun r2=>
 (dW p0.B).bind fun r3=>
 if ieq p0.Op 1=true then
  (if eqD p0 (⟨1,p0.Dst,0,0,p0.N⟩:gQuad)=true then some r1 else some false).bind fun g4=>
  (if g4=true then(xO p0.N).bind fun r5=>some r5 else some false).bind fun g6=>
  some g6
 else
  if ieq p0.Op 2=true then
   (if eqD p0 (⟨2,p0.Dst,p0.A,0,0⟩:gQuad)=true then some r1 else some false).bind fun g7=>
   (if g7=true then some r2 else some false).bind fun g8=>
   some g8
  else
   if ieq p0.Op 3=true then
    (if r1=true then some r2 else some false).bind fun g9=>
    (if g9=true then some r3 else some false).bind fun g10=>
    (if g10=true then(fW p0.N).bind fun r11=>some r11 else some false).bind fun g12=>
    some g12
   else
    if ieq p0.Op 4=true then
     (if eqD p0 (⟨4,0,0,0,p0.N⟩:gQuad)=true then some (ige p0.N 0) else some false).bind fun g13=>
     (if g13=true then some (ilt p0.N p1) else some false).bind fun g14=>
     some g14
    else
     if ieq p0.Op 5=true then
      (if eqD p0 (⟨5,0,p0.A,0,p0.N⟩:gQuad)=true then some r2 else some false).bind fun g15=>
      (if g15=true then some (ige p0.N 0) else some false).bind fun g16=>
      (if g16=true then some (ilt p0.N p1) else some false).bind fun g17=>
      some g17
     else
      if ieq p0.Op 6=true then
       (if eqD p0 (⟨6,0,p0.A,0,p0.N⟩:gQuad)=true then some r2 else some false).bind fun g18=>
       (if g18=true then some (ige p0.N 0) else some false).bind fun g19=>
       (if g19=true then some (ilt p0.N 3) else some false).bind fun g20=>
       some g20
      else
       if ieq p0.Op 7=true then
        (if eqD p0 (⟨7,p0.Dst,0,0,p0.N⟩:gQuad)=true then some r1 else some false).bind fun g21=>
        (if g21=true then some (ige p0.N 0) else some false).bind fun g22=>
        (if g22=true then some (ilt p0.N 3) else some false).bind fun g23=>
        some g23
       else
        if ieq p0.Op 9=true then
         (if eqD p0 (⟨9,0,p0.A,0,0⟩:gQuad)=true then some r2 else some false).bind fun g24=>
         some g24
        else
         (if ieq p0.Op 8=true then
          some (ieq p0.Op 8)
         else
          some (ieq p0.Op 10)).bind fun j1=>
         if j1=true then
          some (eqD p0 (⟨p0.Op,0,0,0,0⟩:gQuad))
         else
          some false

def vM (p0:List gQuad)(s:Int):Option (Flow (Int) (Sum (Unit) (Bool))):=
 let s2:=s
 if ilt s2 (ilen p0)=true then
  (idx p0 s2).bind fun v3=>
  (sA v3 (ilen p0)).bind fun r4=>
  if bnot r4=true then
   some (.done (.inr false))
  else
   some (.next (iadd .i64 s2 1))
 else
  some (.done (.inl ()))

def sE (p0:List gQuad):Option (Bool):=
 (if ilt (ilen p0) 1=true then some true else some (igt (ilen p0) 600)).bind fun g1=>
 if g1=true then
  some false
 else
  (loopM (vM p0) 0).bind fun e1=>
  match e1 with
  |.inl _=>
   (idx p0 (isub .i64 (ilen p0) 1)).bind fun v5=>
   (if ieq v5.Op 10=true then some true else some (ieq v5.Op 4)).bind fun g6=>
   some g6
  |.inr r0=>
   some r0

def uC (p0:gThread)(p1:List gQuad):Option (Bool):=
 (if ieq (ilen p0.Regs) 12=true then(vG p0.Regs).bind fun r1=>some r1 else some false).bind fun g2=>
 (if g2=true then some (ige p0.Pc 0) else some false).bind fun g3=>
 (if g3=true then some (ilt p0.Pc (ilen p1)) else some false).bind fun g4=>
 some g4

def yV (p0:gThread)(p1:List gQuad):Option (Bool):=
 (sE p1).bind fun r1=>
 (if r1=true then(uC p0 p1).bind fun r2=>some r2 else some false).bind fun g3=>
 some g3

def tD (p0:gQuad)(p1:Int):Option (Bool):=
 (if ine p0.Op 6=true then some (ine p0.Op 7) else some false).bind fun g1=>
 (if g1=true then some true else some (ilt p0.N p1)).bind fun g2=>
 some g2

def yZ (p0:gCrew)(v6:List gQuad)(s:Int):Option (Flow (Int) (Sum (Unit) (Bool))):=
 let s9:=s
 if ilt s9 (ilen v6)=true then
  (idx v6 s9).bind fun v10=>
  (tD v10 (ilen p0.Boxes)).bind fun r11=>
  if bnot r11=true then
   some (.done (.inr false))
  else
   some (.next (iadd .i64 s9 1))
 else
  some (.done (.inl ()))

def xF (p0:gCrew)(s:Int):Option (Flow (Int) (Sum (Unit) (Bool))):=
 let s5:=s
 if ilt s5 (ilen p0.Codes)=true then
  (idx p0.Codes s5).bind fun v6=>
  (idx p0.Threads s5).bind fun v7=>
  (yV v7 v6).bind fun r8=>
  if bnot r8=true then
   some (.done (.inr false))
  else
   (loopM (yZ p0 v6) 0).bind fun e1=>
   match e1 with
   |.inl _=>
    some (.next (iadd .i64 s5 1))
   |.inr r0=>
    some (.done (.inr r0))
 else
  some (.done (.inl ()))

def sB (p0:gCrew):Option (Bool):=
 (sO (ilen p0.Codes) p0.Turn p0.Idle p0.Out).bind fun r1=>
 (if bnot r1=true then some true else some (ine (ilen p0.Threads) (ilen p0.Codes))).bind fun g2=>
 (if g2=true then some true else(xT p0.Boxes).bind fun r3=>some (bnot r3)).bind fun g4=>
 if g4=true then
  some false
 else
  (loopM (xF p0) 0).bind fun e2=>
  match e2 with
  |.inl _=>
   some true
  |.inr r0=>
   some r0

def zZ (p0:List gQuad):Option ((List gQuad)):=
 if false=true then
  some ([]:List gQuad)
 else
  (appx 40 ([]:List gQuad) p0).bind fun l1=>
  some l1

def xD (p0:(List (List gQuad)))(s:Int×(List (List gQuad))):Option (Flow (Int×(List (List gQuad))) ((List (List gQuad)))):=
 match s with
 |(s1,s2)=>
 if ilt s1 (ilen p0)=true then
  (idx p0 s1).bind fun v4=>
  (zZ v4).bind fun r5=>
  (appx 24 s2 ([r5]:List (List gQuad))).bind fun l6=>
  some (.next (iadd .i64 s1 1,l6))
 else
  some (.done s2)

def tZ (p0:(List (List gQuad))):Option ((List (List gQuad))):=
 (loopM (xD p0) (0,([]:List (List gQuad)))).bind fun e1=>
 match e1 with
 |y3=>
  some y3

def yJ (p0:List Int):Option ((List Int)):=
 if false=true then
  some ([]:List Int)
 else
  (appx 8 ([]:List Int) p0).bind fun l1=>
  some l1

def vL (p0:List gBox)(s:Int×(List gBox)):Option (Flow (Int×(List gBox)) ((List gBox))):=
 match s with
 |(s1,s2)=>
 if ilt s1 (ilen p0)=true then
  (idx p0 s1).bind fun v4=>
  (yJ v4.Items).bind fun r5=>
  (appx 32 s2 ([(⟨v4.Room,r5⟩:gBox)]:List gBox)).bind fun l6=>
  some (.next (iadd .i64 s1 1,l6))
 else
  some (.done s2)

def fB (p0:List gBox):Option ((List gBox)):=
 (loopM (vL p0) (0,([]:List gBox))).bind fun e1=>
 match e1 with
 |y3=>
  some y3

def i_truth (p0:Bool):Option (Int):=
 if p0=true then
  some 1
 else
  some 0

def fV (p0:Int):Option (Int):=
 some (iconv .i64 (iconv .i32 p0))

def nU (p0:Int)(p1:Int)(p2:Int):Option (Int):=
 if ieq p0 1=true then
  some (ior .i64 p1 p2)
 else
  if ieq p0 2=true then
   some (ixor .i64 p1 p2)
  else
   if ieq p0 3=true then
    some (iand .i64 p1 p2)
   else
    if ieq p0 4=true then
     (i_truth (ieq p1 p2)).bind fun r1=>
     some r1
    else
     if ieq p0 5=true then
      (i_truth (ilt p1 p2)).bind fun r2=>
      some r2
     else
      if ieq p0 6=true then
       (shlx .i64 p1 (iand .i64 p2 31)).bind fun v3=>
       (fV v3).bind fun r4=>
       some r4
      else
       if ieq p0 7=true then
        (shrx .i64 p1 (iand .i64 p2 31)).bind fun v5=>
        some v5
       else
        if ieq p0 8=true then
         (fV (iadd .i64 p1 p2)).bind fun r6=>
         some r6
        else
         if ieq p0 9=true then
          (fV (isub .i64 p1 p2)).bind fun r7=>
          some r7
         else
          if ieq p0 10=true then
           (fV (imul .i64 p1 p2)).bind fun r8=>
           some r8
          else
           if ieq p0 11=true then
            if ieq p2 0=true then
             some (-1)
            else
             (quox .i64 p1 p2).bind fun v9=>
             (fV v9).bind fun r10=>
             some r10
           else
            if ieq p2 0=true then
             some p1
            else
             (remx p1 p2).bind fun v11=>
             some v11

def mS (p0:gBox)(p1:Int):Option (Bool×gBox):=
 if ieq (ilen p0.Items) p0.Room=true then
  some (false,p0)
 else
  (appx 8 p0.Items ([p1]:List Int)).bind fun l1=>
  some (true,(⟨p0.Room,l1⟩:gBox))

def pU (p0:gBox):Option (Int×Bool×gBox):=
 if ieq (ilen p0.Items) 0=true then
  some (0,false,p0)
 else
  (idx p0.Items 0).bind fun v1=>
  (cutx p0.Items 0 0).bind fun l2=>
  (cutx p0.Items 1 (ilen p0.Items)).bind fun l3=>
  (appx 8 l2 l3).bind fun l4=>
  some (v1,true,(⟨p0.Room,l4⟩:gBox))

def jT (p0:gThread)(p1:List gQuad)(p2:List gBox)(p3:List Int):Option (Int×gThread×(List gBox)×(List Int)):=
 (idx p1 p0.Pc).bind fun v1=>
 (if ieq v1.Op 1=true then
  (idx p0.Regs v1.Dst).bind fun v6=>
  (setx p0.Regs v1.Dst v1.N).bind fun l7=>
  some (Flow.next (iadd .i64 p0.Pc 1,(⟨l7,p0.Pc⟩:gThread),p2,p3))
 else
  if ieq v1.Op 2=true then
   (idx p0.Regs v1.A).bind fun v8=>
   (idx p0.Regs v1.Dst).bind fun v9=>
   (setx p0.Regs v1.Dst v8).bind fun l10=>
   some (Flow.next (iadd .i64 p0.Pc 1,(⟨l10,p0.Pc⟩:gThread),p2,p3))
  else
   if ieq v1.Op 3=true then
    (idx p0.Regs v1.A).bind fun v11=>
    (idx p0.Regs v1.B).bind fun v12=>
    (nU v1.N v11 v12).bind fun r13=>
    (idx p0.Regs v1.Dst).bind fun v14=>
    (setx p0.Regs v1.Dst r13).bind fun l15=>
    some (Flow.next (iadd .i64 p0.Pc 1,(⟨l15,p0.Pc⟩:gThread),p2,p3))
   else
    if ieq v1.Op 4=true then
     some (Flow.next (v1.N,p0,p2,p3))
    else
     if ieq v1.Op 5=true then
      (idx p0.Regs v1.A).bind fun v16=>
      if ieq v16 0=true then
       some (Flow.next (v1.N,p0,p2,p3))
      else
       some (Flow.next (iadd .i64 p0.Pc 1,p0,p2,p3))
     else
      if ieq v1.Op 6=true then
       (idx p2 v1.N).bind fun v18=>
       (idx p0.Regs v1.A).bind fun v19=>
       (mS v18 v19).bind fun r20=>
       (setx p2 v1.N r20.2).bind fun l21=>
       if bnot r20.1=true then
        (some (3,p0,l21,p3)).bind fun z=>some (Flow.done z)
       else
        some (Flow.next (iadd .i64 p0.Pc 1,p0,l21,p3))
      else
       if ieq v1.Op 7=true then
        (idx p2 v1.N).bind fun v22=>
        (pU v22).bind fun r23=>
        (setx p2 v1.N r23.2.2).bind fun l24=>
        if bnot r23.2.1=true then
         (some (3,p0,l24,p3)).bind fun z=>some (Flow.done z)
        else
         (idx p0.Regs v1.Dst).bind fun v25=>
         (setx p0.Regs v1.Dst r23.1).bind fun l26=>
         some (Flow.next (iadd .i64 p0.Pc 1,(⟨l26,p0.Pc⟩:gThread),l24,p3))
       else
        if ieq v1.Op 8=true then
         (some (2,(⟨p0.Regs,iadd .i64 p0.Pc 1⟩:gThread),p2,p3)).bind fun z=>some (Flow.done z)
        else
         if ieq v1.Op 9=true then
          (idx p0.Regs v1.A).bind fun v27=>
          (appx 8 p3 ([v27]:List Int)).bind fun l28=>
          some (Flow.next (iadd .i64 p0.Pc 1,p0,p2,l28))
         else
          if ieq v1.Op 10=true then
           (some (4,p0,p2,p3)).bind fun z=>some (Flow.done z)
          else
           some (Flow.next (iadd .i64 p0.Pc 1,p0,p2,p3))).bind fun flj1=>
 match flj1 with
 |.next j1=>
  some (1,(⟨j1.2.1.Regs,j1.1⟩:gThread),j1.2.2.1,j1.2.2.2)
 |.done z=>some z

def sC (p0:Int)(pf0:gCrew):Option (Int×gCrew):=
 (idx pf0.Threads p0).bind fun v3=>
 (idx pf0.Codes p0).bind fun v4=>
 (jT v3 v4 pf0.Boxes pf0.Out).bind fun r5=>
 (setx pf0.Threads p0 r5.2.1).bind fun l6=>
 some (r5.1,(⟨pf0.Codes,l6,r5.2.2.1,pf0.Turn,pf0.Idle,r5.2.2.2⟩:gCrew))

def vH (p0:Int)(p1:Int)(p2:Int)(p3:Int):Option (Int×Int×Bool):=
 (if ilt p0 1=true then some true else some (igt p0 3)).bind fun g1=>
 (if g1=true then some true else some (ilt p1 0)).bind fun g2=>
 (if g2=true then some true else some (ige p1 p0)).bind fun g3=>
 (if g3=true then some true else some (ilt p2 0)).bind fun g4=>
 (if g4=true then some true else some (ige p2 p0)).bind fun g5=>
 if g5=true then
  some (0,0,false)
 else
  if ieq p3 1=true then
   some (p1,0,true)
  else
   if ieq p3 2=true then
    (remx (iadd .i64 p1 1) p0).bind fun v6=>
    some (v6,0,true)
   else
    (if ieq p3 3=true then
     some (ieq p3 3)
    else
     some (ieq p3 4)).bind fun j1=>
    if j1=true then
     (remx (iadd .i64 p1 1) p0).bind fun v8=>
     some (v8,iadd .i64 p2 1,true)
    else
     some (0,0,false)

def kI (p0:List Int):Option ((List Int)):=
 if false=true then
  some ([]:List Int)
 else
  (appx 8 ([]:List Int) p0).bind fun l1=>
  some l1

def pS (p0:List gBox)(s:Int×(List gBox)):Option (Flow (Int×(List gBox)) ((List gBox))):=
 match s with
 |(s1,s2)=>
 if ilt s1 (ilen p0)=true then
  (idx p0 s1).bind fun v4=>
  (kI v4.Items).bind fun r5=>
  (appx 32 s2 [(⟨v4.Room,r5⟩:gBox)]).bind fun l6=>
  some (.next (iadd .i64 s1 1,l6))
 else
  some (.done s2)

def xE (p0:List gBox):Option ((List gBox)):=
 (loopM (pS p0) (0,([]:List gBox))).bind fun e1=>
 match e1 with
 |y3=>
  some y3

def zT (p1:Int)(s:Int×Int×Int×gCrew):Option (Flow (Int×Int×Int×gCrew) (Sum (Int×Int×gCrew) (Int×Int×Bool×gCrew))):=
 match s with
 |(s1,s2,s3,s4)=>
 (if igt s1 0=true then some (ilt s3 p1) else some false).bind fun g8=>
 if g8=true then
  (sC s2 s4).bind fun r9=>
  (vH p1 s2 s3 r9.1).bind fun r10=>
  if bnot r10.2.2=true then
   some (.done (.inr (0,0,false,r9.2)))
  else
   some (.next (isub .i64 s1 1,r10.1,r10.2.1,r9.2))
 else
  some (.done (.inl (s2,s3,s4)))

def kK (p0:Int)(p1:Int)(p2:Int)(p3:Int)(p4_0:gCrew):Option (Int×Int×Bool×gCrew):=
 (loopM (zT p1) (p0,p2,p3,p4_0)).bind fun e1=>
 match e1 with
 |.inl (y5,y6,y7)=>
  some (y5,y6,true,y7)
 |.inr r0=>
  some r0

def uE (p0:gCrew)(s:Int×gCrew×gCrew):Option (Flow (Int×gCrew×gCrew) (gCrew×gCrew)):=
 match s with
 |(s7,s8,s9)=>
 if ilt s7 (ilen p0.Threads)=true then
  (idx p0.Threads s7).bind fun v12=>
  (kI v12.Regs).bind fun r13=>
  (appx 32 s9.Threads [(⟨r13,v12.Pc⟩:gThread)]).bind fun l14=>
  some (.next (iadd .i64 s7 1,s8,(⟨s9.Codes,l14,s9.Boxes,s9.Turn,s9.Idle,s9.Out⟩:gCrew)))
 else
  some (.done (s8,s9))

def sD (p0:gCrew)(p1:Int):Option (gCrew×Bool):=
 (sB p0).bind fun r1=>
 (if bnot r1=true then some true else some (ilt p1 0)).bind fun g2=>
 (if g2=true then some true else some (igt p1 100000)).bind fun g3=>
 if g3=true then
  some ((⟨([]:List (List gQuad)),([]:List gThread),([]:List gBox),0,0,([]:List Int)⟩:gCrew),false)
 else
  (tZ p0.Codes).bind fun r4=>
  (xE p0.Boxes).bind fun r5=>
  (kI p0.Out).bind fun r6=>
  (loopM (uE p0) (0,(⟨([]:List (List gQuad)),([]:List gThread),([]:List gBox),0,0,([]:List Int)⟩:gCrew),(⟨r4,([]:List gThread),r5,0,0,r6⟩:gCrew))).bind fun e1=>
  match e1 with
  |(y10,y11)=>
   (kK p1 (ilen y11.Threads) p0.Turn p0.Idle y11).bind fun r15=>
   some ((⟨r15.2.2.2.Codes,r15.2.2.2.Threads,r15.2.2.2.Boxes,r15.1,r15.2.1,r15.2.2.2.Out⟩:gCrew),true)

def pT (p0:gCrew):Option (gCrew×Bool):=
 (sD p0 1).bind fun r1=>
 some (r1.1,r1.2)

def pK (p0:gCrew):Option (gCrew×Bool):=
 (tT p0 1).bind fun r1=>
 some (r1.1,r1.2)

def wP (p0:List gQuad)(p1:List gQuad)(s:Int):Option (Flow (Int) (Sum (Unit) (Bool))):=
 let s1:=s
 if ilt s1 (ilen p0)=true then
  (idx p0 s1).bind fun v2=>
  (idx p1 s1).bind fun v3=>
  if bnot (eqD v2 v3)=true then
   some (.done (.inr false))
  else
   some (.next (iadd .i64 s1 1))
 else
  some (.done (.inl ()))

def pR (p0:List gQuad)(p1:List gQuad):Option (Bool):=
 if ine (ilen p0) (ilen p1)=true then
  some false
 else
  (loopM (wP p0 p1) 0).bind fun e1=>
  match e1 with
  |.inl _=>
   some true
  |.inr r0=>
   some r0

def jZ (p0:(List (List gQuad)))(p1:(List (List gQuad)))(s:Int):Option (Flow (Int) (Sum (Unit) (Bool))):=
 let s1:=s
 if ilt s1 (ilen p0)=true then
  (idx p0 s1).bind fun v2=>
  (idx p1 s1).bind fun v3=>
  (pR v2 v3).bind fun r4=>
  if bnot r4=true then
   some (.done (.inr false))
  else
   some (.next (iadd .i64 s1 1))
 else
  some (.done (.inl ()))

def tW (p0:(List (List gQuad)))(p1:(List (List gQuad))):Option (Bool):=
 if ine (ilen p0) (ilen p1)=true then
  some false
 else
  (loopM (jZ p0 p1) 0).bind fun e1=>
  match e1 with
  |.inl _=>
   some true
  |.inr r0=>
   some r0

def wO (p0:List Int)(p1:List Int)(s:Int):Option (Flow (Int) (Sum (Unit) (Bool))):=
 let s1:=s
 if ilt s1 (ilen p0)=true then
  (idx p0 s1).bind fun v2=>
  (idx p1 s1).bind fun v3=>
  if ine v2 v3=true then
   some (.done (.inr false))
  else
   some (.next (iadd .i64 s1 1))
 else
  some (.done (.inl ()))

def xS (p0:List Int)(p1:List Int):Option (Bool):=
 if ine (ilen p0) (ilen p1)=true then
  some false
 else
  (loopM (wO p0 p1) 0).bind fun e1=>
  match e1 with
  |.inl _=>
   some true
  |.inr r0=>
   some r0

def jI (p0:gThread)(p1:gThread):Option (Bool):=
 (if ieq p0.Pc p1.Pc=true then(xS p0.Regs p1.Regs).bind fun r1=>some r1 else some false).bind fun g2=>
 some g2

def mP (p0:gBox)(p1:gBox):Option (Bool):=
 (if ieq p0.Room p1.Room=true then(xS p0.Items p1.Items).bind fun r1=>some r1 else some false).bind fun g2=>
 some g2

def xC (p0:List gBox)(p1:List gBox)(s:Int):Option (Flow (Int) (Sum (Unit) (Bool))):=
 let s1:=s
 if ilt s1 (ilen p0)=true then
  (idx p0 s1).bind fun v2=>
  (idx p1 s1).bind fun v3=>
  (mP v2 v3).bind fun r4=>
  if bnot r4=true then
   some (.done (.inr false))
  else
   some (.next (iadd .i64 s1 1))
 else
  some (.done (.inl ()))

def vE (p0:List gBox)(p1:List gBox):Option (Bool):=
 if ine (ilen p0) (ilen p1)=true then
  some false
 else
  (loopM (xC p0 p1) 0).bind fun e1=>
  match e1 with
  |.inl _=>
   some true
  |.inr r0=>
   some r0

def wN (p0:gCrew)(p1:gCrew)(s:Int):Option (Flow (Int) (Sum (Unit) (Bool))):=
 let s3:=s
 if ilt s3 (ilen p0.Threads)=true then
  (idx p0.Threads s3).bind fun v4=>
  (idx p1.Threads s3).bind fun v5=>
  if ine v4.Pc v5.Pc=true then
   some (.done (.inr false))
  else
   some (.next (iadd .i64 s3 1))
 else
  some (.done (.inl ()))

def pQ (p0:gCrew)(p1:gCrew):Option (Bool):=
 (if ine (ilen p0.Threads) (ilen p1.Threads)=true then some true else some (ine p0.Turn p1.Turn)).bind fun g1=>
 (if g1=true then some true else some (ine p0.Idle p1.Idle)).bind fun g2=>
 if g2=true then
  some false
 else
  (loopM (wN p0 p1) 0).bind fun e1=>
  match e1 with
  |.inl _=>
   (vE p0.Boxes p1.Boxes).bind fun r6=>
   (if r6=true then(xS p0.Out p1.Out).bind fun r7=>some r7 else some false).bind fun g8=>
   some g8
  |.inr r0=>
   some r0

def jY (p0:gCrew)(p1:gCrew)(s:Int):Option (Flow (Int) (Sum (Unit) (Bool))):=
 let s1:=s
 if ilt s1 (ilen p0.Threads)=true then
  (idx p0.Threads s1).bind fun v2=>
  (idx p1.Threads s1).bind fun v3=>
  (jI v2 v3).bind fun r4=>
  if bnot r4=true then
   some (.done (.inr false))
  else
   some (.next (iadd .i64 s1 1))
 else
  some (.done (.inl ()))

def tV (p0:gCrew)(p1:gCrew):Option (Bool):=
 if ine (ilen p0.Threads) (ilen p1.Threads)=true then
  some false
 else
  (loopM (jY p0 p1) 0).bind fun e1=>
  match e1 with
  |.inl _=>
   (pQ p0 p1).bind fun r5=>
   some r5
  |.inr r0=>
   some r0

def yY (p0:gCrew)(p1:gCrew):Option (Bool):=
 (tW p0.Codes p1.Codes).bind fun r1=>
 (if r1=true then(tV p0 p1).bind fun r2=>some r2 else some false).bind fun g3=>
 some g3

def uD (p0:List gQuad)(p1:gThread)(p2:List gBox):Option (gThread×(List gBox)×(List Int)×Int):=
 (yV p1 p0).bind fun r1=>
 (if bnot r1=true then some true else(xT p2).bind fun r2=>some (bnot r2)).bind fun g3=>
 (if g3=true then some true else(idx p0 p1.Pc).bind fun v4=>(tD v4 (ilen p2)).bind fun r5=>some (bnot r5)).bind fun g6=>
 if g6=true then
  some ((⟨([]:List Int),0⟩:gThread),([]:List gBox),([]:List Int),0)
 else
  (kI p1.Regs).bind fun r7=>
  (xE p2).bind fun r8=>
  (jT (⟨r7,p1.Pc⟩:gThread) p0 r8 ([]:List Int)).bind fun r9=>
  some (r9.2.1,r9.2.2.1,r9.2.2.2,r9.1)

def kU (s:Int×gCrew×gCrew×gThread):Option (Flow (Int×gCrew×gCrew×gThread) (Sum (gCrew×gCrew×gThread) (Bool))):=
 match s with
 |(s14,s15,s16,s17)=>
 if ilt s14 (ilen s15.Threads)=true then
  (if ine s14 s15.Turn=true then(idx s16.Threads s14).bind fun v21=>(idx s15.Threads s14).bind fun v22=>(jI v21 v22).bind fun r23=>some (bnot r23) else some false).bind fun g24=>
  if g24=true then
   some (.done (.inr false))
  else
   some (.next (iadd .i64 s14 1,s15,s16,s17))
 else
  some (.done (.inl (s15,s16,s17)))

def jB (p0:List Int):Option (Bool):=
 if igt (ilen p0) 1048576=true then
  some true
 else
  (jW p0).bind fun r1=>
  (pT r1).bind fun r2=>
  (pK r1).bind fun r3=>
  (if bneb r2.2 r3.2=true then some true else(yY r2.1 r3.1).bind fun r4=>some (bnot r4)).bind fun g5=>
  (if g5=true then some true else some (bnot r2.2)).bind fun g6=>
  if g6=true then
   (if beqb r2.2 r3.2=true then(yY r2.1 r3.1).bind fun r7=>some r7 else some false).bind fun g8=>
   some g8
  else
   if ieq r1.Idle (ilen r1.Threads)=true then
    (yY r2.1 r1).bind fun r9=>
    some r9
   else
    (idx r1.Codes r1.Turn).bind fun v10=>
    (idx r1.Threads r1.Turn).bind fun v11=>
    (uD v10 v11 r1.Boxes).bind fun r12=>
    (vH (ilen r1.Threads) r1.Turn r1.Idle r12.2.2.2).bind fun r13=>
    (loopM (kU) (0,r1,r2.1,r12.1)).bind fun e1=>
    match e1 with
    |.inl (y18,y19,y20)=>
     (if r13.2.2=true then(idx y19.Threads y18.Turn).bind fun v25=>(jI v25 y20).bind fun r26=>some r26 else some false).bind fun g27=>
     (if g27=true then(vE y19.Boxes r12.2.1).bind fun r28=>some r28 else some false).bind fun g29=>
     (if g29=true then(appx 8 ([]:List Int) y18.Out).bind fun l30=>(appx 8 l30 r12.2.2.1).bind fun l31=>(xS y19.Out l31).bind fun r32=>some r32 else some false).bind fun g33=>
     (if g33=true then some (ieq y19.Turn r13.1) else some false).bind fun g34=>
     (if g34=true then some (ieq y19.Idle r13.2.1) else some false).bind fun g35=>
     some g35
    |.inr r0=>
     some r0

def oI (r1:Int×gL6Rd)(s:Int×gL6Rd×(List (List gQuad))):Option (Flow (Int×gL6Rd×(List (List gQuad))) (gL6Rd×(List (List gQuad)))):=
 match s with
 |(s2,s3,s4)=>
 if ilt s2 (iadd .i64 1 r1.1)=true then
  (qP s3).bind fun r7=>
  (appx 24 s4 ([r7.1]:List (List gQuad))).bind fun l8=>
  some (.next (iadd .i64 s2 1,r7.2,l8))
 else
  some (.done (s3,s4))

def cD (p0:gL6Rd):Option ((List (List gQuad))×gL6Rd):=
 (zI p0 3).bind fun r1=>
 (loopM (oI r1) (0,r1.2,([]:List (List gQuad)))).bind fun e1=>
 match e1 with
 |(y5,y6)=>
  some (y6,y5)

end
end Go.Abs
