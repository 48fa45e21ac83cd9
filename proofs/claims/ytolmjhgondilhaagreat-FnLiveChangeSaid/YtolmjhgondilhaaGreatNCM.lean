/- Words of the proof. -/
import Derived.Test.YtolmjhgondilhaaGreatNCR0
set_option linter.unusedSimpArgs false
set_option linter.unusedVariables false
set_option maxRecDepth 20000
set_option maxHeartbeats 4000000
namespace Go.Abs
open Go

noncomputable section
def pL (p0:List Int):Option (gL6Rd):=
 if igt (ilen p0) 2000=true then
  (cutx p0 0 2000).bind fun l1=>
  some (⟨l1,0⟩:gL6Rd)
 else
  some (⟨p0,0⟩:gL6Rd)

def zN (p0:gL6Rd)(p1:Int):Option (Int×gL6Rd):=
 (if ilt p1 1=true then some true else some (ieq (ilen p0.b) 0)).bind fun g1=>
 if g1=true then
  some (0,(⟨p0.b,iadd .i64 p0.p 1⟩:gL6Rd))
 else
  if ilt (isub .i64 (iadd .i64 p0.p 1) 1) (ilen p0.b)=true then
   (idx p0.b (isub .i64 (iadd .i64 p0.p 1) 1)).bind fun v2=>
   (remx (iconv .i64 v2) p1).bind fun v3=>
   some (v3,(⟨p0.b,iadd .i64 p0.p 1⟩:gL6Rd))
  else
   (remx (isub .i64 (iadd .i64 p0.p 1) 1) (ilen p0.b)).bind fun v4=>
   (idx p0.b v4).bind fun v5=>
   (remx (iadd .i64 (imul .i64 (isub .i64 (iadd .i64 p0.p 1) 1) 7) 3) (ilen p0.b)).bind fun v6=>
   (idx p0.b v6).bind fun v7=>
   (quox .i64 (isub .i64 (iadd .i64 p0.p 1) 1) (ilen p0.b)).bind fun v8=>
   (quox .i64 (iadd .i64 (iadd .i64 (iadd .i64 (imul .i64 (iconv .i64 v5) 131) (imul .i64 (iconv .i64 v7) 1117)) (imul .i64 (isub .i64 (iadd .i64 p0.p 1) 1) 29)) (imul .i64 v8 53)) 64).bind fun v9=>
   (remx (ixor .i64 (iadd .i64 (iadd .i64 (iadd .i64 (imul .i64 (iconv .i64 v5) 131) (imul .i64 (iconv .i64 v7) 1117)) (imul .i64 (isub .i64 (iadd .i64 p0.p 1) 1) 29)) (imul .i64 v8 53)) v9) p1).bind fun v10=>
   some (v10,(⟨p0.b,iadd .i64 p0.p 1⟩:gL6Rd))

def jK (p0:gL6Rd):Option (Int×gL6Rd):=
 (zN p0 6).bind fun r1=>
 some (r1.1,r1.2)

def qM (p0:Int):Option (Int):=
 (remx p0 4294967296).bind fun v1=>
 if igt v1 2147483647=true then
  some (isub .i64 v1 4294967296)
 else
  if ilt v1 (-2147483648)=true then
   some (iadd .i64 v1 4294967296)
  else
   some v1

def mG (p0:gL6Rd):Option (Int×gL6Rd):=
 (zN p0 6).bind fun r1=>
 if ieq r1.1 0=true then
  (zN r1.2 8).bind fun r2=>
  (idx ([-2147483648,2147483647,-1,0,1,-2147483647,65536,-65536]:List Int) r2.1).bind fun v3=>
  some (v3,r2.2)
 else
  if ieq r1.1 1=true then
   (zN r1.2 256).bind fun r4=>
   (zN r4.2 256).bind fun r5=>
   (zN r5.2 256).bind fun r6=>
   (zN r6.2 200).bind fun r7=>
   (qM (imul .i64 (iadd .i64 (iadd .i64 (imul .i64 r4.1 65536) (imul .i64 r5.1 256)) r6.1) (iadd .i64 1 r7.1))).bind fun r8=>
   some (r8,r7.2)
  else
   if ieq r1.1 2=true then
    (zN r1.2 200).bind fun r9=>
    some (isub .i64 0 r9.1,r9.2)
   else
    (zN r1.2 20).bind fun r10=>
    some (r10.1,r10.2)

def cH (p0:gL6Rd):Option (Int×gL6Rd):=
 (zN p0 12).bind fun r1=>
 some (iadd .i64 1 r1.1,r1.2)

def mB (p0:gL6Rd)(p1:Int):Option (gQuad×gL6Rd):=
 (zN p0 12).bind fun r1=>
 (if ieq r1.1 0=true then
  some (ieq r1.1 0)
 else
  some (ieq r1.1 1)).bind fun j1=>
 if j1=true then
  (jK r1.2).bind fun r3=>
  (mG r3.2).bind fun r4=>
  (zN r4.2 4).bind fun r5=>
  (idx ([0,1,2,r4.1]:List Int) r5.1).bind fun v6=>
  some ((⟨1,r3.1,0,0,v6⟩:gQuad),r5.2)
 else
  (if ieq r1.1 2=true then
   some (ieq r1.1 2)
  else
   some (ieq r1.1 3)).bind fun j2=>
  if j2=true then
   (jK r1.2).bind fun r8=>
   (jK r8.2).bind fun r9=>
   some ((⟨2,r8.1,r9.1,0,0⟩:gQuad),r9.2)
  else
   (if ieq r1.1 4=true then
    some (ieq r1.1 4)
   else
    if ieq r1.1 5=true then
     some (ieq r1.1 5)
    else
     some (ieq r1.1 6)).bind fun j3=>
   if j3=true then
    (jK r1.2).bind fun r11=>
    (jK r11.2).bind fun r12=>
    (jK r12.2).bind fun r13=>
    (cH r13.2).bind fun r14=>
    some ((⟨3,r11.1,r12.1,r13.1,r14.1⟩:gQuad),r14.2)
   else
    if ieq r1.1 7=true then
     (zN r1.2 p1).bind fun r15=>
     some ((⟨4,0,0,0,r15.1⟩:gQuad),r15.2)
    else
     if ieq r1.1 8=true then
      (jK r1.2).bind fun r16=>
      (zN r16.2 p1).bind fun r17=>
      some ((⟨5,0,r16.1,0,r17.1⟩:gQuad),r17.2)
     else
      if ieq r1.1 9=true then
       (jK r1.2).bind fun r18=>
       (zN r18.2 2).bind fun r19=>
       some ((⟨6,0,r18.1,0,r19.1⟩:gQuad),r19.2)
      else
       if ieq r1.1 10=true then
        (jK r1.2).bind fun r20=>
        (zN r20.2 2).bind fun r21=>
        some ((⟨7,r20.1,0,0,r21.1⟩:gQuad),r21.2)
       else
        (zN r1.2 4).bind fun r22=>
        if ieq r22.1 0=true then
         some ((⟨8,0,0,0,0⟩:gQuad),r22.2)
        else
         (jK r22.2).bind fun r23=>
         some ((⟨9,0,r23.1,0,0⟩:gQuad),r23.2)

def qU (r1:Int×gL6Rd)(s:Int×gL6Rd×(List gQuad)):Option (Flow (Int×gL6Rd×(List gQuad)) (gL6Rd×(List gQuad))):=
 match s with
 |(s2,s3,s4)=>
 if ilt (iadd .i64 s2 1) (iadd .i64 1 r1.1)=true then
  (mB s3 (iadd .i64 1 r1.1)).bind fun r7=>
  (appx 40 s4 ([r7.1]:List gQuad)).bind fun l8=>
  some (.next (iadd .i64 s2 1,r7.2,l8))
 else
  some (.done (s3,s4))

def vG (p0:gL6Rd):Option ((List gQuad)×gL6Rd):=
 (zN p0 14).bind fun r1=>
 (loopM (qU r1) (0,r1.2,([]:List gQuad))).bind fun e1=>
 match e1 with
 |(y5,y6)=>
  (zN y5 3).bind fun r9=>
  if ieq r9.1 0=true then
   (zN r9.2 (iadd .i64 1 r1.1)).bind fun r10=>
   (appx 40 y6 ([(⟨4,0,0,0,r10.1⟩:gQuad)]:List gQuad)).bind fun l11=>
   some (l11,r10.2)
  else
   (appx 40 y6 ([(⟨10,0,0,0,0⟩:gQuad)]:List gQuad)).bind fun l12=>
   some (l12,r9.2)

def xZ (p0:Int)(p1:Int):Option (gExpr):=
 some (⟨p0,p1,([]:List gExpr)⟩:gExpr)

def mH (p0:gL6Rd):Option (gExpr×gL6Rd):=
 (zN p0 4).bind fun r1=>
 if ieq r1.1 0=true then
  (zN r1.2 4).bind fun r2=>
  (xZ 0 r2.1).bind fun r3=>
  some (r3,r2.2)
 else
  if ieq r1.1 1=true then
   (zN r1.2 8).bind fun r4=>
   (idx ([5,31,32,100,2047,2048,65536,99999]:List Int) r4.1).bind fun v5=>
   (xZ 0 v5).bind fun r6=>
   some (r6,r4.2)
  else
   (zN r1.2 4).bind fun r7=>
   (xZ 13 r7.1).bind fun r8=>
   some (r8,r7.2)

def nZ (p0:Int)(p1:gExpr)(p2:gExpr):Option (gExpr):=
 some (⟨p0,0,([p1,p2]:List gExpr)⟩:gExpr)

def sB (Fr1:gL6Rd->Int->Option (gExpr×gL6Rd))(p0:gL6Rd)(p1:Int):Option (gExpr×gL6Rd):=
 (if ilt p1 2=true then some (true,p0) else(zN p0 3).bind fun r1=>some (ieq r1.1 0,r1.2)).bind fun g2=>
 if g2.1=true then
  (mH g2.2).bind fun r3=>
  some (r3.1,r3.2)
 else
  (cH g2.2).bind fun r4=>
  (Fr1 r4.2 (isub .i64 p1 1)).bind fun r5=>
  (Fr1 r5.2 (isub .i64 p1 1)).bind fun r6=>
  (nZ r4.1 r5.1 r6.1).bind fun r7=>
  some (r7,r6.2)

def sA:Nat->gL6Rd->Int->Option (gExpr×gL6Rd)
 |0=>fun _ _=>none
 |n+1=>sB (sA n)

def uC (p0:gL6Rd)(p1:Int):Option (gExpr×gL6Rd):=recF fun n=>(sA n) p0 p1

def gR (p0:gL6Rd):Option (gStmt×gL6Rd):=
 (zN p0 3).bind fun r1=>
 (zN r1.2 3).bind fun r2=>
 (uC r2.2 (iadd .i64 1 r2.1)).bind fun r3=>
 some ((⟨1,r1.1,0,r3.1,([]:List gStmt),([]:List gStmt)⟩:gStmt),r3.2)

def mD (p0:gL6Rd)(p1:Int):Option (gStmt×gL6Rd):=
 if ilt p1 1=true then
  (gR p0).bind fun r1=>
  some (r1.1,r1.2)
 else
  (zN p0 p1).bind fun r2=>
  (zN r2.2 2).bind fun r3=>
  if ieq r3.1 0=true then
   (zN r3.2 3).bind fun r4=>
   (uC r4.2 (iadd .i64 1 r4.1)).bind fun r5=>
   some ((⟨4,0,r2.1,r5.1,([]:List gStmt),([]:List gStmt)⟩:gStmt),r5.2)
  else
   (zN r3.2 3).bind fun r6=>
   some ((⟨5,r6.1,r2.1,(⟨0,0,([]:List gExpr)⟩:gExpr),([]:List gStmt),([]:List gStmt)⟩:gStmt),r6.2)

def tI (p1:Int)(p2:Int)(p3:Int)(p4:Bool)(Fr4:gL6Rd->Int->Int->Bool->Option ((List gStmt)×gL6Rd))(s:Int×gL6Rd×(List gStmt)):Option (Flow (Int×gL6Rd×(List gStmt)) (gL6Rd×(List gStmt))):=
 match s with
 |(s1,s2,s3)=>
 if ilt s1 p3=true then
  (Fr4 s2 p1 p2 p4).bind fun r6=>
  (appx 112 s3 r6.1).bind fun l7=>
  some (.next (iadd .i64 s1 1,r6.2,l7))
 else
  some (.done (s2,s3))

def uB (Fr2:gL6Rd->Int->Int->Int->Bool->Option ((List gStmt)×gL6Rd))(Fr3:gL6Rd->Int->Int->Bool->Option (gStmt×gL6Rd))(Fr5:gL6Rd->Int->Int->Int->Bool->Option ((List gStmt)×gL6Rd))(Fr6:gL6Rd->Int->Int->Option ((List gStmt)×gL6Rd))(Fr4:gL6Rd->Int->Int->Bool->Option ((List gStmt)×gL6Rd))(p0:gL6Rd)(p1:Int)(p2:Int)(p3:Int)(p4:Bool):Option ((List gStmt)×gL6Rd):=
 (loopM (tI p1 p2 p3 p4 Fr4) (0,p0,([]:List gStmt))).bind fun e1=>
 match e1 with
 |(y4,y5)=>
  some (y5,y4)

def mE (Fr2:gL6Rd->Int->Int->Int->Bool->Option ((List gStmt)×gL6Rd))(Fr3:gL6Rd->Int->Int->Bool->Option (gStmt×gL6Rd))(Fr5:gL6Rd->Int->Int->Int->Bool->Option ((List gStmt)×gL6Rd))(Fr6:gL6Rd->Int->Int->Option ((List gStmt)×gL6Rd))(Fr4:gL6Rd->Int->Int->Bool->Option ((List gStmt)×gL6Rd))(p0:gL6Rd)(p1:Int)(p2:Int)(p3:Bool):Option (gStmt×gL6Rd):=
 (zN p0 2).bind fun r1=>
 (uC r1.2 (iadd .i64 1 r1.1)).bind fun r2=>
 (zN r2.2 3).bind fun r3=>
 (Fr2 r3.2 p1 (isub .i64 p2 1) r3.1 p3).bind fun r4=>
 (zN r4.2 3).bind fun r5=>
 (Fr2 r5.2 p1 (isub .i64 p2 1) r5.1 p3).bind fun r6=>
 some ((⟨2,0,0,r2.1,r4.1,r6.1⟩:gStmt),r6.2)

def mF (p1:Int)(p2:Int)(p3:Int)(p4:Bool)(Fr4:gL6Rd->Int->Int->Bool->Option ((List gStmt)×gL6Rd))(s:Int×gL6Rd×(List gStmt)):Option (Flow (Int×gL6Rd×(List gStmt)) (gL6Rd×(List gStmt))):=
 match s with
 |(s1,s2,s3)=>
 if ilt s1 p3=true then
  (Fr4 s2 p1 p2 p4).bind fun r6=>
  (appx 112 s3 r6.1).bind fun l7=>
  some (.next (iadd .i64 s1 1,r6.2,l7))
 else
  some (.done (s2,s3))

def xG (Fr2:gL6Rd->Int->Int->Int->Bool->Option ((List gStmt)×gL6Rd))(Fr3:gL6Rd->Int->Int->Bool->Option (gStmt×gL6Rd))(Fr5:gL6Rd->Int->Int->Int->Bool->Option ((List gStmt)×gL6Rd))(Fr6:gL6Rd->Int->Int->Option ((List gStmt)×gL6Rd))(Fr4:gL6Rd->Int->Int->Bool->Option ((List gStmt)×gL6Rd))(p0:gL6Rd)(p1:Int)(p2:Int)(p3:Int)(p4:Bool):Option ((List gStmt)×gL6Rd):=
 (loopM (mF p1 p2 p3 p4 Fr4) (0,p0,([]:List gStmt))).bind fun e1=>
 match e1 with
 |(y4,y5)=>
  some (y5,y4)

def tZ (Fr2:gL6Rd->Int->Int->Int->Bool->Option ((List gStmt)×gL6Rd))(Fr3:gL6Rd->Int->Int->Bool->Option (gStmt×gL6Rd))(Fr5:gL6Rd->Int->Int->Int->Bool->Option ((List gStmt)×gL6Rd))(Fr6:gL6Rd->Int->Int->Option ((List gStmt)×gL6Rd))(Fr4:gL6Rd->Int->Int->Bool->Option ((List gStmt)×gL6Rd))(p0:gL6Rd)(p1:Int)(p2:Int):Option ((List gStmt)×gL6Rd):=
 (zN p0 3).bind fun r1=>
 (Fr5 r1.2 p1 (isub .i64 p2 1) r1.1 false).bind fun r2=>
 (xZ 13 3).bind fun r3=>
 (xZ 0 1).bind fun r4=>
 (nZ 8 r3 r4).bind fun r5=>
 (zN r2.2 3).bind fun r6=>
 (xZ 0 (iadd .i64 1 r6.1)).bind fun r7=>
 (nZ 5 r3 r7).bind fun r8=>
 (appx 112 r2.1 ([(⟨1,3,0,r5,([]:List gStmt),([]:List gStmt)⟩:gStmt)]:List gStmt)).bind fun l9=>
 (xZ 0 0).bind fun r12=>
 some (([(⟨1,3,0,r12,([]:List gStmt),([]:List gStmt)⟩:gStmt),(⟨3,0,0,r8,l9,([]:List gStmt)⟩:gStmt)]:List gStmt),r6.2)

def tY (Fr2:gL6Rd->Int->Int->Int->Bool->Option ((List gStmt)×gL6Rd))(Fr3:gL6Rd->Int->Int->Bool->Option (gStmt×gL6Rd))(Fr5:gL6Rd->Int->Int->Int->Bool->Option ((List gStmt)×gL6Rd))(Fr6:gL6Rd->Int->Int->Option ((List gStmt)×gL6Rd))(Fr4:gL6Rd->Int->Int->Bool->Option ((List gStmt)×gL6Rd))(p0:gL6Rd)(p1:Int)(p2:Int)(p3:Bool):Option ((List gStmt)×gL6Rd):=
 ((zN p0 10).bind fun r4=>
 (if ieq r4.1 0=true then
  some (ieq r4.1 0)
 else
  some (ieq r4.1 1)).bind fun j2=>
 if j2=true then
  (gR r4.2).bind fun r6=>
  (some (([r6.1]:List gStmt),r6.2)).bind fun z=>some (Flow.done z)
 else
  if ieq r4.1 2=true then
   if igt p2 0=true then
    (Fr3 r4.2 p1 p2 p3).bind fun r7=>
    (some (([r7.1]:List gStmt),r7.2)).bind fun z=>some (Flow.done z)
   else
    some (Flow.next r4.2)
  else
   if ieq r4.1 3=true then
    (if igt p2 0=true then some p3 else some false).bind fun g8=>
    if g8=true then
     (Fr6 r4.2 p1 p2).bind fun r9=>
     (some (r9.1,r9.2)).bind fun z=>some (Flow.done z)
    else
     some (Flow.next r4.2)
   else
    (if ieq r4.1 4=true then
     some (ieq r4.1 4)
    else
     if ieq r4.1 5=true then
      some (ieq r4.1 5)
     else
      some (ieq r4.1 6)).bind fun j3=>
    if j3=true then
     (mD r4.2 p1).bind fun r11=>
     (some (([r11.1]:List gStmt),r11.2)).bind fun z=>some (Flow.done z)
    else
     if ieq r4.1 7=true then
      (some (([(⟨6,0,0,(⟨0,0,([]:List gExpr)⟩:gExpr),([]:List gStmt),([]:List gStmt)⟩:gStmt)]:List gStmt),r4.2)).bind fun z=>some (Flow.done z)
     else
      some (Flow.next r4.2)).bind fun flj1=>
 match flj1 with
 |.next j1=>
  (zN j1 3).bind fun r2=>
  (uC r2.2 (iadd .i64 1 r2.1)).bind fun r3=>
  some (([(⟨7,0,0,r3.1,([]:List gStmt),([]:List gStmt)⟩:gStmt)]:List gStmt),r3.2)
 |.done z=>some z

def zG:Nat->(gL6Rd->Int->Int->Int->Bool->Option ((List gStmt)×gL6Rd))×(gL6Rd->Int->Int->Bool->Option (gStmt×gL6Rd))×(gL6Rd->Int->Int->Int->Bool->Option ((List gStmt)×gL6Rd))×(gL6Rd->Int->Int->Option ((List gStmt)×gL6Rd))×(gL6Rd->Int->Int->Bool->Option ((List gStmt)×gL6Rd))
 |0=>(fun _ _ _ _ _=>none,fun _ _ _ _=>none,fun _ _ _ _ _=>none,fun _ _ _=>none,fun _ _ _ _=>none)
 |n+1=>(uB ((zG n).1) ((zG n).2.1) ((zG n).2.2.1) ((zG n).2.2.2.1) ((zG n).2.2.2.2),mE ((zG n).1) ((zG n).2.1) ((zG n).2.2.1) ((zG n).2.2.2.1) ((zG n).2.2.2.2),xG ((zG n).1) ((zG n).2.1) ((zG n).2.2.1) ((zG n).2.2.2.1) ((zG n).2.2.2.2),tZ ((zG n).1) ((zG n).2.1) ((zG n).2.2.1) ((zG n).2.2.2.1) ((zG n).2.2.2.2),tY ((zG n).1) ((zG n).2.1) ((zG n).2.2.1) ((zG n).2.2.2.1) ((zG n).2.2.2.2))

def cG (p0:gL6Rd)(p1:Int)(p2:Int)(p3:Int)(p4:Bool):Option ((List gStmt)×gL6Rd):=recF fun n=>(zG n).1 p0 p1 p2 p3 p4

def tJ (p0:List gStmt)(Fr7:(List gStmt)->Option (Int))(s:Int×Int):Option (Flow (Int×Int) (Int)):=
 match s with
 |(s1,s2)=>
 if ilt s2 (ilen p0)=true then
  (idx p0 s2).bind fun v4=>
  (Fr7 v4.Body).bind fun r5=>
  (Fr7 v4.Else).bind fun r6=>
  some (.next (iadd .i64 (iadd .i64 (iadd .i64 s1 1) r5) r6,iadd .i64 s2 1))
 else
  some (.done s1)

def jO (Fr7:(List gStmt)->Option (Int))(p0:List gStmt):Option (Int):=
 (loopM (tJ p0 Fr7) (0,0)).bind fun e1=>
 match e1 with
 |y3=>
  some y3

def yF:Nat->(List gStmt)->Option (Int)
 |0=>fun _=>none
 |n+1=>jO (yF n)

def jY (p0:List gStmt):Option (Int):=recF fun n=>(yF n) p0

def nX (s:(List gStmt)×gL6Rd):Option (Flow ((List gStmt)×gL6Rd) ((List gStmt)×gL6Rd)):=
 match s with
 |(s3,s4)=>
 (jY s3).bind fun r7=>
 if igt r7 16=true then
  (cutx s3 0 (isub .i64 (ilen s3) 1)).bind fun l8=>
  some (.next (l8,s4))
 else
  some (.done (s3,s4))

def pK (p0:gL6Rd)(p1:Int):Option ((List gStmt)×gL6Rd):=
 (zN p0 6).bind fun r1=>
 (cG r1.2 p1 3 (iadd .i64 1 r1.1) true).bind fun r2=>
 (loopM (nX) (r2.1,r2.2)).bind fun e1=>
 match e1 with
 |(y5,y6)=>
  some (y5,y6)

def yJ (p0:Int)(p1:Int)(p2:Int):Option (Bool):=
 (if ige p0 p1=true then some (ile p0 p2) else some false).bind fun g1=>
 some g1

def yX (p0:gStmt)(p1:Bool):Option (Bool):=
 if p1=true then
  (yJ p0.Var 0 3).bind fun r1=>
  some r1
 else
  some (ieq p0.Var 0)

def yY (p0:gStmt)(p1:Bool):Option (Bool):=
 if p1=true then
  (yJ p0.Box 0 2).bind fun r1=>
  some r1
 else
  some (ieq p0.Box 0)

def wO (p0:Int):Option (Bool):=
 (yJ p0 1 12).bind fun r1=>
 some r1

def dC (Fr8:gExpr->Int->Option (Bool))(p0:gExpr)(p1:Int):Option (Bool):=
 if ilt p1 1=true then
  some false
 else
  if ieq p0.Op 0=true then
   (yJ p0.N 0 99999).bind fun r1=>
   (if r1=true then some (ieq (ilen p0.Args) 0) else some false).bind fun g2=>
   some g2
  else
   if ieq p0.Op 13=true then
    (yJ p0.N 0 3).bind fun r3=>
    (if r3=true then some (ieq (ilen p0.Args) 0) else some false).bind fun g4=>
    some g4
   else
    (wO p0.Op).bind fun r5=>
    (if r5=true then some (ieq p0.N 0) else some false).bind fun g6=>
    (if g6=true then some (ieq (ilen p0.Args) 2) else some false).bind fun g7=>
    (if g7=true then(idx p0.Args 0).bind fun v8=>(Fr8 v8 (isub .i64 p1 1)).bind fun r9=>some r9 else some false).bind fun g10=>
    (if g10=true then(idx p0.Args 1).bind fun v11=>(Fr8 v11 (isub .i64 p1 1)).bind fun r12=>some r12 else some false).bind fun g13=>
    some g13

def gS:Nat->gExpr->Int->Option (Bool)
 |0=>fun _ _=>none
 |n+1=>dC (gS n)

def s_l4Ok (p0:gExpr)(p1:Int):Option (Bool):=recF fun n=>(gS n) p0 p1

def jP (p0:gExpr):Option (Bool):=
 (s_l4Ok p0 5).bind fun r1=>
 some r1

def jX (p0:gExpr):Option (Bool):=
 (if ieq p0.Op 0=true then some (ieq p0.N 0) else some false).bind fun g1=>
 (if g1=true then some (ieq (ilen p0.Args) 0) else some false).bind fun g2=>
 some g2

def jN (p0:gStmt):Option (Bool):=
 (if igt (ilen p0.Body) 0=true then some true else some (igt (ilen p0.Else) 0)).bind fun g1=>
 if g1=true then
  some false
 else
  if ieq p0.Kind 1=true then
   (yX p0 true).bind fun r2=>
   (if r2=true then(yY p0 false).bind fun r3=>some r3 else some false).bind fun g4=>
   (if g4=true then(jP p0.Expr).bind fun r5=>some r5 else some false).bind fun g6=>
   some g6
  else
   if ieq p0.Kind 4=true then
    (yX p0 false).bind fun r7=>
    (if r7=true then(yY p0 true).bind fun r8=>some r8 else some false).bind fun g9=>
    (if g9=true then(jP p0.Expr).bind fun r10=>some r10 else some false).bind fun g11=>
    some g11
   else
    if ieq p0.Kind 5=true then
     (yX p0 true).bind fun r12=>
     (if r12=true then(yY p0 true).bind fun r13=>some r13 else some false).bind fun g14=>
     (if g14=true then(jX p0.Expr).bind fun r15=>some r15 else some false).bind fun g16=>
     some g16
    else
     if ieq p0.Kind 6=true then
      (yX p0 false).bind fun r17=>
      (if r17=true then(yY p0 false).bind fun r18=>some r18 else some false).bind fun g19=>
      (if g19=true then(jX p0.Expr).bind fun r20=>some r20 else some false).bind fun g21=>
      some g21
     else
      if ieq p0.Kind 7=true then
       (yX p0 false).bind fun r22=>
       (if r22=true then(yY p0 false).bind fun r23=>some r23 else some false).bind fun g24=>
       (if g24=true then(jP p0.Expr).bind fun r25=>some r25 else some false).bind fun g26=>
       some g26
      else
       some false

def qZ (p0:List gStmt)(p1:Int)(Fr10:gStmt->Int->Option (Bool))(s:Int):Option (Flow (Int) (Sum (Unit) (Bool))):=
 let s1:=s
 if ilt s1 (ilen p0)=true then
  (idx p0 s1).bind fun v2=>
  (Fr10 v2 p1).bind fun r3=>
  if bnot r3=true then
   some (.done (.inr false))
  else
   some (.next (iadd .i64 s1 1))
 else
  some (.done (.inl ()))

def wM (Fr9:(List gStmt)->Int->Option (Bool))(Fr10:gStmt->Int->Option (Bool))(p0:List gStmt)(p1:Int):Option (Bool):=
 (loopM (qZ p0 p1 Fr10) 0).bind fun e1=>
 match e1 with
 |.inl _=>
  some true
 |.inr r0=>
  some r0

def mW (Fr9:(List gStmt)->Int->Option (Bool))(Fr10:gStmt->Int->Option (Bool))(p0:gStmt)(p1:Int):Option (Bool):=
 (if ine p0.Kind 2=true then some (ine p0.Kind 3) else some false).bind fun g1=>
 if g1=true then
  (jN p0).bind fun r2=>
  some r2
 else
  (if ilt p1 1=true then some true else(if ieq p0.Kind 3=true then some (igt (ilen p0.Else) 0) else some false).bind fun g3=>some g3).bind fun g4=>
  if g4=true then
   some false
  else
   (yX p0 false).bind fun r5=>
   (if r5=true then(yY p0 false).bind fun r6=>some r6 else some false).bind fun g7=>
   (if g7=true then(jP p0.Expr).bind fun r8=>some r8 else some false).bind fun g9=>
   (if g9=true then(Fr9 p0.Body (isub .i64 p1 1)).bind fun r10=>some r10 else some false).bind fun g11=>
   (if g11=true then(Fr9 p0.Else (isub .i64 p1 1)).bind fun r12=>some r12 else some false).bind fun g13=>
   some g13

def kM:Nat->((List gStmt)->Int->Option (Bool))×(gStmt->Int->Option (Bool))
 |0=>(fun _ _=>none,fun _ _=>none)
 |n+1=>(wM ((kM n).1) ((kM n).2),mW ((kM n).1) ((kM n).2))

def oK (p0:List gStmt)(p1:Int):Option (Bool):=recF fun n=>(kM n).1 p0 p1

def uL (p0:List gStmt):Option (Bool):=
 (oK p0 3).bind fun r1=>
 (if r1=true then(jY p0).bind fun r2=>some (ile r2 16) else some false).bind fun g3=>
 some g3

def sH (Fr11:gExpr->Int->Option ((List gQuad)))(Fr12:gExpr->Int->Option ((List gQuad)))(p0:gExpr)(p1:Int):Option ((List gQuad)):=
 if ieq p0.Op 0=true then
  some ([(⟨1,p1,0,0,p0.N⟩:gQuad)]:List gQuad)
 else
  if ieq p0.Op 13=true then
   some ([(⟨2,p1,p0.N,0,0⟩:gQuad)]:List gQuad)
  else
   (idx p0.Args 0).bind fun v1=>
   (idx p0.Args 1).bind fun v2=>
   (Fr12 v1 p1).bind fun r3=>
   (Fr11 v2 (iadd .i64 p1 1)).bind fun r4=>
   (appx 40 r3 r4).bind fun l5=>
   (appx 40 l5 ([(⟨3,p1,p1,iadd .i64 p1 1,p0.Op⟩:gQuad)]:List gQuad)).bind fun l6=>
   some l6

def wI (Fr11:gExpr->Int->Option ((List gQuad)))(Fr12:gExpr->Int->Option ((List gQuad)))(p0:gExpr)(p1:Int):Option ((List gQuad)):=
 if ieq p0.Op 0=true then
  (some ([(⟨1,p1,0,0,p0.N⟩:gQuad)]:List gQuad)).bind fun l1=>
  some l1
 else
  if ieq p0.Op 13=true then
   (some ([(⟨2,p1,p0.N,0,0⟩:gQuad)]:List gQuad)).bind fun l2=>
   some l2
  else
   (idx p0.Args 0).bind fun v3=>
   (idx p0.Args 1).bind fun v4=>
   (Fr12 v3 p1).bind fun r5=>
   (Fr11 v4 (iadd .i64 p1 1)).bind fun r6=>
   (appx 40 r5 r6).bind fun l7=>
   (appx 40 l7 ([(⟨3,p1,p1,iadd .i64 p1 1,p0.Op⟩:gQuad)]:List gQuad)).bind fun l8=>
   some l8

def kS:Nat->(gExpr->Int->Option ((List gQuad)))×(gExpr->Int->Option ((List gQuad)))
 |0=>(fun _ _=>none,fun _ _=>none)
 |n+1=>(sH ((kS n).1) ((kS n).2),wI ((kS n).1) ((kS n).2))

def vI (p0:gExpr)(p1:Int):Option ((List gQuad)):=recF fun n=>(kS n).2 p0 p1

def uK (p0:List gStmt)(p1:Int)(Fr16:gStmt->Int->Option ((List gQuad)))(s:Int×(List gQuad)):Option (Flow (Int×(List gQuad)) ((List gQuad))):=
 match s with
 |(s1,s2)=>
 if ilt s1 (ilen p0)=true then
  (idx p0 s1).bind fun v4=>
  (Fr16 v4 (iadd .i64 p1 (ilen s2))).bind fun r5=>
  (appx 40 s2 r5).bind fun l6=>
  some (.next (iadd .i64 s1 1,l6))
 else
  some (.done s2)

def sG (Fr13:(List gStmt)->Int->Option ((List gQuad)))(Fr14:gStmt->Int->Option ((List gQuad)))(Fr15:gStmt->Int->Option ((List gQuad)))(Fr16:gStmt->Int->Option ((List gQuad)))(p0:List gStmt)(p1:Int):Option ((List gQuad)):=
 (loopM (uK p0 p1 Fr16) (0,([]:List gQuad))).bind fun e1=>
 match e1 with
 |y3=>
  some y3

def mV (Fr13:(List gStmt)->Int->Option ((List gQuad)))(Fr14:gStmt->Int->Option ((List gQuad)))(Fr15:gStmt->Int->Option ((List gQuad)))(Fr16:gStmt->Int->Option ((List gQuad)))(p0:gStmt)(p1:Int):Option ((List gQuad)):=
 (vI p0.Expr 4).bind fun r1=>
 (Fr13 p0.Body (iadd .i64 (iadd .i64 p1 (ilen r1)) 1)).bind fun r2=>
 if ieq (ilen p0.Else) 0=true then
  (appx 40 r1 ([(⟨5,0,4,0,iadd .i64 (iadd .i64 (iadd .i64 p1 (ilen r1)) 1) (ilen r2)⟩:gQuad)]:List gQuad)).bind fun l3=>
  (appx 40 l3 r2).bind fun l4=>
  some l4
 else
  (Fr13 p0.Else (iadd .i64 (iadd .i64 (iadd .i64 (iadd .i64 p1 (ilen r1)) 1) (ilen r2)) 1)).bind fun r5=>
  (appx 40 r1 ([(⟨5,0,4,0,iadd .i64 (iadd .i64 (iadd .i64 (iadd .i64 p1 (ilen r1)) 1) (ilen r2)) 1⟩:gQuad)]:List gQuad)).bind fun l6=>
  (appx 40 l6 r2).bind fun l7=>
  (appx 40 l7 ([(⟨4,0,0,0,iadd .i64 (iadd .i64 (iadd .i64 (iadd .i64 (iadd .i64 p1 (ilen r1)) 1) (ilen r2)) 1) (ilen r5)⟩:gQuad)]:List gQuad)).bind fun l8=>
  (appx 40 l8 r5).bind fun l9=>
  some l9

def uJ (Fr13:(List gStmt)->Int->Option ((List gQuad)))(Fr14:gStmt->Int->Option ((List gQuad)))(Fr15:gStmt->Int->Option ((List gQuad)))(Fr16:gStmt->Int->Option ((List gQuad)))(p0:gStmt)(p1:Int):Option ((List gQuad)):=
 (vI p0.Expr 4).bind fun r1=>
 (Fr13 p0.Body (iadd .i64 (iadd .i64 p1 (ilen r1)) 1)).bind fun r2=>
 (appx 40 r1 ([(⟨5,0,4,0,iadd .i64 (iadd .i64 (iadd .i64 (iadd .i64 p1 (ilen r1)) 1) (ilen r2)) 1⟩:gQuad)]:List gQuad)).bind fun l3=>
 (appx 40 l3 r2).bind fun l4=>
 (appx 40 l4 ([(⟨4,0,0,0,p1⟩:gQuad)]:List gQuad)).bind fun l5=>
 some l5

def sF (Fr13:(List gStmt)->Int->Option ((List gQuad)))(Fr14:gStmt->Int->Option ((List gQuad)))(Fr15:gStmt->Int->Option ((List gQuad)))(Fr16:gStmt->Int->Option ((List gQuad)))(p0:gStmt)(p1:Int):Option ((List gQuad)):=
 (vI p0.Expr 4).bind fun r1=>
 if ieq p0.Kind 2=true then
  (Fr14 p0 p1).bind fun r2=>
  some r2
 else
  if ieq p0.Kind 3=true then
   (Fr15 p0 p1).bind fun r3=>
   some r3
  else
   if ieq p0.Kind 1=true then
    (appx 40 r1 ([(⟨2,p0.Var,4,0,0⟩:gQuad)]:List gQuad)).bind fun l4=>
    some l4
   else
    if ieq p0.Kind 4=true then
     (appx 40 r1 ([(⟨6,0,4,0,p0.Box⟩:gQuad)]:List gQuad)).bind fun l5=>
     some l5
    else
     if ieq p0.Kind 7=true then
      (appx 40 r1 ([(⟨9,0,4,0,0⟩:gQuad)]:List gQuad)).bind fun l6=>
      some l6
     else
      if ieq p0.Kind 5=true then
       some ([(⟨7,p0.Var,0,0,p0.Box⟩:gQuad)]:List gQuad)
      else
       some ([(⟨8,0,0,0,0⟩:gQuad)]:List gQuad)

def zQ:Nat->((List gStmt)->Int->Option ((List gQuad)))×(gStmt->Int->Option ((List gQuad)))×(gStmt->Int->Option ((List gQuad)))×(gStmt->Int->Option ((List gQuad)))
 |0=>(fun _ _=>none,fun _ _=>none,fun _ _=>none,fun _ _=>none)
 |n+1=>(sG ((zQ n).1) ((zQ n).2.1) ((zQ n).2.2.1) ((zQ n).2.2.2),mV ((zQ n).1) ((zQ n).2.1) ((zQ n).2.2.1) ((zQ n).2.2.2),uJ ((zQ n).1) ((zQ n).2.1) ((zQ n).2.2.1) ((zQ n).2.2.2),sF ((zQ n).1) ((zQ n).2.1) ((zQ n).2.2.1) ((zQ n).2.2.2))

def dG (p0:gStmt)(p1:Int):Option ((List gQuad)):=recF fun n=>(zQ n).2.2.2 p0 p1

def qY (p0:List gStmt)(p1:Int)(s:Int×(List gQuad)):Option (Flow (Int×(List gQuad)) ((List gQuad))):=
 match s with
 |(s1,s2)=>
 if ilt s1 (ilen p0)=true then
  (idx p0 s1).bind fun v4=>
  (dG v4 (iadd .i64 p1 (ilen s2))).bind fun r5=>
  (appx 40 s2 r5).bind fun l6=>
  some (.next (iadd .i64 s1 1,l6))
 else
  some (.done s2)

def oJ (p0:List gStmt)(p1:Int):Option ((List gQuad)):=
 (loopM (qY p0 p1) (0,([]:List gQuad))).bind fun e1=>
 match e1 with
 |y3=>
  some y3

def wQ (p0:List gStmt):Option ((List gQuad)×Bool):=
 (uL p0).bind fun r1=>
 if bnot r1=true then
  some (([]:List gQuad),false)
 else
  (oJ p0 0).bind fun r2=>
  (appx 40 r2 ([(⟨10,0,0,0,0⟩:gQuad)]:List gQuad)).bind fun l3=>
  some (l3,true)

def qL (p0:Int)(p1:Bool):Option (Bool):=
 if p1=true then
  (yJ p0 0 11).bind fun r1=>
  some r1
 else
  some (ieq p0 0)

def yM (p0:gQuad)(p1:Bool)(p2:Bool)(p3:Bool):Option (Bool):=
 (qL p0.Dst p1).bind fun r1=>
 (if r1=true then(qL p0.A p2).bind fun r2=>some r2 else some false).bind fun g3=>
 (if g3=true then(qL p0.B p3).bind fun r4=>some r4 else some false).bind fun g5=>
 some g5

def kY (p0:Int):Option (Bool):=
 (yJ p0 (-2147483648) 2147483647).bind fun r1=>
 some r1

def jA (p0:gQuad)(p1:Int):Option (Bool):=
 if ieq p0.Op 1=true then
  (yM p0 true false false).bind fun r1=>
  (if r1=true then(kY p0.N).bind fun r2=>some r2 else some false).bind fun g3=>
  some g3
 else
  if ieq p0.Op 2=true then
   (yM p0 true true false).bind fun r4=>
   (if r4=true then some (ieq p0.N 0) else some false).bind fun g5=>
   some g5
  else
   if ieq p0.Op 3=true then
    (yM p0 true true true).bind fun r6=>
    (if r6=true then(wO p0.N).bind fun r7=>some r7 else some false).bind fun g8=>
    some g8
   else
    if ieq p0.Op 4=true then
     (yM p0 false false false).bind fun r9=>
     (if r9=true then some (ige p0.N 0) else some false).bind fun g10=>
     (if g10=true then some (ilt p0.N p1) else some false).bind fun g11=>
     some g11
    else
     if ieq p0.Op 5=true then
      (yM p0 false true false).bind fun r12=>
      (if r12=true then some (ige p0.N 0) else some false).bind fun g13=>
      (if g13=true then some (ilt p0.N p1) else some false).bind fun g14=>
      some g14
     else
      if ieq p0.Op 6=true then
       (yM p0 false true false).bind fun r15=>
       (if r15=true then(yJ p0.N 0 2).bind fun r16=>some r16 else some false).bind fun g17=>
       some g17
      else
       if ieq p0.Op 7=true then
        (yM p0 true false false).bind fun r18=>
        (if r18=true then(yJ p0.N 0 2).bind fun r19=>some r19 else some false).bind fun g20=>
        some g20
       else
        if ieq p0.Op 9=true then
         (yM p0 false true false).bind fun r21=>
         (if r21=true then some (ieq p0.N 0) else some false).bind fun g22=>
         some g22
        else
         (if ieq p0.Op 8=true then
          some (ieq p0.Op 8)
         else
          some (ieq p0.Op 10)).bind fun j1=>
         if j1=true then
          (yM p0 false false false).bind fun r24=>
          (if r24=true then some (ieq p0.N 0) else some false).bind fun g25=>
          some g25
         else
          some false

def kV (p0:List gQuad)(s:Int):Option (Flow (Int) (Sum (Unit) (Bool))):=
 let s2:=s
 if ilt s2 (ilen p0)=true then
  (idx p0 s2).bind fun v3=>
  (jA v3 (ilen p0)).bind fun r4=>
  if bnot r4=true then
   some (.done (.inr false))
  else
   some (.next (iadd .i64 s2 1))
 else
  some (.done (.inl ()))

def kK (p0:List gQuad):Option (Bool):=
 (yJ (ilen p0) 1 600).bind fun r1=>
 if bnot r1=true then
  some false
 else
  (loopM (kV p0) 0).bind fun e1=>
  match e1 with
  |.inl _=>
   (idx p0 (isub .i64 (ilen p0) 1)).bind fun v5=>
   (if ieq v5.Op 10=true then some true else some (ieq v5.Op 4)).bind fun g6=>
   some g6
  |.inr r0=>
   some r0

def wG (p0:List gQuad)(p1:Int):Option ((List Int)):=
 (idx p0 p1).bind fun v1=>
 if ieq v1.Op 10=true then
  some ([]:List Int)
 else
  if ieq v1.Op 4=true then
   some ([v1.N]:List Int)
  else
   (if ieq v1.Op 5=true then some (ilt v1.N (iadd .i64 p1 1)) else some false).bind fun g2=>
   if g2=true then
    some ([v1.N,iadd .i64 p1 1]:List Int)
   else
    (if ieq v1.Op 5=true then some (igt v1.N (iadd .i64 p1 1)) else some false).bind fun g3=>
    if g3=true then
     some ([iadd .i64 p1 1,v1.N]:List Int)
    else
     some ([iadd .i64 p1 1]:List Int)

def cJ (p0:List gQuad)(p1:List gFact)(p2:Int):Option ((List Int)):=
 (idx p0 p2).bind fun v1=>
 (if ine v1.Op 5=true then some true else(idx p1 v1.A).bind fun v2=>some (ine v2.Kind 1)).bind fun g3=>
 if g3=true then
  (wG p0 p2).bind fun r4=>
  some r4
 else
  (idx p1 v1.A).bind fun v5=>
  if ieq v5.N 0=true then
   some ([v1.N]:List Int)
  else
   some ([iadd .i64 p2 1]:List Int)

def gV (p0:Bool):Option (Int):=
 if p0=true then
  some 1
 else
  some 0

def pS (p0:Int)(p1:Int)(p2:Bool):Option (Int):=
 if p2=true then
  (shrx .i64 p0 (iand .i64 p1 31)).bind fun v1=>
  some v1
 else
  (shlx .i64 p0 (iand .i64 p1 31)).bind fun v2=>
  (qM v2).bind fun r3=>
  some r3

def pU (p0:Int)(p1:Int):Option (Int):=
 if ieq p1 0=true then
  some (-1)
 else
  (quox .i64 p0 p1).bind fun v1=>
  (qM v1).bind fun r2=>
  some r2

def pT (p0:Int)(p1:Int):Option (Int):=
 if ieq p1 0=true then
  some p0
 else
  (remx p0 p1).bind fun v1=>
  some v1

def oO (p0:Int)(p1:Int)(p2:Int):Option (Int×Bool):=
 (wO p0).bind fun r1=>
 (if bnot r1=true then some true else(kY p1).bind fun r2=>some (bnot r2)).bind fun g3=>
 (if g3=true then some true else(kY p2).bind fun r4=>some (bnot r4)).bind fun g5=>
 if g5=true then
  some (0,false)
 else
  if ieq p0 1=true then
   some (ior .i64 p1 p2,true)
  else
   if ieq p0 2=true then
    some (ixor .i64 p1 p2,true)
   else
    if ieq p0 3=true then
     some (iand .i64 p1 p2,true)
    else
     if ieq p0 4=true then
      (gV (ieq p1 p2)).bind fun r6=>
      some (r6,true)
     else
      if ieq p0 5=true then
       (gV (ilt p1 p2)).bind fun r7=>
       some (r7,true)
      else
       if ieq p0 6=true then
        (pS p1 p2 false).bind fun r8=>
        some (r8,true)
       else
        if ieq p0 7=true then
         (pS p1 p2 true).bind fun r9=>
         some (r9,true)
        else
         if ieq p0 8=true then
          (qM (iadd .i64 p1 p2)).bind fun r10=>
          some (r10,true)
         else
          if ieq p0 9=true then
           (qM (isub .i64 p1 p2)).bind fun r11=>
           some (r11,true)
          else
           if ieq p0 10=true then
            (qM (imul .i64 p1 p2)).bind fun r12=>
            some (r12,true)
           else
            if ieq p0 11=true then
             (pU p1 p2).bind fun r13=>
             some (r13,true)
            else
             (pT p1 p2).bind fun r14=>
             some (r14,true)

def xQ (p0:gQuad)(p1:gFact)(p2:gFact):Option (gFact):=
 (if ine p1.Kind 1=true then some true else some (ine p2.Kind 1)).bind fun g1=>
 if g1=true then
  some (⟨2,0⟩:gFact)
 else
  (oO p0.N p1.N p2.N).bind fun r2=>
  some (⟨1,r2.1⟩:gFact)

def cK (p0:gQuad)(p1:List gFact):Option ((List gFact)):=
 (appx 16 ([]:List gFact) p1).bind fun l1=>
 if ieq p0.Op 1=true then
  (idx l1 p0.Dst).bind fun v2=>
  (setx l1 p0.Dst (⟨1,p0.N⟩:gFact)).bind fun l3=>
  some l3
 else
  if ieq p0.Op 2=true then
   (idx p1 p0.A).bind fun v4=>
   (idx l1 p0.Dst).bind fun v5=>
   (setx l1 p0.Dst v4).bind fun l6=>
   some l6
  else
   if ieq p0.Op 7=true then
    (idx l1 p0.Dst).bind fun v7=>
    (setx l1 p0.Dst (⟨2,0⟩:gFact)).bind fun l8=>
    some l8
   else
    if ieq p0.Op 3=true then
     (idx p1 p0.A).bind fun v9=>
     (idx p1 p0.B).bind fun v10=>
     (xQ p0 v9 v10).bind fun r11=>
     (idx l1 p0.Dst).bind fun v12=>
     (setx l1 p0.Dst r11).bind fun l13=>
     some l13
    else
     some l1

def mN (p0:gFact)(p1:gFact):Option (gFact):=
 if ieq p0.Kind 0=true then
  some p1
 else
  (if ieq p1.Kind 0=true then some true else some (eqD p0 p1)).bind fun g1=>
  if g1=true then
   some p0
  else
   some (⟨2,0⟩:gFact)

def oG (p1:Int)(p2:List gFact)(s:Bool×Int×(List (List gFact))):Option (Flow (Bool×Int×(List (List gFact))) (Bool×(List (List gFact)))):=
 match s with
 |(s1,s2,s3)=>
 if ilt s2 12=true then
  (idx s3 p1).bind fun v6=>
  (idx p2 s2).bind fun v7=>
  (idx v6 s2).bind fun v8=>
  (mN v8 v7).bind fun r9=>
  if bnot (eqD r9 v8)=true then
   (setx v6 s2 r9).bind fun l10=>
   (setx s3 p1 l10).bind fun l11=>
   some (.next (true,iadd .i64 s2 1,l11))
  else
   (setx s3 p1 v6).bind fun l12=>
   some (.next (s1,iadd .i64 s2 1,l12))
 else
  some (.done (s1,s3))

def pQ (p0:(List (List gFact)))(p1:Int)(p2:List gFact):Option (Bool×(List (List gFact))):=
 (loopM (oG p1 p2) (false,0,p0)).bind fun e1=>
 match e1 with
 |(y4,y5)=>
  some (y4,y5)

def fP (p0:List gQuad)(p1:Int):Option ((List Int)):=
 (idx p0 p1).bind fun v1=>
 if ieq v1.Op 10=true then
  some ([]:List Int)
 else
  if ieq v1.Op 4=true then
   (some ([v1.N]:List Int)).bind fun l2=>
   some l2
  else
   (if ieq v1.Op 5=true then some (ilt v1.N (iadd .i64 p1 1)) else some false).bind fun g3=>
   if g3=true then
    (some ([v1.N,iadd .i64 p1 1]:List Int)).bind fun l4=>
    some l4
   else
    (if ieq v1.Op 5=true then some (igt v1.N (iadd .i64 p1 1)) else some false).bind fun g5=>
    if g5=true then
     (some ([iadd .i64 p1 1,v1.N]:List Int)).bind fun l6=>
     some l6
    else
     (some ([iadd .i64 p1 1]:List Int)).bind fun l7=>
     some l7

def uF (p0:List gQuad)(p1:List gFact)(p2:Int):Option ((List Int)):=
 (idx p0 p2).bind fun v1=>
 (if ine v1.Op 5=true then some true else(idx p1 v1.A).bind fun v2=>some (ine v2.Kind 1)).bind fun g3=>
 if g3=true then
  (fP p0 p2).bind fun r4=>
  some r4
 else
  (idx p1 v1.A).bind fun v5=>
  if ieq v5.N 0=true then
   (some ([v1.N]:List Int)).bind fun l6=>
   some l6
  else
   (some ([iadd .i64 p2 1]:List Int)).bind fun l7=>
   some l7

def uG (p0:gQuad)(p1:List gFact):Option ((List gFact)):=
 (appx 16 ([]:List gFact) p1).bind fun l1=>
 if ieq p0.Op 1=true then
  (idx l1 p0.Dst).bind fun v2=>
  (setx l1 p0.Dst (⟨1,p0.N⟩:gFact)).bind fun l3=>
  some l3
 else
  if ieq p0.Op 2=true then
   (idx p1 p0.A).bind fun v4=>
   (idx l1 p0.Dst).bind fun v5=>
   (setx l1 p0.Dst v4).bind fun l6=>
   some l6
  else
   if ieq p0.Op 7=true then
    (idx l1 p0.Dst).bind fun v7=>
    (setx l1 p0.Dst (⟨2,0⟩:gFact)).bind fun l8=>
    some l8
   else
    if ieq p0.Op 3=true then
     (idx p1 p0.A).bind fun v9=>
     (idx p1 p0.B).bind fun v10=>
     (xQ p0 v9 v10).bind fun r11=>
     (idx l1 p0.Dst).bind fun v12=>
     (setx l1 p0.Dst r11).bind fun l13=>
     some l13
    else
     some l1

def oD (r16:List gFact)(s:Bool×Int×(List (List gFact))×(List Int)):Option (Flow (Bool×Int×(List (List gFact))×(List Int)) (Bool×(List (List gFact)))):=
 match s with
 |(s18,s19,s20,s21)=>
 if ilt s19 (ilen s21)=true then
  (idx s21 s19).bind fun v24=>
  (pQ s20 v24 r16).bind fun r25=>
  if r25.1=true then
   some (.next (true,iadd .i64 s19 1,r25.2,s21))
  else
   some (.next (s18,iadd .i64 s19 1,r25.2,s21))
 else
  some (.done (s18,s20))

def oE (p0:List gQuad)(s:Bool×Int×(List (List gFact))):Option (Flow (Bool×Int×(List (List gFact))) (Bool×(List (List gFact)))):=
 match s with
 |(s1,s2,s3)=>
 if ilt s2 (ilen p0)=true then
  (idx s3 s2).bind fun v6=>
  (idx v6 0).bind fun v7=>
  if ieq v7.Kind 0=true then
   (setx s3 s2 v6).bind fun l8=>
   some (.next (s1,iadd .i64 s2 1,l8))
  else
   (setx s3 s2 v6).bind fun l9=>
   (idx l9 s2).bind fun v10=>
   (uF p0 v10 s2).bind fun r11=>
   (setx l9 s2 v10).bind fun l12=>
   (idx l12 s2).bind fun v14=>
   (idx p0 s2).bind fun v15=>
   (uG v15 v14).bind fun r16=>
   (setx l12 s2 v14).bind fun l17=>
   (loopM (oD r16) (s1,0,l17,r11)).bind fun e1=>
   match e1 with
   |(y22,y23)=>
    some (.next (y22,iadd .i64 s2 1,y23))
 else
  some (.done (s1,s3))

def pP (p0:List gQuad)(p1:(List (List gFact))):Option (Bool×(List (List gFact))):=
 (loopM (oE p0) (false,0,p1)).bind fun e2=>
 match e2 with
 |(y4,y5)=>
  some (y4,y5)

def uM (p0:List gQuad)(s:Int×(List (List gFact))):Option (Flow (Int×(List (List gFact))) ((List (List gFact)))):=
 match s with
 |(s2,s3)=>
 if ilt s2 (ilen p0)=true then
  (makex 16 12 (⟨0,0⟩:gFact)).bind fun l5=>
  (appx 24 s3 [l5]).bind fun l6=>
  some (.next (iadd .i64 s2 1,l6))
 else
  some (.done s3)

def mZ (s:Int×(List (List gFact))):Option (Flow (Int×(List (List gFact))) ((List (List gFact)))):=
 match s with
 |(s7,s8)=>
 if ilt s7 12=true then
  (idx s8 0).bind fun v10=>
  (idx v10 s7).bind fun v11=>
  (setx v10 s7 (⟨1,0⟩:gFact)).bind fun l12=>
  (setx s8 0 l12).bind fun l13=>
  some (.next (iadd .i64 s7 1,l13))
 else
  some (.done s8)

def mY (p0:List gQuad)(s:(List (List gFact))):Option (Flow ((List (List gFact))) ((List (List gFact)))):=
 let s14:=s
 (pP p0 s14).bind fun r16=>
 if r16.1=true then
  some (.next r16.2)
 else
  some (.done r16.2)

def hG (p0:List gQuad):Option ((List (List gFact))):=
 (kK p0).bind fun r1=>
 if bnot r1=true then
  some ([]:List (List gFact))
 else
  (loopM (uM p0) (0,([]:List (List gFact)))).bind fun e1=>
  match e1 with
  |y4=>
   (loopM (mZ) (0,y4)).bind fun e2=>
   match e2 with
   |y9=>
    (loopM (mY p0) y9).bind fun e3=>
    match e3 with
    |y15=>
     some y15

def oF (p0:gFact)(p1:Int):Option (Bool):=
 (if ieq p0.Kind 1=true then some (ieq p0.N p1) else some false).bind fun g1=>
 some g1

def fQ (p0:List Int)(p1:Int)(s:Int):Option (Flow (Int) (Sum (Unit) (Bool))):=
 let s1:=s
 if ilt s1 (ilen p0)=true then
  (idx p0 s1).bind fun v2=>
  if ieq v2 p1=true then
   some (.done (.inr true))
  else
   some (.next (iadd .i64 s1 1))
 else
  some (.done (.inl ()))

def gT (p0:List Int)(p1:Int):Option (Bool):=
 (loopM (fQ p0 p1) 0).bind fun e1=>
 match e1 with
 |.inl _=>
  some false
 |.inr r0=>
  some r0

def oH (p0:Int)(p1:List Int):Option (Bool):=
 (gT p1 p0).bind fun r1=>
 some r1

def dF (p0:gQuad)(p1:gFact)(p2:gFact):Option (gQuad):=
 (xQ p0 p1 p2).bind fun r1=>
 if ieq r1.Kind 1=true then
  some (⟨1,p0.Dst,0,0,r1.N⟩:gQuad)
 else
  (oF p2 0).bind fun r2=>
  (if r2=true then(oH p0.N ([1,2,6,7,8,9]:List Int)).bind fun r3=>some r3 else some false).bind fun g4=>
  if g4=true then
   some (⟨2,p0.Dst,p0.A,0,0⟩:gQuad)
  else
   (oF p2 1).bind fun r5=>
   (if r5=true then(oH p0.N ([10,11]:List Int)).bind fun r6=>some r6 else some false).bind fun g7=>
   if g7=true then
    some (⟨2,p0.Dst,p0.A,0,0⟩:gQuad)
   else
    (oF p1 0).bind fun r8=>
    (if r8=true then(oH p0.N ([1,2,8]:List Int)).bind fun r9=>some r9 else some false).bind fun g10=>
    if g10=true then
     some (⟨2,p0.Dst,p0.B,0,0⟩:gQuad)
    else
     (oF p1 1).bind fun r11=>
     (if r11=true then some (ieq p0.N 10) else some false).bind fun g12=>
     if g12=true then
      some (⟨2,p0.Dst,p0.B,0,0⟩:gQuad)
     else
      (if r8=true then some true else some r2).bind fun g13=>
      (if g13=true then(oH p0.N ([3,10]:List Int)).bind fun r14=>some r14 else some false).bind fun g15=>
      if g15=true then
       some (⟨1,p0.Dst,0,0,0⟩:gQuad)
      else
       some p0

def mO (p0:gQuad)(p1:List gFact)(p2:Int):Option (gQuad):=
 (idx p1 0).bind fun v1=>
 if ieq v1.Kind 0=true then
  some p0
 else
  if ieq p0.Op 2=true then
   (idx p1 p0.A).bind fun v2=>
   if ieq v2.Kind 1=true then
    some (⟨1,p0.Dst,0,0,v2.N⟩:gQuad)
   else
    some p0
  else
   if ieq p0.Op 3=true then
    (idx p1 p0.A).bind fun v3=>
    (idx p1 p0.B).bind fun v4=>
    (dF p0 v3 v4).bind fun r5=>
    some r5
   else
    if ieq p0.Op 5=true then
     (idx p1 p0.A).bind fun v6=>
     (oF v6 0).bind fun r7=>
     if r7=true then
      some (⟨4,0,0,0,p0.N⟩:gQuad)
     else
      if ieq v6.Kind 1=true then
       some (⟨4,0,0,0,iadd .i64 p2 1⟩:gQuad)
      else
       some p0
    else
     some p0

def tL (p0:List gQuad)(r2:(List (List gFact)))(s:Int×(List gQuad)):Option (Flow (Int×(List gQuad)) ((List gQuad))):=
 match s with
 |(s3,s4)=>
 if ilt s3 (ilen p0)=true then
  (idx p0 s3).bind fun v6=>
  (idx r2 s3).bind fun v7=>
  (mO v6 v7 s3).bind fun r8=>
  (appx 40 s4 ([r8]:List gQuad)).bind fun l9=>
  some (.next (iadd .i64 s3 1,l9))
 else
  some (.done s4)

def nA (p0:List gQuad):Option ((List gQuad)×Bool):=
 (kK p0).bind fun r1=>
 if bnot r1=true then
  some (([]:List gQuad),false)
 else
  (hG p0).bind fun r2=>
  (loopM (tL p0 r2) (0,([]:List gQuad))).bind fun e1=>
  match e1 with
  |y5=>
   some (y5,true)

def mL (s:Int×(List Int)):Option (Flow (Int×(List Int)) ((List Int))):=
 match s with
 |(s1,s2)=>
 if ilt s1 12=true then
  (appx 8 s2 ([s1]:List Int)).bind fun l4=>
  some (.next (iadd .i64 s1 1,l4))
 else
  some (.done s2)

def s_l34Self:Option ((List Int)):=
 (loopM (mL) (0,([]:List Int))).bind fun e1=>
 match e1 with
 |y3=>
  some y3

def xV (p0:gQuad):Option (Int):=
 (jA p0 600).bind fun r1=>
 if bnot r1=true then
  some (-1)
 else
  (if ieq p0.Op 1=true then
   some (ieq p0.Op 1)
  else
   if ieq p0.Op 2=true then
    some (ieq p0.Op 2)
   else
    if ieq p0.Op 3=true then
     some (ieq p0.Op 3)
    else
     some (ieq p0.Op 7)).bind fun j1=>
  if j1=true then
   some p0.Dst
  else
   some (-1)

def dE (r2:Int)(s:Int×(List Int)):Option (Flow (Int×(List Int)) ((List Int))):=
 match s with
 |(s3,s4)=>
 if ilt s3 12=true then
  (idx s4 s3).bind fun v6=>
  if ieq v6 r2=true then
   (setx s4 s3 s3).bind fun l7=>
   some (.next (iadd .i64 s3 1,l7))
  else
   some (.next (iadd .i64 s3 1,s4))
 else
  some (.done s4)

def cI (p0:gQuad)(p1:List Int):Option ((List Int)):=
 (appx 8 ([]:List Int) p1).bind fun l1=>
 (xV p0).bind fun r2=>
 if ilt r2 0=true then
  some l1
 else
  (loopM (dE r2) (0,l1)).bind fun e1=>
  match e1 with
  |y5=>
   (idx y5 r2).bind fun v8=>
   (setx y5 r2 r2).bind fun l9=>
   if ieq p0.Op 2=true then
    (idx l9 r2).bind fun v10=>
    (setx l9 r2 p0.A).bind fun l11=>
    some l11
   else
    some l9

def oC (p1:Int)(p2:List Int)(s:Bool×Int×(List (List Int))):Option (Flow (Bool×Int×(List (List Int))) (Bool×(List (List Int)))):=
 match s with
 |(s5,s6,s7)=>
 if ilt s6 12=true then
  (idx s7 p1).bind fun v10=>
  (idx v10 s6).bind fun v11=>
  (if ine v11 s6=true then(idx p2 s6).bind fun v12=>some (ine v11 v12) else some false).bind fun g13=>
  if g13=true then
   (setx v10 s6 s6).bind fun l14=>
   (setx s7 p1 l14).bind fun l15=>
   some (.next (true,iadd .i64 s6 1,l15))
  else
   (setx s7 p1 v10).bind fun l16=>
   some (.next (s5,iadd .i64 s6 1,l16))
 else
  some (.done (s5,s7))

def pO (p0:(List (List Int)))(p1:Int)(p2:List Int):Option (Bool×(List (List Int))):=
 (idx p0 p1).bind fun v1=>
 if ieq (ilen v1) 0=true then
  (appx 8 ([]:List Int) p2).bind fun l2=>
  (setx p0 p1 l2).bind fun l3=>
  some (true,l3)
 else
  (setx p0 p1 v1).bind fun l4=>
  (loopM (oC p1 p2) (false,0,l4)).bind fun e1=>
  match e1 with
  |(y8,y9)=>
   some (y8,y9)

def mM (r2:Int)(s:Int×(List Int)):Option (Flow (Int×(List Int)) ((List Int))):=
 match s with
 |(s3,s4)=>
 if ilt s3 12=true then
  (idx s4 s3).bind fun v6=>
  if ieq v6 r2=true then
   (setx s4 s3 s3).bind fun l7=>
   some (.next (iadd .i64 s3 1,l7))
  else
   some (.next (iadd .i64 s3 1,s4))
 else
  some (.done s4)

def uE (p0:gQuad)(p1:List Int):Option ((List Int)):=
 (appx 8 ([]:List Int) p1).bind fun l1=>
 (xV p0).bind fun r2=>
 if ilt r2 0=true then
  some l1
 else
  (loopM (mM r2) (0,l1)).bind fun e1=>
  match e1 with
  |y5=>
   (idx y5 r2).bind fun v8=>
   (setx y5 r2 r2).bind fun l9=>
   if ieq p0.Op 2=true then
    (idx l9 r2).bind fun v10=>
    (setx l9 r2 p0.A).bind fun l11=>
    some l11
   else
    some l9

def oA (r9:List Int)(r13:List Int)(s:Bool×Int×(List (List Int))):Option (Flow (Bool×Int×(List (List Int))) (Bool×(List (List Int)))):=
 match s with
 |(s15,s16,s17)=>
 if ilt s16 (ilen r9)=true then
  (idx r9 s16).bind fun v20=>
  (pO s17 v20 r13).bind fun r21=>
  if r21.1=true then
   some (.next (true,iadd .i64 s16 1,r21.2))
  else
   some (.next (s15,iadd .i64 s16 1,r21.2))
 else
  some (.done (s15,s17))

def oB (p0:List gQuad)(s:Bool×Int×(List (List Int))):Option (Flow (Bool×Int×(List (List Int))) (Bool×(List (List Int)))):=
 match s with
 |(s1,s2,s3)=>
 if ilt s2 (ilen p0)=true then
  (idx s3 s2).bind fun v6=>
  if ieq (ilen v6) 0=true then
   (setx s3 s2 v6).bind fun l7=>
   some (.next (s1,iadd .i64 s2 1,l7))
  else
   (setx s3 s2 v6).bind fun l8=>
   (wG p0 s2).bind fun r9=>
   (idx l8 s2).bind fun v11=>
   (idx p0 s2).bind fun v12=>
   (uE v12 v11).bind fun r13=>
   (setx l8 s2 v11).bind fun l14=>
   (loopM (oA r9 r13) (s1,0,l14)).bind fun e1=>
   match e1 with
   |(y18,y19)=>
    some (.next (y18,iadd .i64 s2 1,y19))
 else
  some (.done (s1,s3))

def pN (p0:List gQuad)(p1:(List (List Int))):Option (Bool×(List (List Int))):=
 (loopM (oB p0) (false,0,p1)).bind fun e2=>
 match e2 with
 |(y4,y5)=>
  some (y4,y5)

def fF (s:Int×(List Int)):Option (Flow (Int×(List Int)) ((List Int))):=
 match s with
 |(s1,s2)=>
 if ilt s1 12=true then
  (appx 8 s2 ([s1]:List Int)).bind fun l4=>
  some (.next (iadd .i64 s1 1,l4))
 else
  some (.done s2)

def sE:Option ((List Int)):=
 (loopM (fF) (0,([]:List Int))).bind fun e1=>
 match e1 with
 |y3=>
  some y3

def wP (p0:List gQuad)(s:Int×(List (List Int))):Option (Flow (Int×(List (List Int))) ((List (List Int)))):=
 match s with
 |(s2,s3)=>
 if ilt s2 (ilen p0)=true then
  (appx 24 s3 [([]:List Int)]).bind fun l5=>
  some (.next (iadd .i64 s2 1,l5))
 else
  some (.done s3)

def oM (p0:List gQuad)(s:(List (List Int))):Option (Flow ((List (List Int))) ((List (List Int)))):=
 let s9:=s
 (pN p0 s9).bind fun r11=>
 if r11.1=true then
  some (.next r11.2)
 else
  some (.done r11.2)

def oL (p0:List gQuad)(s:Int×(List (List Int))):Option (Flow (Int×(List (List Int))) ((List (List Int)))):=
 match s with
 |(s12,s13)=>
 if ilt s12 (ilen p0)=true then
  (idx s13 s12).bind fun v15=>
  if ieq (ilen v15) 0=true then
   (setx s13 s12 v15).bind fun l16=>
   (sE).bind fun r17=>
   (idx l16 s12).bind fun v18=>
   (setx l16 s12 r17).bind fun l19=>
   some (.next (iadd .i64 s12 1,l19))
  else
   (setx s13 s12 v15).bind fun l20=>
   some (.next (iadd .i64 s12 1,l20))
 else
  some (.done s13)

def nD (p0:List gQuad):Option ((List (List Int))):=
 (kK p0).bind fun r1=>
 if bnot r1=true then
  some ([]:List (List Int))
 else
  (loopM (wP p0) (0,([]:List (List Int)))).bind fun e1=>
  match e1 with
  |y4=>
   (sE).bind fun r6=>
   (idx y4 0).bind fun v7=>
   (setx y4 0 r6).bind fun l8=>
   (loopM (oM p0) l8).bind fun e2=>
   match e2 with
   |y10=>
    (loopM (oL p0) (0,y10)).bind fun e3=>
    match e3 with
    |y14=>
     some y14

def dD (p0:gQuad)(p1:List Int):Option (gQuad):=
 (if ieq p0.Op 2=true then
  some (ieq p0.Op 2)
 else
  if ieq p0.Op 5=true then
   some (ieq p0.Op 5)
  else
   if ieq p0.Op 6=true then
    some (ieq p0.Op 6)
   else
    some (ieq p0.Op 9)).bind fun j1=>
 if j1=true then
  (idx p1 p0.A).bind fun v2=>
  some (⟨p0.Op,p0.Dst,v2,p0.B,p0.N⟩:gQuad)
 else
  if ieq p0.Op 3=true then
   (idx p1 p0.A).bind fun v3=>
   (idx p1 p0.B).bind fun v4=>
   some (⟨p0.Op,p0.Dst,v3,v4,p0.N⟩:gQuad)
  else
   some p0

def tN (p0:List gQuad)(r2:(List (List Int)))(s:Int×(List gQuad)):Option (Flow (Int×(List gQuad)) ((List gQuad))):=
 match s with
 |(s3,s4)=>
 if ilt s3 (ilen p0)=true then
  (idx p0 s3).bind fun v6=>
  (idx r2 s3).bind fun v7=>
  (dD v6 v7).bind fun r8=>
  (appx 40 s4 ([r8]:List gQuad)).bind fun l9=>
  some (.next (iadd .i64 s3 1,l9))
 else
  some (.done s4)

def nC (p0:List gQuad):Option ((List gQuad)×Bool):=
 (kK p0).bind fun r1=>
 if bnot r1=true then
  some (([]:List gQuad),false)
 else
  (nD p0).bind fun r2=>
  (loopM (tN p0 r2) (0,([]:List gQuad))).bind fun e1=>
  match e1 with
  |y5=>
   some (y5,true)

def qV (p0:List gQuad)(s:Int×Int):Option (Flow (Int×Int) (Sum (Unit) (Int))):=
 match s with
 |(s1,s2)=>
 if ilt s2 (ilen p0)=true then
  (idx p0 s1).bind fun v3=>
  if ine v3.Op 4=true then
   some (.done (.inr s1))
  else
   some (.next (v3.N,iadd .i64 s2 1))
 else
  some (.done (.inl ()))

def sD (p0:List gQuad)(p1:Int):Option (Int):=
 (loopM (qV p0) (p1,0)).bind fun e1=>
 match e1 with
 |.inl _=>
  some p1
 |.inr r0=>
  some r0

def tK (p0:List gQuad)(s:Int×(List gQuad)):Option (Flow (Int×(List gQuad)) ((List gQuad))):=
 match s with
 |(s2,s3)=>
 if ilt s2 (ilen p0)=true then
  (idx p0 s2).bind fun v5=>
  ((if ieq v5.Op 4=true then some true else some (ieq v5.Op 5)).bind fun g8=>
  if g8=true then
   (sD p0 v5.N).bind fun r9=>
   some (⟨v5.Op,v5.Dst,v5.A,v5.B,r9⟩:gQuad)
  else
   some v5).bind fun j1=>
  (appx 40 s3 ([j1]:List gQuad)).bind fun l7=>
  some (.next (iadd .i64 s2 1,l7))
 else
  some (.done s3)

def pZ (p0:List gQuad):Option ((List gQuad)×Bool):=
 (kK p0).bind fun r1=>
 if bnot r1=true then
  some (([]:List gQuad),false)
 else
  (loopM (tK p0) (0,([]:List gQuad))).bind fun e2=>
  match e2 with
  |y4=>
   some (y4,true)

def wE (p1:(List (List Bool)))(r2:List Int)(s3:Int)(s:Int×(List Bool)):Option (Flow (Int×(List Bool)) ((List Bool))):=
 match s with
 |(s6,s7)=>
 if ilt s6 12=true then
  (idx s7 s6).bind fun v9=>
  (if v9=true then some true else(idx r2 s3).bind fun v10=>(idx p1 v10).bind fun v11=>(idx v11 s6).bind fun v12=>some v12).bind fun g13=>
  (setx s7 s6 g13).bind fun l14=>
  some (.next (iadd .i64 s6 1,l14))
 else
  some (.done s7)

def wF (p1:(List (List Bool)))(r2:List Int)(s:Int×(List Bool)):Option (Flow (Int×(List Bool)) ((List Bool))):=
 match s with
 |(s3,s4)=>
 if ilt s3 (ilen r2)=true then
  (loopM (wE p1 r2 s3) (0,s4)).bind fun e1=>
  match e1 with
  |y8=>
   some (.next (iadd .i64 s3 1,y8))
 else
  some (.done s4)

def tS (p0:List gQuad)(p1:(List (List Bool)))(p2:Int):Option ((List Bool)):=
 (makex 1 12 false).bind fun l1=>
 (wG p0 p2).bind fun r2=>
 (loopM (wF p1 r2) (0,l1)).bind fun e2=>
 match e2 with
 |y5=>
  some y5

def tT (p0:gQuad):Option ((List Int)):=
 (jA p0 600).bind fun r1=>
 if bnot r1=true then
  some ([]:List Int)
 else
  (if ieq p0.Op 2=true then
   some (ieq p0.Op 2)
  else
   if ieq p0.Op 5=true then
    some (ieq p0.Op 5)
   else
    if ieq p0.Op 6=true then
     some (ieq p0.Op 6)
    else
     some (ieq p0.Op 9)).bind fun j1=>
  if j1=true then
   some ([p0.A]:List Int)
  else
   if ieq p0.Op 3=true then
    if ieq p0.A p0.B=true then
     some ([p0.A]:List Int)
    else
     some ([imin p0.A p0.B,imax p0.A p0.B]:List Int)
   else
    some ([]:List Int)

def vT (r3:List Int)(s:Int×(List Bool)):Option (Flow (Int×(List Bool)) ((List Bool))):=
 match s with
 |(s4,s5)=>
 if ilt s4 (ilen r3)=true then
  (idx r3 s4).bind fun v7=>
  (idx s5 v7).bind fun v8=>
  (setx s5 v7 true).bind fun l9=>
  some (.next (iadd .i64 s4 1,l9))
 else
  some (.done s5)

def fO (p0:gQuad)(p1:List Bool):Option ((List Bool)):=
 (appx 1 ([]:List Bool) p1).bind fun l1=>
 ((xV p0).bind fun r10=>
 if ige r10 0=true then
  (idx l1 r10).bind fun v11=>
  (setx l1 r10 false).bind fun l12=>
  some l12
 else
  some l1).bind fun j1=>
 (tT p0).bind fun r3=>
 (loopM (vT r3) (0,j1)).bind fun e2=>
 match e2 with
 |y6=>
  some y6

def sZ (p0:List Bool)(p1:List Bool)(s:Int):Option (Flow (Int) (Sum (Unit) (Bool))):=
 let s1:=s
 if ilt s1 (ilen p0)=true then
  (idx p0 s1).bind fun v2=>
  (idx p1 s1).bind fun v3=>
  if bneb v2 v3=true then
   some (.done (.inr false))
  else
   some (.next (iadd .i64 s1 1))
 else
  some (.done (.inl ()))

def mP (p0:List Bool)(p1:List Bool):Option (Bool):=
 (loopM (sZ p0 p1) 0).bind fun e1=>
 match e1 with
 |.inl _=>
  some (ieq (ilen p0) (ilen p1))
 |.inr r0=>
  some r0

def mQ (p1:(List (List Bool)))(r2:List Int)(s3:Int)(s:Int×(List Bool)):Option (Flow (Int×(List Bool)) ((List Bool))):=
 match s with
 |(s6,s7)=>
 if ilt s6 12=true then
  (idx s7 s6).bind fun v9=>
  (if v9=true then some true else(idx r2 s3).bind fun v10=>(idx p1 v10).bind fun v11=>(idx v11 s6).bind fun v12=>some v12).bind fun g13=>
  (setx s7 s6 g13).bind fun l14=>
  some (.next (iadd .i64 s6 1,l14))
 else
  some (.done s7)

def mR (p1:(List (List Bool)))(r2:List Int)(s:Int×(List Bool)):Option (Flow (Int×(List Bool)) ((List Bool))):=
 match s with
 |(s3,s4)=>
 if ilt s3 (ilen r2)=true then
  (loopM (mQ p1 r2 s3) (0,s4)).bind fun e1=>
  match e1 with
  |y8=>
   some (.next (iadd .i64 s3 1,y8))
 else
  some (.done s4)

def uH (p0:List gQuad)(p1:(List (List Bool)))(p2:Int):Option ((List Bool)):=
 (makex 1 12 false).bind fun l1=>
 (wG p0 p2).bind fun r2=>
 (loopM (mR p1 r2) (0,l1)).bind fun e2=>
 match e2 with
 |y5=>
  some y5

def oU (r3:List Int)(s:Int×(List Bool)):Option (Flow (Int×(List Bool)) ((List Bool))):=
 match s with
 |(s4,s5)=>
 if ilt s4 (ilen r3)=true then
  (idx r3 s4).bind fun v7=>
  (idx s5 v7).bind fun v8=>
  (setx s5 v7 true).bind fun l9=>
  some (.next (iadd .i64 s4 1,l9))
 else
  some (.done s5)

def wD (p0:gQuad)(p1:List Bool):Option ((List Bool)):=
 (appx 1 ([]:List Bool) p1).bind fun l1=>
 ((xV p0).bind fun r10=>
 if ige r10 0=true then
  (idx l1 r10).bind fun v11=>
  (setx l1 r10 false).bind fun l12=>
  some l12
 else
  some l1).bind fun j1=>
 (tT p0).bind fun r3=>
 (loopM (oU r3) (0,j1)).bind fun e2=>
 match e2 with
 |y6=>
  some y6

def oI (p0:List gQuad)(s:Bool×Int×(List (List Bool))):Option (Flow (Bool×Int×(List (List Bool))) (Bool×(List (List Bool)))):=
 match s with
 |(s1,s2,s3)=>
 if ige s2 0=true then
  (idx p0 s2).bind fun v6=>
  (uH p0 s3 s2).bind fun r7=>
  (wD v6 r7).bind fun r8=>
  (idx s3 s2).bind fun v9=>
  (mP r8 v9).bind fun r10=>
  if bnot r10=true then
   (setx s3 s2 r8).bind fun l11=>
   some (.next (true,isub .i64 s2 1,l11))
  else
   (setx s3 s2 v9).bind fun l12=>
   some (.next (s1,isub .i64 s2 1,l12))
 else
  some (.done (s1,s3))

def pR (p0:List gQuad)(p1:(List (List Bool))):Option (Bool×(List (List Bool))):=
 (loopM (oI p0) (false,isub .i64 (ilen p0) 1,p1)).bind fun e1=>
 match e1 with
 |(y4,y5)=>
  some (y4,y5)

def sI (p0:List gQuad)(s:Int×(List (List Bool))):Option (Flow (Int×(List (List Bool))) ((List (List Bool)))):=
 match s with
 |(s2,s3)=>
 if ilt s2 (ilen p0)=true then
  (makex 1 12 false).bind fun l5=>
  (appx 24 s3 [l5]).bind fun l6=>
  some (.next (iadd .i64 s2 1,l6))
 else
  some (.done s3)

def fR (p0:List gQuad)(s:(List (List Bool))):Option (Flow ((List (List Bool))) ((List (List Bool)))):=
 let s7:=s
 (pR p0 s7).bind fun r9=>
 if r9.1=true then
  some (.next r9.2)
 else
  some (.done r9.2)

def gX (p0:List gQuad):Option ((List (List Bool))):=
 (kK p0).bind fun r1=>
 if bnot r1=true then
  some ([]:List (List Bool))
 else
  (loopM (sI p0) (0,([]:List (List Bool)))).bind fun e1=>
  match e1 with
  |y4=>
   (loopM (fR p0) y4).bind fun e2=>
   match e2 with
   |y8=>
    some y8

def mK (p0:gQuad)(p1:List Bool):Option (Bool):=
 (if ieq p0.Op 1=true then
  some (ieq p0.Op 1)
 else
  if ieq p0.Op 2=true then
   some (ieq p0.Op 2)
  else
   some (ieq p0.Op 3)).bind fun j1=>
 if j1=true then
  (idx p1 p0.Dst).bind fun v2=>
  some (bnot v2)
 else
  some false

def tM (p0:List gQuad)(r2:(List (List Bool)))(s:Int×(List gQuad)):Option (Flow (Int×(List gQuad)) ((List gQuad))):=
 match s with
 |(s3,s4)=>
 if ilt s3 (ilen p0)=true then
  (idx p0 s3).bind fun v6=>
  ((tS p0 r2 s3).bind fun r9=>
  (mK v6 r9).bind fun r10=>
  if r10=true then
   some (⟨4,0,0,0,iadd .i64 s3 1⟩:gQuad)
  else
   some v6).bind fun j1=>
  (appx 40 s4 ([j1]:List gQuad)).bind fun l8=>
  some (.next (iadd .i64 s3 1,l8))
 else
  some (.done s4)

def nB (p0:List gQuad):Option ((List gQuad)×Bool):=
 (kK p0).bind fun r1=>
 if bnot r1=true then
  some (([]:List gQuad),false)
 else
  (gX p0).bind fun r2=>
  (loopM (tM p0 r2) (0,([]:List gQuad))).bind fun e2=>
  match e2 with
  |y5=>
   some (y5,true)

def qW (r7:List Int)(s:Bool×Int×(List Bool)):Option (Flow (Bool×Int×(List Bool)) (Bool×(List Bool))):=
 match s with
 |(s8,s9,s10)=>
 if ilt s9 (ilen r7)=true then
  (idx r7 s9).bind fun v13=>
  (idx s10 v13).bind fun v14=>
  if bnot v14=true then
   (setx s10 v13 true).bind fun l15=>
   some (.next (true,iadd .i64 s9 1,l15))
  else
   some (.next (s8,iadd .i64 s9 1,s10))
 else
  some (.done (s8,s10))

def qX (p0:List gQuad)(s:Bool×Int×(List Bool)):Option (Flow (Bool×Int×(List Bool)) (Bool×(List Bool))):=
 match s with
 |(s1,s2,s3)=>
 if ilt s2 (ilen p0)=true then
  (idx s3 s2).bind fun v6=>
  if bnot v6=true then
   some (.next (s1,iadd .i64 s2 1,s3))
  else
   (wG p0 s2).bind fun r7=>
   (loopM (qW r7) (s1,0,s3)).bind fun e1=>
   match e1 with
   |(y11,y12)=>
    some (.next (y11,iadd .i64 s2 1,y12))
 else
  some (.done (s1,s3))

def vH (p0:List gQuad)(p1:List Bool):Option (Bool×(List Bool)):=
 (loopM (qX p0) (false,0,p1)).bind fun e2=>
 match e2 with
 |(y4,y5)=>
  some (y4,y5)

def fG (p0:List gQuad)(s:List Bool):Option (Flow ((List Bool)) ((List Bool))):=
 let s5:=s
 (vH p0 s5).bind fun r7=>
 if r7.1=true then
  some (.next r7.2)
 else
  some (.done r7.2)

def oN (p0:List gQuad):Option ((List Bool)):=
 (kK p0).bind fun r1=>
 if bnot r1=true then
  some ([]:List Bool)
 else
  (makex 1 (ilen p0) false).bind fun l2=>
  (idx l2 0).bind fun v3=>
  (setx l2 0 true).bind fun l4=>
  (loopM (fG p0) l4).bind fun e1=>
  match e1 with
  |y6=>
   some y6

def mJ (p0:gQuad)(p1:Int):Option (Bool):=
 (if ieq p0.Op 4=true then
  some (ieq p0.Op 4)
 else
  some (ieq p0.Op 5)).bind fun j1=>
 if j1=true then
  some (ieq p0.N (iadd .i64 p1 1))
 else
  if ieq p0.Op 2=true then
   some (ieq p0.Dst p0.A)
  else
   some false

def oV (p0:List gQuad)(s:List Bool):Option (Flow ((List Bool)) ((List Bool))):=
 let s5:=s
 (vH p0 s5).bind fun r7=>
 if r7.1=true then
  some (.next r7.2)
 else
  some (.done r7.2)

def tO (p0:List gQuad):Option ((List Bool)):=
 (kK p0).bind fun r1=>
 if bnot r1=true then
  some ([]:List Bool)
 else
  (makex 1 (ilen p0) false).bind fun l2=>
  (idx l2 0).bind fun v3=>
  (setx l2 0 true).bind fun l4=>
  (loopM (oV p0) l4).bind fun e1=>
  match e1 with
  |y6=>
   some y6

def wA (p0:List Bool)(p1:Int)(s:Int×Int):Option (Flow (Int×Int) (Int)):=
 match s with
 |(s1,s2)=>
 if ilt s2 p1=true then
  (idx p0 s2).bind fun v4=>
  if v4=true then
   some (.next (iadd .i64 s1 1,iadd .i64 s2 1))
  else
   some (.next (s1,iadd .i64 s2 1))
 else
  some (.done s1)

def pM (p0:List Bool)(p1:Int):Option (Int):=
 (loopM (wA p0 p1) (0,0)).bind fun e1=>
 match e1 with
 |y3=>
  some y3

def jF (p0:List gQuad)(s:Int×(List Bool)):Option (Flow (Int×(List Bool)) ((List Bool))):=
 match s with
 |(s3,s4)=>
 if ilt s3 (ilen p0)=true then
  (idx s4 s3).bind fun v6=>
  (if v6=true then(idx p0 s3).bind fun v7=>(mJ v7 s3).bind fun r8=>some (bnot r8) else some false).bind fun g9=>
  (setx s4 s3 g9).bind fun l10=>
  some (.next (iadd .i64 s3 1,l10))
 else
  some (.done s4)

def tA (p0:List gQuad)(s:Int×(List Bool)×(List gQuad)):Option (Flow (Int×(List Bool)×(List gQuad)) ((List gQuad))):=
 match s with
 |(s11,s12,s13)=>
 if ilt s11 (ilen p0)=true then
  (idx p0 s11).bind fun v15=>
  (idx s12 s11).bind fun v16=>
  if bnot v16=true then
   some (.next (iadd .i64 s11 1,s12,s13))
  else
   ((if ieq v15.Op 4=true then some true else some (ieq v15.Op 5)).bind fun g19=>
   if g19=true then
    (pM s12 v15.N).bind fun r20=>
    some (⟨v15.Op,v15.Dst,v15.A,v15.B,r20⟩:gQuad)
   else
    some v15).bind fun j2=>
   (appx 40 s13 ([j2]:List gQuad)).bind fun l18=>
   some (.next (iadd .i64 s11 1,s12,l18))
 else
  some (.done s13)

def wN (p0:List gQuad):Option ((List gQuad)×Bool):=
 (kK p0).bind fun r1=>
 if bnot r1=true then
  some (([]:List gQuad),false)
 else
  (tO p0).bind fun r2=>
  (loopM (jF p0) (0,r2)).bind fun e1=>
  match e1 with
  |y5=>
   (loopM (tA p0) (0,y5,([]:List gQuad))).bind fun e3=>
   match e3 with
   |y14=>
    some (y14,true)

def mI (p0:List gQuad):Option ((List gQuad)):=
 (nA p0).bind fun r1=>
 (nC r1.1).bind fun r2=>
 (pZ r2.1).bind fun r3=>
 (nB r3.1).bind fun r4=>
 (wN r4.1).bind fun r5=>
 some r5.1

def vJ (p1:Int)(s:(List gQuad)×Int):Option (Flow ((List gQuad)×Int) ((List gQuad))):=
 match s with
 |(s5,s6)=>
 if ilt s6 p1=true then
  (mI s5).bind fun r8=>
  some (.next (r8,iadd .i64 s6 1))
 else
  some (.done s5)

def xH (p0:List gQuad)(p1:Int):Option ((List gQuad)×Bool):=
 (kK p0).bind fun r1=>
 (if bnot r1=true then some true else(yJ p1 0 4).bind fun r2=>some (bnot r2)).bind fun g3=>
 if g3=true then
  some (([]:List gQuad),false)
 else
  (appx 40 ([]:List gQuad) p0).bind fun l4=>
  (loopM (vJ p1) (l4,0)).bind fun e1=>
  match e1 with
  |y7=>
   some (y7,true)

def mC (p0:gL6Rd):Option ((List gQuad)×gL6Rd):=
 (zN p0 2).bind fun r1=>
 if ieq r1.1 0=true then
  (vG r1.2).bind fun r2=>
  some (r2.1,r2.2)
 else
  (pK r1.2 2).bind fun r3=>
  (wQ r3.1).bind fun r4=>
  if igt (ilen r4.1) 40=true then
   (vG r3.2).bind fun r5=>
   some (r5.1,r5.2)
  else
   (zN r3.2 3).bind fun r6=>
   (quox .i64 r6.1 2).bind fun v7=>
   (xH r4.1 v7).bind fun r8=>
   some (r8.1,r6.2)

def tX (r1:Int×gL6Rd)(s:Int×gL6Rd×(List (List gQuad))):Option (Flow (Int×gL6Rd×(List (List gQuad))) (gL6Rd×(List (List gQuad)))):=
 match s with
 |(s2,s3,s4)=>
 if ilt s2 (iadd .i64 1 r1.1)=true then
  (mC s3).bind fun r7=>
  (appx 24 s4 ([r7.1]:List (List gQuad))).bind fun l8=>
  some (.next (iadd .i64 s2 1,r7.2,l8))
 else
  some (.done (s3,s4))

def uA (p0:gL6Rd):Option ((List (List gQuad))×gL6Rd):=
 (zN p0 3).bind fun r1=>
 (loopM (tX r1) (0,r1.2,([]:List (List gQuad)))).bind fun e1=>
 match e1 with
 |(y5,y6)=>
  some (y6,y5)

def jB (p0:List Int):Option ((List Int)×(List (List gQuad))):=
 (pL p0).bind fun r1=>
 (zN r1 2).bind fun r2=>
 (zN r2.2 4).bind fun r3=>
 (some ([iadd .i64 1 r2.1,iadd .i64 1 r3.1]:List Int)).bind fun l4=>
 (uA r3.2).bind fun r5=>
 (zN r5.2 24).bind fun r6=>
 if ieq r6.1 0=true then
  some (([]:List Int),r5.1)
 else
  if ieq r6.1 1=true then
   (idx l4 0).bind fun v7=>
   (setx l4 0 5).bind fun l8=>
   some (l8,r5.1)
  else
   if ieq r6.1 2=true then
    (appx 24 r5.1 [([]:List gQuad)]).bind fun l9=>
    some (l4,l9)
   else
    some (l4,r5.1)

def kI (p0:List gQuad):Option ((List gQuad)):=
 if false=true then
  some ([]:List gQuad)
 else
  (appx 40 ([]:List gQuad) p0).bind fun l1=>
  some l1

def xM (p0:(List (List gQuad)))(s:Int×(List (List gQuad))):Option (Flow (Int×(List (List gQuad))) ((List (List gQuad)))):=
 match s with
 |(s1,s2)=>
 if ilt s1 (ilen p0)=true then
  (idx p0 s1).bind fun v4=>
  (kI v4).bind fun r5=>
  (appx 24 s2 ([r5]:List (List gQuad))).bind fun l6=>
  some (.next (iadd .i64 s1 1,l6))
 else
  some (.done s2)

def xS (p0:(List (List gQuad))):Option ((List (List gQuad))):=
 (loopM (xM p0) (0,([]:List (List gQuad)))).bind fun e1=>
 match e1 with
 |y3=>
  some y3

def vA (p0:List Int)(s:Int×(List gBox)):Option (Flow (Int×(List gBox)) ((List gBox))):=
 match s with
 |(s1,s2)=>
 if ilt s1 (ilen p0)=true then
  (idx p0 s1).bind fun v4=>
  (appx 32 s2 ([(⟨v4,([]:List Int)⟩:gBox)]:List gBox)).bind fun l5=>
  some (.next (iadd .i64 s1 1,l5))
 else
  some (.done s2)

def nK (p0:List Int):Option ((List gBox)):=
 (loopM (vA p0) (0,([]:List gBox))).bind fun e1=>
 match e1 with
 |y3=>
  some y3

def jQ (p0:List Int)(s:Int):Option (Flow (Int) (Sum (Unit) (Bool))):=
 let s1:=s
 if ilt s1 (ilen p0)=true then
  (idx p0 s1).bind fun v2=>
  (if ilt v2 1=true then some true else some (igt v2 4)).bind fun g3=>
  if g3=true then
   some (.done (.inr false))
  else
   some (.next (iadd .i64 s1 1))
 else
  some (.done (.inl ()))

def uR (p0:List Int):Option (Bool):=
 (loopM (jQ p0) 0).bind fun e1=>
 match e1 with
 |.inl _=>
  some (ile (ilen p0) 3)
 |.inr r0=>
  some r0

def xT (p0:Int):Option (Bool):=
 (if ige p0 (-2147483648)=true then some (ile p0 2147483647) else some false).bind fun g1=>
 some g1

def vB (p0:List Int)(s:Int):Option (Flow (Int) (Sum (Unit) (Bool))):=
 let s1:=s
 if ilt s1 (ilen p0)=true then
  (idx p0 s1).bind fun v2=>
  (xT v2).bind fun r3=>
  if bnot r3=true then
   some (.done (.inr false))
  else
   some (.next (iadd .i64 s1 1))
 else
  some (.done (.inl ()))

def vO (p0:List Int):Option (Bool):=
 (loopM (vB p0) 0).bind fun e1=>
 match e1 with
 |.inl _=>
  some true
 |.inr r0=>
  some r0

def qS (p0:Int)(p1:Int)(p2:Int)(p3:List Int):Option (Bool):=
 (if ige p0 1=true then some (ile p0 3) else some false).bind fun g1=>
 (if g1=true then some (ige p1 0) else some false).bind fun g2=>
 (if g2=true then some (ilt p1 p0) else some false).bind fun g3=>
 (if g3=true then some (ige p2 0) else some false).bind fun g4=>
 (if g4=true then some (ile p2 p0) else some false).bind fun g5=>
 (if g5=true then(vO p3).bind fun r6=>some r6 else some false).bind fun g7=>
 some g7

def nP (p0:gBox):Option (Bool):=
 (if ige p0.Room 1=true then some (ile p0.Room 4) else some false).bind fun g1=>
 (if g1=true then some (ile (ilen p0.Items) p0.Room) else some false).bind fun g2=>
 (if g2=true then(vO p0.Items).bind fun r3=>some r3 else some false).bind fun g4=>
 some g4

def jR (p0:List gBox)(s:Int):Option (Flow (Int) (Sum (Unit) (Bool))):=
 let s1:=s
 if ilt s1 (ilen p0)=true then
  (idx p0 s1).bind fun v2=>
  (nP v2).bind fun r3=>
  if bnot r3=true then
   some (.done (.inr false))
  else
   some (.next (iadd .i64 s1 1))
 else
  some (.done (.inl ()))

def uU (p0:List gBox):Option (Bool):=
 (loopM (jR p0) 0).bind fun e1=>
 match e1 with
 |.inl _=>
  some (ile (ilen p0) 3)
 |.inr r0=>
  some r0

def i_isReg (p0:Int):Option (Bool):=
 (if ige p0 0=true then some (ilt p0 12) else some false).bind fun g1=>
 some g1

def dO (p0:Int):Option (Bool):=
 (if ige p0 1=true then some (ile p0 12) else some false).bind fun g1=>
 some g1

def sR (p0:gQuad)(p1:Int):Option (Bool):=
 (i_isReg p0.Dst).bind fun r1=>
 (i_isReg p0.A).bind fun r2=>
 (i_isReg p0.B).bind fun r3=>
 if ieq p0.Op 1=true then
  (if eqD p0 (⟨1,p0.Dst,0,0,p0.N⟩:gQuad)=true then some r1 else some false).bind fun g4=>
  (if g4=true then(xT p0.N).bind fun r5=>some r5 else some false).bind fun g6=>
  some g6
 else
  if ieq p0.Op 2=true then
   (if eqD p0 (⟨2,p0.Dst,p0.A,0,0⟩:gQuad)=true then some r1 else some false).bind fun g7=>
   (if g7=true then some r2 else some false).bind fun g8=>
   some g8
  else
   if ieq p0.Op 3=true then
    (if r1=true then some r2 else some false).bind fun g9=>
    (if g9=true then some r3 else some false).bind fun g10=>
    (if g10=true then(dO p0.N).bind fun r11=>some r11 else some false).bind fun g12=>
    some g12
   else
    if ieq p0.Op 4=true then
     (if eqD p0 (⟨4,0,0,0,p0.N⟩:gQuad)=true then some (ige p0.N 0) else some false).bind fun g13=>
     (if g13=true then some (ilt p0.N p1) else some false).bind fun g14=>
     some g14
    else
     if ieq p0.Op 5=true then
      (if eqD p0 (⟨5,0,p0.A,0,p0.N⟩:gQuad)=true then some r2 else some false).bind fun g15=>
      (if g15=true then some (ige p0.N 0) else some false).bind fun g16=>
      (if g16=true then some (ilt p0.N p1) else some false).bind fun g17=>
      some g17
     else
      if ieq p0.Op 6=true then
       (if eqD p0 (⟨6,0,p0.A,0,p0.N⟩:gQuad)=true then some r2 else some false).bind fun g18=>
       (if g18=true then some (ige p0.N 0) else some false).bind fun g19=>
       (if g19=true then some (ilt p0.N 3) else some false).bind fun g20=>
       some g20
      else
       if ieq p0.Op 7=true then
        (if eqD p0 (⟨7,p0.Dst,0,0,p0.N⟩:gQuad)=true then some r1 else some false).bind fun g21=>
        (if g21=true then some (ige p0.N 0) else some false).bind fun g22=>
        (if g22=true then some (ilt p0.N 3) else some false).bind fun g23=>
        some g23
       else
        if ieq p0.Op 9=true then
         (if eqD p0 (⟨9,0,p0.A,0,0⟩:gQuad)=true then some r2 else some false).bind fun g24=>
         some g24
        else
         (if ieq p0.Op 8=true then
          some (ieq p0.Op 8)
         else
          some (ieq p0.Op 10)).bind fun j1=>
         if j1=true then
          some (eqD p0 (⟨p0.Op,0,0,0,0⟩:gQuad))
         else
          some false

def vY (p0:List gQuad)(s:Int):Option (Flow (Int) (Sum (Unit) (Bool))):=
 let s2:=s
 if ilt s2 (ilen p0)=true then
  (idx p0 s2).bind fun v3=>
  (sR v3 (ilen p0)).bind fun r4=>
  if bnot r4=true then
   some (.done (.inr false))
  else
   some (.next (iadd .i64 s2 1))
 else
  some (.done (.inl ()))

def vP (p0:List gQuad):Option (Bool):=
 (if ilt (ilen p0) 1=true then some true else some (igt (ilen p0) 600)).bind fun g1=>
 if g1=true then
  some false
 else
  (loopM (vY p0) 0).bind fun e1=>
  match e1 with
  |.inl _=>
   (idx p0 (isub .i64 (ilen p0) 1)).bind fun v5=>
   (if ieq v5.Op 10=true then some true else some (ieq v5.Op 4)).bind fun g6=>
   some g6
  |.inr r0=>
   some r0

def uQ (p0:gThread)(p1:List gQuad):Option (Bool):=
 (if ieq (ilen p0.Regs) 12=true then(vO p0.Regs).bind fun r1=>some r1 else some false).bind fun g2=>
 (if g2=true then some (ige p0.Pc 0) else some false).bind fun g3=>
 (if g3=true then some (ilt p0.Pc (ilen p1)) else some false).bind fun g4=>
 some g4

def xE (p0:gThread)(p1:List gQuad):Option (Bool):=
 (vP p1).bind fun r1=>
 (if r1=true then(uQ p0 p1).bind fun r2=>some r2 else some false).bind fun g3=>
 some g3

def nM (p0:gQuad)(p1:Int):Option (Bool):=
 (if ine p0.Op 6=true then some (ine p0.Op 7) else some false).bind fun g1=>
 (if g1=true then some true else some (ilt p0.N p1)).bind fun g2=>
 some g2

def jJ (p0:gCrew)(v6:List gQuad)(s:Int):Option (Flow (Int) (Sum (Unit) (Bool))):=
 let s9:=s
 if ilt s9 (ilen v6)=true then
  (idx v6 s9).bind fun v10=>
  (nM v10 (ilen p0.Boxes)).bind fun r11=>
  if bnot r11=true then
   some (.done (.inr false))
  else
   some (.next (iadd .i64 s9 1))
 else
  some (.done (.inl ()))

def xO (p0:gCrew)(s:Int):Option (Flow (Int) (Sum (Unit) (Bool))):=
 let s5:=s
 if ilt s5 (ilen p0.Codes)=true then
  (idx p0.Codes s5).bind fun v6=>
  (idx p0.Threads s5).bind fun v7=>
  (xE v7 v6).bind fun r8=>
  if bnot r8=true then
   some (.done (.inr false))
  else
   (loopM (jJ p0 v6) 0).bind fun e1=>
   match e1 with
   |.inl _=>
    some (.next (iadd .i64 s5 1))
   |.inr r0=>
    some (.done (.inr r0))
 else
  some (.done (.inl ()))

def jS (p0:gCrew):Option (Bool):=
 (qS (ilen p0.Codes) p0.Turn p0.Idle p0.Out).bind fun r1=>
 (if bnot r1=true then some true else some (ine (ilen p0.Threads) (ilen p0.Codes))).bind fun g2=>
 (if g2=true then some true else(uU p0.Boxes).bind fun r3=>some (bnot r3)).bind fun g4=>
 if g4=true then
  some false
 else
  (loopM (xO p0) 0).bind fun e2=>
  match e2 with
  |.inl _=>
   some true
  |.inr r0=>
   some r0

def uW (p1:(List (List gQuad)))(s:Int×gCrew×gCrew):Option (Flow (Int×gCrew×gCrew) (gCrew×gCrew)):=
 match s with
 |(s3,s4,s5)=>
 if ilt s3 (ilen p1)=true then
  (makex 8 12 0).bind fun l8=>
  (appx 32 s5.Threads ([(⟨l8,0⟩:gThread)]:List gThread)).bind fun l9=>
  some (.next (iadd .i64 s3 1,s4,(⟨s5.Codes,l9,s5.Boxes,s5.Turn,s5.Idle,s5.Out⟩:gCrew)))
 else
  some (.done (s4,s5))

def vD (p0:List Int)(p1:(List (List gQuad))):Option (gCrew×Bool):=
 (xS p1).bind fun r1=>
 (nK p0).bind fun r2=>
 (loopM (uW p1) (0,(⟨([]:List (List gQuad)),([]:List gThread),([]:List gBox),0,0,([]:List Int)⟩:gCrew),(⟨r1,([]:List gThread),r2,0,0,([]:List Int)⟩:gCrew))).bind fun e1=>
 match e1 with
 |(y6,y7)=>
  (uR p0).bind fun r11=>
  (if bnot r11=true then some true else(jS y7).bind fun r12=>some (bnot r12)).bind fun g13=>
  if g13=true then
   some ((⟨([]:List (List gQuad)),([]:List gThread),([]:List gBox),0,0,([]:List Int)⟩:gCrew),false)
  else
   some (y7,true)

def wL (p0:List Int)(s:Int):Option (Flow (Int) (Sum (Unit) (Bool))):=
 let s1:=s
 if ilt s1 (ilen p0)=true then
  (idx p0 s1).bind fun v2=>
  (yJ v2 1 4).bind fun r3=>
  if bnot r3=true then
   some (.done (.inr false))
  else
   some (.next (iadd .i64 s1 1))
 else
  some (.done (.inl ()))

def pY (p0:List Int):Option (Bool):=
 (loopM (wL p0) 0).bind fun e1=>
 match e1 with
 |.inl _=>
  some (ile (ilen p0) 3)
 |.inr r0=>
  some r0

def wH (p0:(List (List gQuad)))(s:Int×(List (List gQuad))):Option (Flow (Int×(List (List gQuad))) ((List (List gQuad)))):=
 match s with
 |(s1,s2)=>
 if ilt s1 (ilen p0)=true then
  (idx p0 s1).bind fun v4=>
  (appx 40 ([]:List gQuad) v4).bind fun l5=>
  (appx 24 s2 ([l5]:List (List gQuad))).bind fun l6=>
  some (.next (iadd .i64 s1 1,l6))
 else
  some (.done s2)

def pV (p0:(List (List gQuad))):Option ((List (List gQuad))):=
 (loopM (wH p0) (0,([]:List (List gQuad)))).bind fun e1=>
 match e1 with
 |y3=>
  some y3

def wJ (p0:List Int)(s:Int×(List gBox)):Option (Flow (Int×(List gBox)) ((List gBox))):=
 match s with
 |(s1,s2)=>
 if ilt s1 (ilen p0)=true then
  (idx p0 s1).bind fun v4=>
  (appx 32 s2 ([(⟨v4,([]:List Int)⟩:gBox)]:List gBox)).bind fun l5=>
  some (.next (iadd .i64 s1 1,l5))
 else
  some (.done s2)

def pW (p0:List Int):Option ((List gBox)):=
 (loopM (wJ p0) (0,([]:List gBox))).bind fun e1=>
 match e1 with
 |y3=>
  some y3

def uD (p0:List Int)(s:Int):Option (Flow (Int) (Sum (Unit) (Bool))):=
 let s1:=s
 if ilt s1 (ilen p0)=true then
  (idx p0 s1).bind fun v2=>
  (kY v2).bind fun r3=>
  if bnot r3=true then
   some (.done (.inr false))
  else
   some (.next (iadd .i64 s1 1))
 else
  some (.done (.inl ()))

def sC (p0:List Int)(p1:Int):Option (Bool):=
 if ine (ilen p0) p1=true then
  some false
 else
  (loopM (uD p0) 0).bind fun e1=>
  match e1 with
  |.inl _=>
   some true
  |.inr r0=>
   some r0

def vK (p0:gBox):Option (Bool):=
 (yJ p0.Room 1 4).bind fun r1=>
 (if r1=true then some (ile (ilen p0.Items) p0.Room) else some false).bind fun g2=>
 (if g2=true then(sC p0.Items (ilen p0.Items)).bind fun r3=>some r3 else some false).bind fun g4=>
 some g4

def wK (p0:List gBox)(s:Int):Option (Flow (Int) (Sum (Unit) (Bool))):=
 let s1:=s
 if ilt s1 (ilen p0)=true then
  (idx p0 s1).bind fun v2=>
  (vK v2).bind fun r3=>
  if bnot r3=true then
   some (.done (.inr false))
  else
   some (.next (iadd .i64 s1 1))
 else
  some (.done (.inl ()))

def pX (p0:List gBox):Option (Bool):=
 (loopM (wK p0) 0).bind fun e1=>
 match e1 with
 |.inl _=>
  some (ile (ilen p0) 3)
 |.inr r0=>
  some r0

def mU (p0:gThread)(p1:Int):Option (Bool):=
 (sC p0.Regs 12).bind fun r1=>
 (if r1=true then(yJ p0.Pc 0 (isub .i64 p1 1)).bind fun r2=>some r2 else some false).bind fun g3=>
 some g3

def yZ (p0:gThread)(p1:List gQuad):Option (Bool):=
 (kK p1).bind fun r1=>
 (if r1=true then(mU p0 (ilen p1)).bind fun r2=>some r2 else some false).bind fun g3=>
 some g3

def mT (p0:gQuad)(p1:Int):Option (Bool):=
 (if ine p0.Op 6=true then some (ine p0.Op 7) else some false).bind fun g1=>
 (if g1=true then some true else some (ilt p0.N p1)).bind fun g2=>
 some g2

def uI (p0:List gQuad)(p1:Int)(s:Int):Option (Flow (Int) (Sum (Unit) (Bool))):=
 let s1:=s
 if ilt s1 (ilen p0)=true then
  (idx p0 s1).bind fun v2=>
  (mT v2 p1).bind fun r3=>
  if bnot r3=true then
   some (.done (.inr false))
  else
   some (.next (iadd .i64 s1 1))
 else
  some (.done (.inl ()))

def mS (p0:List gQuad)(p1:Int):Option (Bool):=
 (loopM (uI p0 p1) 0).bind fun e1=>
 match e1 with
 |.inl _=>
  some true
 |.inr r0=>
  some r0

def xI (p0:gCrew)(s:Int):Option (Flow (Int) (Sum (Unit) (Bool))):=
 let s9:=s
 if ilt s9 (ilen p0.Threads)=true then
  (idx p0.Threads s9).bind fun v10=>
  (idx p0.Codes s9).bind fun v11=>
  (yZ v10 v11).bind fun r12=>
  (if bnot r12=true then some true else(mS v11 (ilen p0.Boxes)).bind fun r13=>some (bnot r13)).bind fun g14=>
  if g14=true then
   some (.done (.inr false))
  else
   some (.next (iadd .i64 s9 1))
 else
  some (.done (.inl ()))

def sJ (p0:gCrew):Option (Bool):=
 (yJ (ilen p0.Threads) 1 3).bind fun r1=>
 (if bnot r1=true then some true else some (ine (ilen p0.Codes) (ilen p0.Threads))).bind fun g2=>
 (if g2=true then some true else(pX p0.Boxes).bind fun r3=>some (bnot r3)).bind fun g4=>
 (if g4=true then some true else(yJ p0.Turn 0 (isub .i64 (ilen p0.Threads) 1)).bind fun r5=>some (bnot r5)).bind fun g6=>
 (if g6=true then some true else(yJ p0.Idle 0 (ilen p0.Threads)).bind fun r7=>some (bnot r7)).bind fun g8=>
 if g8=true then
  some false
 else
  (loopM (xI p0) 0).bind fun e1=>
  match e1 with
  |.inl _=>
   (sC p0.Out (ilen p0.Out)).bind fun r15=>
   some r15
  |.inr r0=>
   some r0

def uN (p1:(List (List gQuad)))(s:Int×gCrew×gCrew):Option (Flow (Int×gCrew×gCrew) (gCrew×gCrew)):=
 match s with
 |(s5,s6,s7)=>
 if ilt s5 (ilen p1)=true then
  (makex 8 12 0).bind fun l10=>
  (appx 32 s7.Threads ([(⟨l10,0⟩:gThread)]:List gThread)).bind fun l11=>
  some (.next (iadd .i64 s5 1,s6,(⟨s7.Codes,l11,s7.Boxes,s7.Turn,s7.Idle,s7.Out⟩:gCrew)))
 else
  some (.done (s6,s7))

def sK (p0:List Int)(p1:(List (List gQuad))):Option (gCrew×Bool):=
 (pY p0).bind fun r1=>
 if bnot r1=true then
  some ((⟨([]:List (List gQuad)),([]:List gThread),([]:List gBox),0,0,([]:List Int)⟩:gCrew),false)
 else
  (pV p1).bind fun r2=>
  (some ([]:List gThread)).bind fun l3=>
  (pW p0).bind fun r4=>
  (loopM (uN p1) (0,(⟨([]:List (List gQuad)),([]:List gThread),([]:List gBox),0,0,([]:List Int)⟩:gCrew),(⟨r2,l3,r4,0,0,([]:List Int)⟩:gCrew))).bind fun e1=>
  match e1 with
  |(y8,y9)=>
   (sJ y9).bind fun r12=>
   if bnot r12=true then
    some ((⟨([]:List (List gQuad)),([]:List gThread),([]:List gBox),0,0,([]:List Int)⟩:gCrew),false)
   else
    some (y9,true)

def wT (p0:List gQuad)(p1:List gQuad)(s:Int):Option (Flow (Int) (Sum (Unit) (Bool))):=
 let s1:=s
 if ilt s1 (ilen p0)=true then
  (idx p0 s1).bind fun v2=>
  (idx p1 s1).bind fun v3=>
  if bnot (eqD v2 v3)=true then
   some (.done (.inr false))
  else
   some (.next (iadd .i64 s1 1))
 else
  some (.done (.inl ()))

def nH (p0:List gQuad)(p1:List gQuad):Option (Bool):=
 if ine (ilen p0) (ilen p1)=true then
  some false
 else
  (loopM (wT p0 p1) 0).bind fun e1=>
  match e1 with
  |.inl _=>
   some true
  |.inr r0=>
   some r0

def xJ (p0:(List (List gQuad)))(p1:(List (List gQuad)))(s:Int):Option (Flow (Int) (Sum (Unit) (Bool))):=
 let s1:=s
 if ilt s1 (ilen p0)=true then
  (idx p0 s1).bind fun v2=>
  (idx p1 s1).bind fun v3=>
  (nH v2 v3).bind fun r4=>
  if bnot r4=true then
   some (.done (.inr false))
  else
   some (.next (iadd .i64 s1 1))
 else
  some (.done (.inl ()))

def sM (p0:(List (List gQuad)))(p1:(List (List gQuad))):Option (Bool):=
 if ine (ilen p0) (ilen p1)=true then
  some false
 else
  (loopM (xJ p0 p1) 0).bind fun e1=>
  match e1 with
  |.inl _=>
   some true
  |.inr r0=>
   some r0

def wS (p0:List Int)(p1:List Int)(s:Int):Option (Flow (Int) (Sum (Unit) (Bool))):=
 let s1:=s
 if ilt s1 (ilen p0)=true then
  (idx p0 s1).bind fun v2=>
  (idx p1 s1).bind fun v3=>
  if ine v2 v3=true then
   some (.done (.inr false))
  else
   some (.next (iadd .i64 s1 1))
 else
  some (.done (.inl ()))

def vN (p0:List Int)(p1:List Int):Option (Bool):=
 if ine (ilen p0) (ilen p1)=true then
  some false
 else
  (loopM (wS p0 p1) 0).bind fun e1=>
  match e1 with
  |.inl _=>
   some true
  |.inr r0=>
   some r0

def uP (p0:gThread)(p1:gThread):Option (Bool):=
 (if ieq p0.Pc p1.Pc=true then(vN p0.Regs p1.Regs).bind fun r1=>some r1 else some false).bind fun g2=>
 some g2

def gB (p0:gBox)(p1:gBox):Option (Bool):=
 (if ieq p0.Room p1.Room=true then(vN p0.Items p1.Items).bind fun r1=>some r1 else some false).bind fun g2=>
 some g2

def xK (p0:List gBox)(p1:List gBox)(s:Int):Option (Flow (Int) (Sum (Unit) (Bool))):=
 let s1:=s
 if ilt s1 (ilen p0)=true then
  (idx p0 s1).bind fun v2=>
  (idx p1 s1).bind fun v3=>
  (gB v2 v3).bind fun r4=>
  if bnot r4=true then
   some (.done (.inr false))
  else
   some (.next (iadd .i64 s1 1))
 else
  some (.done (.inl ()))

def sN (p0:List gBox)(p1:List gBox):Option (Bool):=
 if ine (ilen p0) (ilen p1)=true then
  some false
 else
  (loopM (xK p0 p1) 0).bind fun e1=>
  match e1 with
  |.inl _=>
   some true
  |.inr r0=>
   some r0

def yO (p0:gCrew)(p1:gCrew)(s:Int):Option (Flow (Int) (Sum (Unit) (Bool))):=
 let s3:=s
 if ilt s3 (ilen p0.Threads)=true then
  (idx p0.Threads s3).bind fun v4=>
  (idx p1.Threads s3).bind fun v5=>
  if ine v4.Pc v5.Pc=true then
   some (.done (.inr false))
  else
   some (.next (iadd .i64 s3 1))
 else
  some (.done (.inl ()))

def xC (p0:gCrew)(p1:gCrew):Option (Bool):=
 (if ine (ilen p0.Threads) (ilen p1.Threads)=true then some true else some (ine p0.Turn p1.Turn)).bind fun g1=>
 (if g1=true then some true else some (ine p0.Idle p1.Idle)).bind fun g2=>
 if g2=true then
  some false
 else
  (loopM (yO p0 p1) 0).bind fun e1=>
  match e1 with
  |.inl _=>
   (sN p0.Boxes p1.Boxes).bind fun r6=>
   (if r6=true then(vN p0.Out p1.Out).bind fun r7=>some r7 else some false).bind fun g8=>
   some g8
  |.inr r0=>
   some r0

def yG (p0:gCrew)(p1:gCrew)(s:Int):Option (Flow (Int) (Sum (Unit) (Bool))):=
 let s1:=s
 if ilt s1 (ilen p0.Threads)=true then
  (idx p0.Threads s1).bind fun v2=>
  (idx p1.Threads s1).bind fun v3=>
  (uP v2 v3).bind fun r4=>
  if bnot r4=true then
   some (.done (.inr false))
  else
   some (.next (iadd .i64 s1 1))
 else
  some (.done (.inl ()))

def jC (p0:gCrew)(p1:gCrew):Option (Bool):=
 if ine (ilen p0.Threads) (ilen p1.Threads)=true then
  some false
 else
  (loopM (yG p0 p1) 0).bind fun e1=>
  match e1 with
  |.inl _=>
   (xC p0 p1).bind fun r5=>
   some r5
  |.inr r0=>
   some r0

def jH (p0:gCrew)(p1:gCrew):Option (Bool):=
 (sM p0.Codes p1.Codes).bind fun r1=>
 (if r1=true then(jC p0 p1).bind fun r2=>some r2 else some false).bind fun g3=>
 some g3

def yP (p0:List Int):Option ((List Int)):=
 if false=true then
  some ([]:List Int)
 else
  (appx 8 ([]:List Int) p0).bind fun l1=>
  some l1

def vX (p0:List gBox)(s:Int×(List gBox)):Option (Flow (Int×(List gBox)) ((List gBox))):=
 match s with
 |(s1,s2)=>
 if ilt s1 (ilen p0)=true then
  (idx p0 s1).bind fun v4=>
  (yP v4.Items).bind fun r5=>
  (appx 32 s2 ([(⟨v4.Room,r5⟩:gBox)]:List gBox)).bind fun l6=>
  some (.next (iadd .i64 s1 1,l6))
 else
  some (.done s2)

def fV (p0:List gBox):Option ((List gBox)):=
 (loopM (vX p0) (0,([]:List gBox))).bind fun e1=>
 match e1 with
 |y3=>
  some y3

def i_truth (p0:Bool):Option (Int):=
 if p0=true then
  some 1
 else
  some 0

def fJ (p0:Int):Option (Int):=
 some (iconv .i64 (iconv .i32 p0))

def pC (p0:Int)(p1:Int)(p2:Int):Option (Int):=
 if ieq p0 1=true then
  some (ior .i64 p1 p2)
 else
  if ieq p0 2=true then
   some (ixor .i64 p1 p2)
  else
   if ieq p0 3=true then
    some (iand .i64 p1 p2)
   else
    if ieq p0 4=true then
     (i_truth (ieq p1 p2)).bind fun r1=>
     some r1
    else
     if ieq p0 5=true then
      (i_truth (ilt p1 p2)).bind fun r2=>
      some r2
     else
      if ieq p0 6=true then
       (shlx .i64 p1 (iand .i64 p2 31)).bind fun v3=>
       (fJ v3).bind fun r4=>
       some r4
      else
       if ieq p0 7=true then
        (shrx .i64 p1 (iand .i64 p2 31)).bind fun v5=>
        some v5
       else
        if ieq p0 8=true then
         (fJ (iadd .i64 p1 p2)).bind fun r6=>
         some r6
        else
         if ieq p0 9=true then
          (fJ (isub .i64 p1 p2)).bind fun r7=>
          some r7
         else
          if ieq p0 10=true then
           (fJ (imul .i64 p1 p2)).bind fun r8=>
           some r8
          else
           if ieq p0 11=true then
            if ieq p2 0=true then
             some (-1)
            else
             (quox .i64 p1 p2).bind fun v9=>
             (fJ v9).bind fun r10=>
             some r10
           else
            if ieq p2 0=true then
             some p1
            else
             (remx p1 p2).bind fun v11=>
             some v11

def nO (p0:gBox)(p1:Int):Option (Bool×gBox):=
 if ieq (ilen p0.Items) p0.Room=true then
  some (false,p0)
 else
  (appx 8 p0.Items ([p1]:List Int)).bind fun l1=>
  some (true,(⟨p0.Room,l1⟩:gBox))

def tU (p0:gBox):Option (Int×Bool×gBox):=
 if ieq (ilen p0.Items) 0=true then
  some (0,false,p0)
 else
  (idx p0.Items 0).bind fun v1=>
  (cutx p0.Items 0 0).bind fun l2=>
  (cutx p0.Items 1 (ilen p0.Items)).bind fun l3=>
  (appx 8 l2 l3).bind fun l4=>
  some (v1,true,(⟨p0.Room,l4⟩:gBox))

def vC (p0:gThread)(p1:List gQuad)(p2:List gBox)(p3:List Int):Option (Int×gThread×(List gBox)×(List Int)):=
 (idx p1 p0.Pc).bind fun v1=>
 (if ieq v1.Op 1=true then
  (idx p0.Regs v1.Dst).bind fun v6=>
  (setx p0.Regs v1.Dst v1.N).bind fun l7=>
  some (Flow.next (iadd .i64 p0.Pc 1,(⟨l7,p0.Pc⟩:gThread),p2,p3))
 else
  if ieq v1.Op 2=true then
   (idx p0.Regs v1.A).bind fun v8=>
   (idx p0.Regs v1.Dst).bind fun v9=>
   (setx p0.Regs v1.Dst v8).bind fun l10=>
   some (Flow.next (iadd .i64 p0.Pc 1,(⟨l10,p0.Pc⟩:gThread),p2,p3))
  else
   if ieq v1.Op 3=true then
    (idx p0.Regs v1.A).bind fun v11=>
    (idx p0.Regs v1.B).bind fun v12=>
    (pC v1.N v11 v12).bind fun r13=>
    (idx p0.Regs v1.Dst).bind fun v14=>
    (setx p0.Regs v1.Dst r13).bind fun l15=>
    some (Flow.next (iadd .i64 p0.Pc 1,(⟨l15,p0.Pc⟩:gThread),p2,p3))
   else
    if ieq v1.Op 4=true then
     some (Flow.next (v1.N,p0,p2,p3))
    else
     if ieq v1.Op 5=true then
      (idx p0.Regs v1.A).bind fun v16=>
      if ieq v16 0=true then
       some (Flow.next (v1.N,p0,p2,p3))
      else
       some (Flow.next (iadd .i64 p0.Pc 1,p0,p2,p3))
     else
      if ieq v1.Op 6=true then
       (idx p2 v1.N).bind fun v18=>
       (idx p0.Regs v1.A).bind fun v19=>
       (nO v18 v19).bind fun r20=>
       (setx p2 v1.N r20.2).bind fun l21=>
       if bnot r20.1=true then
        (some (3,p0,l21,p3)).bind fun z=>some (Flow.done z)
       else
        some (Flow.next (iadd .i64 p0.Pc 1,p0,l21,p3))
      else
       if ieq v1.Op 7=true then
        (idx p2 v1.N).bind fun v22=>
        (tU v22).bind fun r23=>
        (setx p2 v1.N r23.2.2).bind fun l24=>
        if bnot r23.2.1=true then
         (some (3,p0,l24,p3)).bind fun z=>some (Flow.done z)
        else
         (idx p0.Regs v1.Dst).bind fun v25=>
         (setx p0.Regs v1.Dst r23.1).bind fun l26=>
         some (Flow.next (iadd .i64 p0.Pc 1,(⟨l26,p0.Pc⟩:gThread),l24,p3))
       else
        if ieq v1.Op 8=true then
         (some (2,(⟨p0.Regs,iadd .i64 p0.Pc 1⟩:gThread),p2,p3)).bind fun z=>some (Flow.done z)
        else
         if ieq v1.Op 9=true then
          (idx p0.Regs v1.A).bind fun v27=>
          (appx 8 p3 ([v27]:List Int)).bind fun l28=>
          some (Flow.next (iadd .i64 p0.Pc 1,p0,p2,l28))
         else
          if ieq v1.Op 10=true then
           (some (4,p0,p2,p3)).bind fun z=>some (Flow.done z)
          else
           some (Flow.next (iadd .i64 p0.Pc 1,p0,p2,p3))).bind fun flj1=>
 match flj1 with
 |.next j1=>
  some (1,(⟨j1.2.1.Regs,j1.1⟩:gThread),j1.2.2.1,j1.2.2.2)
 |.done z=>some z

def sT (p0:Int)(pf0:gCrew):Option (Int×gCrew):=
 (idx pf0.Threads p0).bind fun v3=>
 (idx pf0.Codes p0).bind fun v4=>
 (vC v3 v4 pf0.Boxes pf0.Out).bind fun r5=>
 (setx pf0.Threads p0 r5.2.1).bind fun l6=>
 some (r5.1,(⟨pf0.Codes,l6,r5.2.2.1,pf0.Turn,pf0.Idle,r5.2.2.2⟩:gCrew))

def xX (p0:Int)(p1:Int)(p2:Int)(p3:Int):Option (Int×Int×Bool):=
 (if ilt p0 1=true then some true else some (igt p0 3)).bind fun g1=>
 (if g1=true then some true else some (ilt p1 0)).bind fun g2=>
 (if g2=true then some true else some (ige p1 p0)).bind fun g3=>
 (if g3=true then some true else some (ilt p2 0)).bind fun g4=>
 (if g4=true then some true else some (ige p2 p0)).bind fun g5=>
 if g5=true then
  some (0,0,false)
 else
  if ieq p3 1=true then
   some (p1,0,true)
  else
   if ieq p3 2=true then
    (remx (iadd .i64 p1 1) p0).bind fun v6=>
    some (v6,0,true)
   else
    (if ieq p3 3=true then
     some (ieq p3 3)
    else
     some (ieq p3 4)).bind fun j1=>
    if j1=true then
     (remx (iadd .i64 p1 1) p0).bind fun v8=>
     some (v8,iadd .i64 p2 1,true)
    else
     some (0,0,false)

def kB (p0:List Int):Option ((List Int)):=
 if false=true then
  some ([]:List Int)
 else
  (appx 8 ([]:List Int) p0).bind fun l1=>
  some l1

def nL (p0:List gBox)(s:Int×(List gBox)):Option (Flow (Int×(List gBox)) ((List gBox))):=
 match s with
 |(s1,s2)=>
 if ilt s1 (ilen p0)=true then
  (idx p0 s1).bind fun v4=>
  (kB v4.Items).bind fun r5=>
  (appx 32 s2 [(⟨v4.Room,r5⟩:gBox)]).bind fun l6=>
  some (.next (iadd .i64 s1 1,l6))
 else
  some (.done s2)

def jI (p0:List gBox):Option ((List gBox)):=
 (loopM (nL p0) (0,([]:List gBox))).bind fun e1=>
 match e1 with
 |y3=>
  some y3

def kA (p1:Int)(s:Int×Int×Int×gCrew):Option (Flow (Int×Int×Int×gCrew) (Sum (Int×Int×gCrew) (Int×Int×Bool×gCrew))):=
 match s with
 |(s1,s2,s3,s4)=>
 (if igt s1 0=true then some (ilt s3 p1) else some false).bind fun g8=>
 if g8=true then
  (sT s2 s4).bind fun r9=>
  (xX p1 s2 s3 r9.1).bind fun r10=>
  if bnot r10.2.2=true then
   some (.done (.inr (0,0,false,r9.2)))
  else
   some (.next (isub .i64 s1 1,r10.1,r10.2.1,r9.2))
 else
  some (.done (.inl (s2,s3,s4)))

def kL (p0:Int)(p1:Int)(p2:Int)(p3:Int)(p4_0:gCrew):Option (Int×Int×Bool×gCrew):=
 (loopM (kA p1) (p0,p2,p3,p4_0)).bind fun e1=>
 match e1 with
 |.inl (y5,y6,y7)=>
  some (y5,y6,true,y7)
 |.inr r0=>
  some r0

def uV (p0:gCrew)(s:Int×gCrew×gCrew):Option (Flow (Int×gCrew×gCrew) (gCrew×gCrew)):=
 match s with
 |(s7,s8,s9)=>
 if ilt s7 (ilen p0.Threads)=true then
  (idx p0.Threads s7).bind fun v12=>
  (kB v12.Regs).bind fun r13=>
  (appx 32 s9.Threads [(⟨r13,v12.Pc⟩:gThread)]).bind fun l14=>
  some (.next (iadd .i64 s7 1,s8,(⟨s9.Codes,l14,s9.Boxes,s9.Turn,s9.Idle,s9.Out⟩:gCrew)))
 else
  some (.done (s8,s9))

def nN (p0:gCrew)(p1:Int):Option (gCrew×Bool):=
 (jS p0).bind fun r1=>
 (if bnot r1=true then some true else some (ilt p1 0)).bind fun g2=>
 (if g2=true then some true else some (igt p1 100000)).bind fun g3=>
 if g3=true then
  some ((⟨([]:List (List gQuad)),([]:List gThread),([]:List gBox),0,0,([]:List Int)⟩:gCrew),false)
 else
  (xS p0.Codes).bind fun r4=>
  (jI p0.Boxes).bind fun r5=>
  (kB p0.Out).bind fun r6=>
  (loopM (uV p0) (0,(⟨([]:List (List gQuad)),([]:List gThread),([]:List gBox),0,0,([]:List Int)⟩:gCrew),(⟨r4,([]:List gThread),r5,0,0,r6⟩:gCrew))).bind fun e1=>
  match e1 with
  |(y10,y11)=>
   (kL p1 (ilen y11.Threads) p0.Turn p0.Idle y11).bind fun r15=>
   some ((⟨r15.2.2.2.Codes,r15.2.2.2.Threads,r15.2.2.2.Boxes,r15.1,r15.2.1,r15.2.2.2.Out⟩:gCrew),true)

def qQ (p0:List Int)(p1:(List (List gQuad)))(p2:Int):Option (gCrew):=
 (vD p0 p1).bind fun r1=>
 (nN r1.1 p2).bind fun r2=>
 (if bnot r1.2=true then some true else some (bnot r2.2)).bind fun g3=>
 if g3=true then
  some (⟨([]:List (List gQuad)),([]:List gThread),([]:List gBox),0,0,([]:List Int)⟩:gCrew)
 else
  some r2.1

def s_BoxPut (p0:gBox)(p1:Int):Option (gBox×Bool):=
 (vK p0).bind fun r1=>
 (if bnot r1=true then some true else(kY p1).bind fun r2=>some (bnot r2)).bind fun g3=>
 (if g3=true then some true else some (ige (ilen p0.Items) p0.Room)).bind fun g4=>
 if g4=true then
  some ((⟨0,([]:List Int)⟩:gBox),false)
 else
  (appx 8 ([]:List Int) p0.Items).bind fun l5=>
  (appx 8 l5 ([p1]:List Int)).bind fun l6=>
  some ((⟨p0.Room,l6⟩:gBox),true)

def s_BoxTake (p0:gBox):Option (gBox×Int×Bool):=
 (vK p0).bind fun r1=>
 (if bnot r1=true then some true else some (ieq (ilen p0.Items) 0)).bind fun g2=>
 if g2=true then
  some ((⟨0,([]:List Int)⟩:gBox),0,false)
 else
  (cutx p0.Items 1 (ilen p0.Items)).bind fun l3=>
  (appx 8 ([]:List Int) l3).bind fun l4=>
  (idx p0.Items 0).bind fun v5=>
  some ((⟨p0.Room,l4⟩:gBox),v5,true)

def s_NextTurn (p0:Int)(p1:Int)(p2:Int)(p3:Int):Option (Int×Int×Bool):=
 (yJ p0 1 3).bind fun r1=>
 (if bnot r1=true then some true else(yJ p1 0 (isub .i64 p0 1)).bind fun r2=>some (bnot r2)).bind fun g3=>
 (if g3=true then some true else(yJ p2 0 (isub .i64 p0 1)).bind fun r4=>some (bnot r4)).bind fun g5=>
 if g5=true then
  some (0,0,false)
 else
  if ieq p3 1=true then
   some (p1,0,true)
  else
   if ieq p3 2=true then
    (remx (iadd .i64 p1 1) p0).bind fun v6=>
    some (v6,0,true)
   else
    (if ieq p3 3=true then
     some (ieq p3 3)
    else
     some (ieq p3 4)).bind fun j1=>
    if j1=true then
     (remx (iadd .i64 p1 1) p0).bind fun v8=>
     some (v8,iadd .i64 p2 1,true)
    else
     some (0,0,false)

end
end Go.Abs
